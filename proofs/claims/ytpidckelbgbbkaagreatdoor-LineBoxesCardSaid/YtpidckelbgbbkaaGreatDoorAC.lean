/- Part of LineBoxes. -/
import Derived.Test.YtpidckelbgbbkaaGreatDoorAA
namespace Go.Proofs.YtpidckelbgbbkaaGreatDoor
open Go.ChangeShapes Go.WideShapes Go.ChangeAt Go.RowKit Go.Proofs.Tryz
open Go.Value renaming int → ae
open Go.IntKind renaming i64 → aj
set_option linter.all false
set_option maxRecDepth 100000
set_option maxHeartbeats 16000000
variable{B N c g k m n:Nat}{cs:Array Value}{W w:World}{Q:aE->Prop}{A:aC}{l:Int}{G:Prop}{e:TypeId}
def ZX(N:Nat)(cs:Array Value):Sat:=⟨fun v w=>∃g:Nat,v= .pointer (some ⟨g,0,none⟩)/\N<=g/\Bx w g cs,fun v w e ⟨g,c,d,a⟩ b=>⟨g,c,d,a.ar b a.lt⟩⟩
theorem DG{w0:World}(n:aI w0)(cs:Array Value)(t:TypeId):(ZX w0.heap.size cs).p (.pointer (some ⟨n.1.heap.size,0,none⟩)) (n.1.alloc (.cells cs t))/\(∃m:aI w0,n.1.alloc (.cells cs t)=m.1)/\Below n.1.heap.size n.1 (n.1.alloc (.cells cs t)):=
 ⟨⟨_,rfl,n.2.size,Bx.new _ _ _⟩,⟨⟨_,n.2.trans ((av _ _).mono n.2.size)⟩,rfl⟩,av _ _⟩
theorem ZX.get(h:(ZX N cs).p (.pointer (some ⟨g,0,none⟩)) w):Bx w g cs:=by
 obtain⟨a,e,_,h⟩:=h;injection e with e
 injection e with e
 injection e with e
 subst e;exact h
def Ie(Q:aE->Prop)(n:Nat)(w:World)(A:aC)(m c x:Nat)(b:Bool):Prop:=b=true->m=n/\n<=c/\x<=n+1/\gi w Q A n
def Qf(Q:aE->Prop)(n:Nat):Sat:=⟨fun v w=>∃(A:aC) (m c x:Nat) (b:Bool) (l:Int),v= .agg (bE A m c x b l)/\Ie Q n w A m c x b,fun v w g ⟨A,m,c,x,b,l,f,a⟩ d=>⟨A,m,c,x,b,l,f,fun e=>⟨(a e).1,(a e).2.1,(a e).2.2.1,(a e).2.2.2.Z d d.size⟩⟩⟩
theorem Qf.get{x:Nat}{b:Bool}(h:(Qf Q n).p (.agg (bE A m c x b l)) w):Ie Q n w A m c x b:=by
 obtain⟨q,o,c',d,p,s,e,h⟩:=h;simp[bE]at e;obtain⟨⟨g,f,i⟩,r,j,k⟩:=e;have a:x=d:=aq;subst a;subst g;subst f;subst i;subst j
 exact h
theorem Bx.dn{b:Nat}{x:Int}{z:Bool}(h:Bx w b (bE A m c x z l)):w.cell? ⟨b,0,none⟩=some (.slice A m c)/\w.cell? ⟨b,1,none⟩=some (ae aj x)/\w.cell? ⟨b,2,none⟩=some (.bool z)/\w.cell? ⟨b,3,none⟩=some (ae aj l):=⟨h.cell 0,h.cell 1,h.cell 2,h.cell 3⟩
theorem Rq.off{m:World}(h:Rq w B k Q A n)(v:Bx w g cs)(F:cs.size<k)(y:∀b,b≠g->m.heap[b]? =w.heap[b]?):Rq m B k Q A n:=fun p=>by
 obtain⟨o,u,f,i⟩:=h p;have d:o.block≠g:=by
  intro e;obtain⟨l,E,_,D⟩:=i 0 p;have a:=D (k-1) (l[k-1]' aq) (by rw[List.getElem?_eq_getElem]);obtain⟨t,s⟩:=v;unfold World.cell? at a;rw[aO,aO,e,s]at a;simp only at a;split at a
  ·cases a
  ·have c:=(Array.getElem?_eq_some_iff.1 a).1
   unfold Addr.add at c;split at c<;>split at c<;>(try simp only[Nat.zero_mul]at c)<;>omega
 refine⟨o,u,f,fun j C=> ?_⟩;obtain⟨l,a,c,z⟩:=i j C;refine⟨l,a,c,fun q x r=> ?_⟩;have:=z q x r;unfold World.cell? at this⊢;rw[aO,aO]at this⊢;rw[y _ d];exact this
theorem Rq.YU(h:Rq w B k Q A n)(a:Bx w g cs)(c:cs.size<k)(ds:Array Value):Rq (w.setRow g ds) B k Q A n:=h.off a c fun b a=>setRow_other _ _ _ _ a
theorem gi.row(h:gi w Q A n)(a:Bx w g cs)(b:cs.size<10)(ds:Array Value):gi (w.setRow g ds) Q A n:=by
 have:=Rq.YU h a b ds;unfold gi;simpa using this
def So(d:Nat):Prop:=∀(f:db) (lo a:Int) (b at_ l:Int) (A:aC) (n c:Nat) (w:World),ca w w.heap.size f->gi w (bV lo a) A n->n<=c->n<=50000->
 Calls prog 251 #[f.v,ae aj b, .slice A n c,ae aj at_,ae aj l,ae aj (d:Int)] w (PDn w (bV lo a) n)
def neT(N:Nat)(Q:aE->Prop)(n:Nat)(d:Option Tmp):Option Sat:=if d=some 55 then some (Qf Q n)else if d=some 14 then some (ZX N (bE none 0 0 0 false 0))else none
theorem N'(d:Nat)(H:So (d+1))(f:db)(lo t:Int)(l:Int)(A:aC)(n c:Nat)(NA:aC)(j nc:Nat)(P:aC)(m pc:Nat)(w:World)(h:ca w w.heap.size f)(hl:gi w (bV lo t) A n)(hN:cM w w.heap.size AO NA j nc)(hP:Gs w 0 n P m pc)(G:n<=c)(hn:n<=50000)(hd:d<=8):
 Calls prog 289 #[f.v, .slice A n c, .slice P m pc, .slice NA j nc,ae aj l,ae aj (d:Int)] w (PDn w (bV lo t) n):=by
 have HO:=sH H;obtain⟨W,x⟩:=eX ((w.alloc (.cells f.row 82)).alloc (.cells (bE none 0 0 0 false 0) 281));obtain⟨K,q⟩:=eX (w.alloc (.cells f.row 82));have bF:aA w K:=by rw[q];exact av _ _
 have xF:Bx K w.heap.size f.row:=by rw[q];exact Bx.new _ _ _
 have T:K.heap.size=w.heap.size+1:=by rw[q];simp
 have cd:W=K.alloc (.cells (bE none 0 0 0 false 0) 281):=by rw[x,q]
 have b2:aA K W:=jT;have X1:=sH (xF.ar b2 xF.lt);have N:ak (Bx W (w.heap.size+1) (bE none 0 0 0 false 0)):=⟨by rw[cd];exact Bx.jt _ _ _ T⟩;have s:=sH (bF.trans (b2.mono bF.size));have R:=sH (h.Z s.o s.o.size);have B:=sH (hl.Z s.o s.o.size);have RN:=sH (hN.Z s.o s.o.size);have RP:=sH (hP.ar s.o);have ZV:=hN.bd;have jg:=N.o.lt;clear H h hl hN hP q bF xF T cd b2;go_enter func289,ntmps289;go_wp2;rw[<-x];clear x;go_loopg [1,4,13,14] (j+1) (fun gg v1 v4 jr _ wr=>∃(i:Nat) (A:aC) (c:Nat) (l:Int),j-i<gg/\i<=j/\v1= .slice A n c/\v4=ae aj l/\jr=ae aj (i:Int)/\n<=c/\ak (aA W wr)/\ak (gi wr (bV lo t) A n))
 ·exact⟨0,A,c,l,aq,aq,rfl,rfl,rfl,aq,cB,B⟩
 obtain⟨i,A,c,l,hg,Vm,rfl,rfl,rfl,G,b,B⟩:=hrel;have iq:=b.o.size;have O:=sH (RP.o.ar b.o);by_cases aH:i<j
 ·obtain⟨ad,y,z,rfl,e0,e1⟩:=yt (RN.o.Z b.o b.o.size) aH
  have i4:=aR i j;by_cases Z:y<0
  ·go_wp2
   go_roundg (j-i)
   ·exact⟨i+1,A,c,l,aq,aq,rfl,rfl,aQ,G,b,B⟩
   omega
  obtain⟨a,rfl⟩:∃a:Nat,y=(a:Int):=⟨y.toNat,aq⟩;by_cases ham:a<m;rotate_left
  ·have h1:((m:Int)<=(a:Int)):=by omega
   go_wp2;go_roundg (j-i)
   ·exact⟨i+1,A,c,l,aq,aq,rfl,rfl,aQ,G,b,B⟩
   omega
  have h1:¬((m:Int)<=(a:Int)):=aq;have h2:((a:Int)<(m:Int)):=aq;obtain⟨xs,_,_,u,_⟩:=O.o;obtain⟨gp,rfl,_,_⟩:=aB.form u aq;have X:=bI u ham;generalize nth xs a=p at*;obtain⟨c0,c1,J,c3,c4,c5⟩:=(X1.o.ar b.o X1.o.lt).f6;have RW:=sH (R.o.Z b.o b.o.size);have hO':=sH u;clear u Z;go_wp2;obtain⟨L0,L1,L2,L3,L4⟩:=lc5 c0 c1 J c3 c4;obtain⟨L5,M0,M1,MP⟩:=lc4 c5 e0 e1 X;clear c0 c1 J c3 c4 c5 e0 e1 X;refine aT (neT wr.heap.size (bV lo t) n) 20 rfl aF aF aF aF aF rfl ?_;refine mLw ?_;refine lwA (Qf (bV lo t) n) (fun r=> ?_) (fun v9 C=> ?_)
  ·go_simp
   refine aW (Qf (bV lo t) n) ((HO.o f lo t z p l A n c r.1 (RW.o.Z r.2 r.2.size) (B.o.Z r.2 r.2.size) G aq).mono ?_);rintro e w5 ⟨D,Q,c6,U,E,F,rfl,h6,hb⟩;exact⟨_,rfl,⟨D,Q,c6,U,E,F,rfl,h6⟩,hb⟩
  obtain⟨_,_,D,Q,c6,U,E,F,rfl,_⟩:=C;simp[Act.put];refine lwA (ZX wr.heap.size (bE none 0 0 0 false 0)) (fun r=> ?_) (fun v9 C=> ?_)
  ·go_simp
   exact DG r _ _
  obtain⟨_,_,g,rfl,ef,_⟩:=C;simp[Act.put];intro r V;have v:=ZX.get V.2;have o:=sH (Qf.get (by first|exact V.1.2|exact V.1));obtain⟨ee,S⟩:=v.heap;clear V L0 L1 L2 L3 L4 L5 M0 M1 MP;refine wp_store_row 281 (.tmp 14) (.tmp 55) rfl g _ rfl rfl ee _ S jM rfl dK ?_;have X8:=sH (v.row (ds:=bE D Q c6 (U:Int) E F));obtain⟨w8,k⟩:=eX (r.1.setRow g (bE D Q c6 (U:Int) E F));have Y:aA wr w8:=by rw[k];exact below_setRow r.2 ef _
  have B8:=sH (b.o.trans (Y.mono iq));have G8:=sH (B.o.Z Y Y.size);have H8:ak (Ie (bV lo t) n w8 D Q c6 U E):=⟨fun e=>⟨(o.o e).1,(o.o e).2.1,(o.o e).2.2.1,by rw[k];exact((o.o e).2.2.2).row v (by decide) _⟩⟩;rw[<-k]at X8;rw[<-k];clear k v S Y o;obtain⟨q0,q1,q2,q3⟩:=X8.o.dn;cases E
  ·go_wp2
   go_roundg (j-i)
   ·exact⟨i+1,A,c,F,aq,aq,rfl,rfl,aQ,G,B8,G8⟩
   omega
  ·obtain⟨rfl,Uh,h62,M⟩:=H8.o rfl
   have G9:=sH M;clear M;go_wp2;go_roundg (j-i)
   ·exact⟨i+1,D,c6,F,aq,aq,rfl,rfl,aQ,Uh,B8,G9⟩
   omega
 ·obtain rfl:i=j:=by omega
  obtain⟨xs,Fb,_,u,hx⟩:=O.o;obtain⟨gp,rfl,_,_⟩:=aB.form u aq;obtain⟨L,hL,JZ⟩:∃L:Nat,nth xs (m-1)=L/\L<n:=by
   have hl:=u.len;have:=hx (nth xs (m-1)) Bi;exact⟨(nth xs (m-1)).toNat,aq,aq⟩
  have X:=bI u (show m-1<m by omega);rw[hL]at X;have em:(((m:Int)-1)=((m-1:Nat):Int)):=aq;have i4:((m-1:Nat):Int)<(m:Int):=aq;obtain⟨ty,I⟩:=(N.o.ar b.o N.o.lt).heap;have de:(wr.setRow (w.heap.size+1) (bE A n c ((L:Int)+1) true l)).heap[w.heap.size+1]? =some (.cells (bE A n c ((L:Int)+1) true l) ty (0,0)):=setRow_heap _ _ _ _ _ _ I;have B5:ak (aA w (wr.setRow (w.heap.size+1) (bE A n c ((L:Int)+1) true l))):=⟨below_setRow (s.o.trans (b.o.mono s.o.size)) aq _⟩;have G5:ak (gi (wr.setRow (w.heap.size+1) (bE A n c ((L:Int)+1) true l)) (bV lo t) A n):=⟨B.o.row (N.o.ar b.o N.o.lt) bQ _⟩;clear u hx hL;go_wp2_with (refine wpList_store_row rfl 281 (.tmp 12) (.tmp 71) rfl (w.heap.size+1) (bE A n c ((L:Int)+1) true l) rfl rfl ty _ I jM aK dK ?_);refine bodyPost_ret (results_cell_row results289 _ _ (w.heap.size+1) ty _ (0,0) _ aK de underlying281 rfl aF) rfl ?_;exact⟨A,n,c,L+1,true,l,rfl,fun _=>⟨rfl,G,aq,G5.o⟩,B5.o⟩
theorem Tn(w:World)(o1 b:Obj)(cs:Array Value)(t:TypeId):aA w (((w.alloc o1).alloc (.cells cs t)).alloc b)/\Bx (((w.alloc o1).alloc (.cells cs t)).alloc b) (w.heap.size+1) cs:=by
 obtain⟨a,e1⟩:=eX (w.alloc o1);rw[<-e1];have d:a.heap.size=w.heap.size+1:=by rw[e1];simp
 have c:aA w a:=Qb;have x:=Bx.jt a cs t d;exact⟨(c.alloc aq _).alloc cA _,x.ar (av _ _) x.lt⟩
theorem Wx{o1:Obj}{d i g c4:Array Value}{m s t u:TypeId}(h:W=(((w.alloc (.cells d u)).alloc (.cells i m)).alloc (.cells g s)).alloc (.cells c4 t)):aA w W/\Bx W w.heap.size d/\Bx W (w.heap.size+1) i/\Bx W (w.heap.size+1+1) g/\Bx W (w.heap.size+1+1+1) c4/\W.heap.size=w.heap.size+4:=by
 obtain⟨a,e1⟩:=eX (w.alloc (.cells d u));obtain⟨b,f⟩:=eX (a.alloc (.cells i m));obtain⟨c,e⟩:=eX (b.alloc (.cells g s));have h:W=c.alloc (.cells c4 t):=by rw[h,e,f,e1]
 have l:a.heap.size=w.heap.size+1:=by rw[e1];simp
 have p:b.heap.size=w.heap.size+1+1:=by rw[f];simp[l]
 have o:c.heap.size=w.heap.size+1+1+1:=by rw[e];simp[p]
 have x:aA w a:=Qb;have q:aA a b:=by rw[f];exact av _ _
 have k:aA b c:=by rw[e];exact av _ _
 have j:aA c W:=JE;have n:Bx a w.heap.size d:=by rw[e1];exact Bx.new _ _ _
 have v:Bx b (w.heap.size+1) i:=by rw[f];exact Bx.jt _ _ _ l
 have r:Bx c (w.heap.size+1+1) g:=by rw[e];exact Bx.jt _ _ _ p
 have y:Bx W (w.heap.size+1+1+1) c4:=by rw[h];exact Bx.jt _ _ _ o
 exact⟨x.trans (((q.mono aq).trans (k.mono aq)).trans (j.mono aq)),((n.ar q n.lt).ar k aq).ar j aq,(v.ar k v.lt).ar j aq,r.ar j r.lt,y,by rw[h];simp[o]⟩
theorem ac2(s:G:=by
 go_enter func251,ntmps251
 go_wp2_with fail
 all_goals(
  obtain⟨b9,hX⟩:=Tn w (.cells f.row 82) (.cells (bE none 0 0 0 false l) 281) (bE none 0 0 0 false l) 281;obtain⟨ty,de⟩:=hX.heap;refine bodyPost_ret (results_cell_row results251 _ _ (w.heap.size+1) ty _ (0,0) _ aK de underlying281 rfl aF) rfl ?_;exact⟨none,0,0,0,false,l,rfl,aD,b9⟩)):G:=s
theorem iM(d:Nat)(hd:d<=9)(H:d<=8->So (d+1)):So d:=by
 intro f lo W lk at_ l A n c w h hl hc hn;have HO:ak _:=⟨H⟩;have qT:=h.rL.bd;by_cases h1:lk<0
 ·exact ac2
 obtain⟨j,rfl⟩:∃j:Nat,lk=(j:Int):=⟨lk.toNat,aq⟩;by_cases h2:j<f.ln;rotate_left
 ·have Dg:(f.ln:Int)<=(j:Int):=by omega
  go_enter func251,ntmps251;go_wp2_with fail
  all_goals(
   obtain⟨b9,hX⟩:=Tn w (.cells f.row 82) (.cells (bE none 0 0 0 false l) 281) (bE none 0 0 0 false l) 281;obtain⟨ty,de⟩:=hX.heap;refine bodyPost_ret (results_cell_row results251 _ _ (w.heap.size+1) ty _ (0,0) _ aK de underlying281 rfl aF) rfl ?_;exact⟨none,0,0,0,false,l,rfl,aD,b9⟩)
 have Dg:¬(f.ln:Int)<=(j:Int):=aq;by_cases h3:at_<0
 ·exact ac2
 obtain⟨a,rfl⟩:∃a:Nat,at_=(a:Int):=⟨at_.toNat,aq⟩;by_cases h4:a<n;rotate_left
 ·have Va:(n:Int)<=(a:Int):=by omega
  go_enter func251,ntmps251;go_wp2_with fail
  all_goals(
   obtain⟨b9,hX⟩:=Tn w (.cells f.row 82) (.cells (bE none 0 0 0 false l) 281) (bE none 0 0 0 false l) 281;obtain⟨ty,de⟩:=hX.heap;refine bodyPost_ret (results_cell_row results251 _ _ (w.heap.size+1) ty _ (0,0) _ aK de underlying281 rfl aF) rfl ?_;exact⟨none,0,0,0,false,l,rfl,aD,b9⟩)
 have Va:¬(n:Int)<=(a:Int):=aq;by_cases h5:d<=8;rotate_left
 ·have h5':=aR 8 d
  go_enter func251,ntmps251;go_wp2_with fail
  all_goals(
   obtain⟨b9,hX⟩:=Tn w (.cells f.row 82) (.cells (bE none 0 0 0 false l) 281) (bE none 0 0 0 false l) 281;obtain⟨ty,de⟩:=hX.heap;refine bodyPost_ret (results_cell_row results251 _ _ (w.heap.size+1) ty _ (0,0) _ aK de underlying281 rfl aF) rfl ?_;exact⟨none,0,0,0,false,l,rfl,aD,b9⟩)
 have h5':=cF 8 d;clear h1 h3;obtain⟨ad,k,eL,hk,e0,e1,e2,e3⟩:=rl h.rL h2;obtain⟨P,x0,x1,x2,x3,x4,x5,x6,p,x8,x9,rfl,hQ,eg,_⟩:=hl.ba h4;obtain⟨D,aP⟩:∃D,D=(((w.alloc (.cells f.row 82)).alloc (.cells (bE none 0 0 0 false 0) 281)).alloc (.cells (bE none 0 0 0 false l) 281)).alloc (.cells k.row 132):=⟨_,rfl⟩;obtain⟨Y,xf,x2',x3',xk,jg⟩:=Wx (o1:= .cells f.row 82) aP;have v:ak (aA w D):=⟨Y⟩;have X1:ak (Bx D w.heap.size f.row):=⟨xf⟩;have B:ak (Bx D (w.heap.size+1) (bE none 0 0 0 false 0)):=⟨x2'⟩;have J:ak (Bx D (w.heap.size+1+1) (bE none 0 0 0 false l)):=⟨x3'⟩;have X4:ak (Bx D (w.heap.size+1+1+1) k.row):=⟨xk⟩;have R:ak (ca D D.heap.size f):=⟨h.Z Y Y.size⟩;have RK:ak (lS D D.heap.size k):=⟨hk.Z Y Y.size⟩;have GL:ak (gi D (bV lo W) (some P) n):=⟨hl.Z Y Y.size⟩;have EG:ak (D.cell? (P.add (a*10))=some (ae aj x0)):=⟨au eg Y⟩;have sy:(j:Int)<(f.ln:Int):=aq;have Hz:=aR a n;have nL:=hk.rS.bd;clear H h hl hk Y xf x2' x3' xk hQ eg;obtain⟨em,G,gn,gc,MM,mn,mc,L,ln,lc,F,fn,fc,S,sn,sc⟩:=f;obtain⟨kk,fl,st,KS,Z,sr⟩:=k;dsimp only at*;subst eL;have b3:aA w (((w.alloc (.cells #[ae aj em, .slice G gn gc, .slice MM mn mc, .slice (some ad) ln lc, .slice F fn fc, .slice S sn sc] 82)).alloc (.cells #[.slice none 0 0,ae aj 0, .bool false,ae aj 0] 281)).alloc (.cells #[.slice none 0 0,ae aj 0, .bool false,ae aj l] 281)):=((av _ _).alloc aD _).alloc cA _;have e0:=au e0 b3;have e1:=au e1 b3;have e2:=au e2 b3;have e3:=au e3 b3
 clear b3;have dj:decide ((j:Int)<0)=false:=fC;have da:decide ((a:Int)<0)=false:=fC;go_enter func251,ntmps251;go_wp2;rw[<-aP];clear aP e0 e1 e2 e3;obtain⟨c0,M,m,O,c4,c5⟩:=X1.o.f6;obtain⟨V,T,U,N⟩:=X4.o.k4;have eg:=EG.o;dsimp only at c0 M m O c4 c5 V T U N eg;have L0:=aw c0;have L1:=aw M;have L2:=aw m;have L3:=aw O;have L4:=aw c4;have L5:=aw c5
 have M0:=aw V;have M1:=aw T;have M2:=aw U;have M3:=aw N;have LQ:=aw eg
 clear c0 M m O c4 c5 V T U N eg;refine aG (mj 57 SB) aF aF ?_
 repeat(refine du aK aK aK ?_;intro K9 cg;go_big_quiet_op;go_big_quiet_on)
 refine iW SB aK aK (fun w9 cv=> ?_) (fun v9 aV=> ?_)
 ·obtain⟨s,rfl⟩:=cv
  go_simp;exact bj (pv ⟨em,G,gn,gc,MM,mn,mc,some ad,ln,lc,F,fn,fc,S,sn,sc⟩ ⟨kk,fl,st,KS,Z,sr⟩ x0 s.1 (R.o.Z s.2 s.2.size))
 obtain⟨b,rfl⟩:=aV;simp[Act.put]
 repeat(refine du aK aK aK ?_;intro K9 cg;go_big_quiet_op;go_big_quiet_on)
 intro s;obtain⟨I,E⟩:=s;clear L0 L1 L2 L3 L4 L5 M0 M1 M2 M3 LQ EG;have b3:aA w I:=v.o.trans (E.mono v.o.size);have r3:=R.o.Z E E.size;have k3:=RK.o.Z E E.size;have g3:=GL.o.Z E E.size;have x1:=X1.o.ar E X1.o.lt;have x2:=B.o.ar E B.o.lt;have x3:=J.o.ar E J.o.lt;have x4:=X4.o.ar E X4.o.lt;clear v R RK GL X1 B J X4;have v:ak _:=⟨b3⟩;have R:ak _:=⟨r3⟩;have RK:ak _:=⟨k3⟩;have GL:ak _:=⟨g3⟩;have X1:ak _:=⟨x1⟩;have B:ak _:=⟨x2⟩;have J:ak _:=⟨x3⟩;have X4:ak _:=⟨x4⟩;have xi:=E.size;dsimp only;clear b3 r3 k3 g3 x1 x2 x3 x4 E;cases b;rotate_left
 ·obtain⟨q0,q1,q2,q3⟩:=(J.o.ar (Below.refl I.heap.size I) J.o.lt).dn
  obtain⟨ty,g⟩:=(B.o.ar (Below.refl I.heap.size I) B.o.lt).heap;have de:(I.setRow (w.heap.size+1) (bE none 0 0 0 false l)).heap[w.heap.size+1]? =some (.cells (bE none 0 0 0 false l) ty (0,0)):=setRow_heap _ _ _ _ _ _ g;have B5:ak (aA w (I.setRow (w.heap.size+1) (bE none 0 0 0 false l))):=⟨below_setRow (v.o.trans (Below.mono (Below.refl I.heap.size I) v.o.size)) aq _⟩;go_wp2_with (refine wpList_store_row rfl 281 (.tmp 12) (.tmp 58) rfl (w.heap.size+1) (bE none 0 0 0 false l) rfl rfl ty _ g jM aK dK ?_);refine bodyPost_ret (results_cell_row results251 _ _ (w.heap.size+1) ty _ (0,0) _ aK de underlying281 rfl aF) rfl ?_;exact⟨none,0,0,0,false,l,rfl,aD,B5.o⟩
 obtain⟨c0,M,m,O,c4,c5⟩:=X1.o.f6;obtain⟨V,T,U,N⟩:=X4.o.k4;dsimp only at c0 M m O c4 c5 V T U N;by_cases h12:kk=12
 ·subst h12
  have MT:ak _:=⟨Ft ⟨em,G,gn,gc,MM,mn,mc,some ad,ln,lc,F,fn,fc,S,sn,sc⟩ ⟨12,fl,st,KS,Z,sr⟩ (bV lo W) (some P) n c a I R.o RK.o GL.o aq h4⟩;go_wp2_with fail;refine MT.o.mono ?_;rintro e w4 ⟨i,A6,m6,c6,b6,rfl,h6,Q⟩;have X:ak _:=⟨h6⟩;have u:ak _:=⟨Q⟩;clear h6 Q MT c0 M m O c4 c5 V T U N;cases b6
  ·clear X
   obtain⟨q0,q1,q2,q3⟩:=(J.o.ar u.o J.o.lt).dn;obtain⟨ty,g⟩:=(B.o.ar u.o B.o.lt).heap;have de:(w4.setRow (w.heap.size+1) (bE none 0 0 0 false l)).heap[w.heap.size+1]? =some (.cells (bE none 0 0 0 false l) ty (0,0)):=setRow_heap _ _ _ _ _ _ g;have B5:ak (aA w (w4.setRow (w.heap.size+1) (bE none 0 0 0 false l))):=⟨below_setRow (v.o.trans (Below.mono u.o v.o.size)) aq _⟩;go_wp2_with (refine wpList_store_row rfl 281 (.tmp 12) (.tmp 77) rfl (w.heap.size+1) (bE none 0 0 0 false l) rfl rfl ty _ g jM aK dK ?_);refine bodyPost_ret (results_cell_row results251 _ _ (w.heap.size+1) ty _ (0,0) _ aK de underlying281 rfl aF) rfl ?_;exact⟨none,0,0,0,false,l,rfl,aD,B5.o⟩
  by_cases t:l=0
  ·have hl1:(l==0)=true:=by simp[t]
   clear t X;obtain⟨q0,q1,q2,q3⟩:=(J.o.ar u.o J.o.lt).dn;obtain⟨ty,g⟩:=(B.o.ar u.o B.o.lt).heap;have de:(w4.setRow (w.heap.size+1) (bE none 0 0 0 false l)).heap[w.heap.size+1]? =some (.cells (bE none 0 0 0 false l) ty (0,0)):=setRow_heap _ _ _ _ _ _ g;have B5:ak (aA w (w4.setRow (w.heap.size+1) (bE none 0 0 0 false l))):=⟨below_setRow (v.o.trans (Below.mono u.o v.o.size)) aq _⟩;go_wp2_with (refine wpList_store_row rfl 281 (.tmp 12) (.tmp 77) rfl (w.heap.size+1) (bE none 0 0 0 false l) rfl rfl ty _ g jM aK dK ?_);refine bodyPost_ret (results_cell_row results251 _ _ (w.heap.size+1) ty _ (0,0) _ aK de underlying281 rfl aF) rfl ?_;exact⟨none,0,0,0,false,l,rfl,aD,B5.o⟩
  have hl1:(l==0)=false:=by simp[t]
  clear t;obtain⟨uN,hP⟩:=X.o rfl;obtain⟨c0,M,m,O,c4,c5⟩:=(X1.o.ar u.o X1.o.lt).f6;obtain⟨V,T,U,N⟩:=(X4.o.ar u.o X4.o.lt).k4;dsimp only at uN c0 M m O c4 c5 V T U N;obtain⟨ve,x,rfl,hx,_,_,_,_,_,_,e6,_⟩:=jh (RK.o.Z u.o u.o.size).rS uN;have HN:ak _:=⟨hx.rN⟩;have HP:ak (Gs w4 0 n A6 m6 c6):=⟨hP.cN (Nat.zero_le _)⟩;have R4:ak _:=⟨R.o.Z u.o u.o.size⟩;have G4:ak _:=⟨GL.o.Z u.o u.o.size⟩;have i5:=aR i Z;obtain⟨ty,g⟩:=(B.o.ar u.o B.o.lt).heap;have HX5:ak _:=⟨g⟩;have IY:=u.o.size;clear X hP hx g;go_wp2;have L0:=aw c0;have L1:=aw M;have L2:=aw m;have L3:=aw O;have L4:=aw c4;have L5:=aw c5
  have M3:=aw N;have M6:=aw e6
  clear c0 M m O c4 c5 V T U N e6;refine aT (jd 90 (Qf (bV lo W) n)) 13 rfl aF aF aF aF aF rfl ?_
  repeat(refine bR aK aK aK ?_;intro K9 cg;go_big_quiet_op;go_big_quiet_on)
  refine cG (Qf (bV lo W) n) aK aK (fun w9 cv=> ?_) (fun v9 aV=> ?_)
  ·obtain⟨s,rfl⟩:=cv
   go_simp;refine aW (Qf (bV lo W) n) ((N' d (HO.o h5) ⟨em,G,gn,gc,MM,mn,mc,some ad,ln,lc,F,fn,fc,S,sn,sc⟩ lo W _ (some P) n c x.N x.nn x.nc A6 m6 c6 s.1 (R4.o.Z s.2 s.2.size) (G4.o.Z s.2 s.2.size) (HN.o.Z s.2 s.2.size) (HP.o.ar s.2) hc aq h5).mono ?_);rintro e K ⟨r,m7,q,p,y,C,rfl,h7,Q⟩;exact⟨_,rfl,⟨r,m7,q,p,y,C,rfl,h7⟩,Q⟩
  obtain⟨_,_,r,m7,q,p,y,C,rfl,_⟩:=aV;simp[Act.put];intro s hE;have Qk:ak _:=⟨Qf.get (by first|exact hE.2|exact hE)⟩;have z:=(s.2.block (w.heap.size+1) aq).trans HX5.o;clear hE L0 L1 L2 L3 L4 L5 M3 M6;refine wp_store_row 281 (.tmp 12) (.tmp 90) rfl (w.heap.size+1) _ rfl rfl ty _ z jM rfl dK ?_;have de:(s.1.setRow (w.heap.size+1) (bE r m7 q (p:Int) y C)).heap[w.heap.size+1]? =some (.cells (bE r m7 q (p:Int) y C) ty (0,0)):=setRow_heap _ _ _ _ _ _ z;have B5:ak (aA w (s.1.setRow (w.heap.size+1) (bE r m7 q (p:Int) y C))):=⟨below_setRow (v.o.trans ((u.o.trans (s.2.mono u.o.size)).mono v.o.size)) aq _⟩;have G5:ak (Ie (bV lo W) n (s.1.setRow (w.heap.size+1) (bE r m7 q (p:Int) y C)) r m7 q p y):=⟨fun e=>⟨(Qk.o e).1,(Qk.o e).2.1,(Qk.o e).2.2.1,(Qk.o e).2.2.2.row ⟨ty,z⟩ bQ _⟩⟩;go_wp2_with fail;refine bodyPost_ret (results_cell_row results251 _ _ (w.heap.size+1) ty _ (0,0) _ aK de underlying281 rfl aF) rfl ?_;exact⟨r,m7,q,p,y,C,rfl,G5.o,B5.o⟩
 have Wt:(kk==12)=false:=by simp[h12]
 clear h12;have SG:ak _:=⟨Ok ⟨em,G,gn,gc,MM,mn,mc,some ad,ln,lc,F,fn,fc,S,sn,sc⟩ ⟨kk,fl,st,KS,Z,sr⟩ lo W (some P) n c a I R.o RK.o GL.o hn h4⟩;go_wp2_with fail;refine SG.o.mono ?_;rintro e K ⟨r,m7,q,p,y,C,rfl,h7,Q⟩;have H7:ak _:=⟨h7⟩;have bw:aA I (K.alloc (.cells (bE r m7 q (p:Int) y C) 281)):=Q.alloc Q.size _;have X8:ak (Bx (K.alloc (.cells (bE r m7 q (p:Int) y C) 281)) K.heap.size (bE r m7 q (p:Int) y C)):=⟨Bx.new _ _ _⟩;have B8:ak (aA w (K.alloc (.cells (bE r m7 q (p:Int) y C) 281))):=⟨v.o.trans (bw.mono v.o.size)⟩;obtain⟨ty,g⟩:=(B.o.ar bw B.o.lt).heap;obtain⟨q0,q1,q2,q3⟩:=(J.o.ar Q J.o.lt).dn;have q0:=fun o=>aJ q0 o;have q1:=fun o=>aJ q1 o;have q2:=fun o=>aJ q2 o;have q3:=fun o=>aJ q3 o
 have hb5:=Q.size;have B9:ak (aA w K):=⟨v.o.trans (Q.mono v.o.size)⟩;have hX4:ak (K.heap[w.heap.size+1]? =some (.cells (bE none 0 0 0 false 0) ty (0,0))):=⟨((av K _).block _ aq).symm.trans g⟩;clear h7 Q bw SG c0 M m O c4 c5 V T U N;have BN:ak (aA w ((K.alloc (.cells (bE r m7 q (p:Int) y C) 281)).setRow (w.heap.size+1) (bE none 0 0 0 false l))):=⟨below_setRow B8.o aq _⟩;cases y
 ·clear H7 X8
  have de:=setRow_heap _ _ _ (bE none 0 0 0 false l) _ _ g;go_wp2_with (refine wpList_store_row rfl 281 (.tmp 12) (.tmp 103) rfl (w.heap.size+1) (bE none 0 0 0 false l) rfl rfl ty _ g jM aK dK ?_);refine bodyPost_ret (results_cell_row results251 _ _ (w.heap.size+1) ty _ (0,0) _ aK de underlying281 rfl aF) rfl ?_;exact⟨none,0,0,0,false,l,rfl,aD,BN.o⟩
 by_cases t:l=0
 ·have hl1:(l==0)=true:=by simp[t]
  clear t H7 X8;have de:=setRow_heap _ _ _ (bE none 0 0 0 false l) _ _ g;go_wp2_with (refine wpList_store_row rfl 281 (.tmp 12) (.tmp 103) rfl (w.heap.size+1) (bE none 0 0 0 false l) rfl rfl ty _ g jM aK dK ?_);refine bodyPost_ret (results_cell_row results251 _ _ (w.heap.size+1) ty _ (0,0) _ aK de underlying281 rfl aF) rfl ?_;exact⟨none,0,0,0,false,l,rfl,aD,BN.o⟩
 have hl1:(l==0)=false:=by simp[t]
 clear t X8;obtain⟨w6,ik⟩:∃w6,w6=K.alloc (.cells (bE r m7 q (p:Int) true (wrap64 (l-1))) 281):=⟨_,rfl⟩;have b6:aA K w6:=by rw[ik];exact av _ _
 have B6:ak (aA w w6):=⟨B9.o.trans (b6.mono aq)⟩;have z:=(b6.block (w.heap.size+1) aq).trans hX4.o;have X:ak (Ie (bV lo W) n w6 r m7 q p true):=⟨fun e=>⟨(H7.o e).1,(H7.o e).2.1,(H7.o e).2.2.1,(H7.o e).2.2.2.Z b6 b6.size⟩⟩;have de:=setRow_heap _ _ _ (bE r m7 q (p:Int) true (wrap64 (l-1))) _ _ z;have B5:ak (aA w (w6.setRow (w.heap.size+1) (bE r m7 q (p:Int) true (wrap64 (l-1))))):=⟨below_setRow B6.o aq _⟩;have G5:ak (Ie (bV lo W) n (w6.setRow (w.heap.size+1) (bE r m7 q (p:Int) true (wrap64 (l-1)))) r m7 q p true):=⟨fun e=>⟨(X.o e).1,(X.o e).2.1,(X.o e).2.2.1,(X.o e).2.2.2.row ⟨ty,z⟩ bQ _⟩⟩;clear b6 H7 g;go_wp2_with (rw[<-ik];refine wpList_store_row rfl 281 (.tmp 12) (.tmp 107) rfl (w.heap.size+1) (bE r m7 q (p:Int) true (wrap64 (l-1))) rfl rfl ty _ z jM aK dK ?_);refine bodyPost_ret (results_cell_row results251 _ _ (w.heap.size+1) ty _ (0,0) _ aK de underlying281 rfl aF) rfl ?_;exact⟨r,m7,q,p,true,wrap64 (l-1),rfl,G5.o,B5.o⟩
theorem Jb:So 0:=
 iM 0 aq fun _=>iM 1 aq fun _=>iM 2 aq fun _=>iM 3 aq fun _=>iM 4 aq fun _=>iM 5 aq fun _=>iM 6 aq fun _=>iM 7 aq fun _=>iM 8 aq fun _=>iM 9 aq fun h=>absurd h aq
def PSp(w:World)(Q:aE->Prop)(n:Nat)(e:Ending)(a:World):Prop:=∃(A:aC) (c:Nat) (l:Int),e= .returned (.tuple #[.slice A n c,ae aj l])/\n<=c/\gi a Q A n/\aA w a
def ZSp(Q:aE->Prop)(n:Nat):Sat:=⟨fun v w=>∃(A:aC) (c:Nat) (l:Int),v= .tuple #[.slice A n c,ae aj l]/\n<=c/\gi w Q A n,fun v w f ⟨A,c,l,d,e,b⟩ a=>⟨A,c,l,d,e,b.Z a a.size⟩⟩
theorem ZSp.get(h:(ZSp Q n).p (.tuple #[.slice A n c,ae aj l]) w):n<=c/\gi w Q A n:=by
 obtain⟨g,c',f,e,h⟩:=h;simp at e;obtain⟨⟨d,a⟩,b⟩:=e;subst b;subst d;subst a
 exact h
theorem aam(f:db)(lo q:Int)(I T l:Int)(A:aC)(n c:Nat)(w:World)(h:ca w w.heap.size f)(U:gi w (bV lo q) A n)(m:n<=c)(N:n<=50000):
 Calls prog 194 #[f.v,ae aj I,ae aj T, .slice A n c,ae aj l] w (PSp w (bV lo q) n):=by
 obtain⟨L,x,k,F⟩:=box1 w f.row 82;have R:=sH (h.Z k.o k.o.size);have b:=sH (U.Z k.o k.o.size);go_enter func194,ntmps194;go_wp2;rw[<-x];go_loopg [3,4,12,13,14] (n+3) (fun gg v3 v4 z _ _ wr=>∃(i:Nat) (A:aC) (c:Nat) (l:Int),n+2-i<gg/\i<=n+1/\v3= .slice A n c/\v4=ae aj l/\z=ae aj (i:Int)/\n<=c/\ak (gi wr (bV lo q) A n)/\ak (aA L wr))
 ·exact⟨0,A,c,l,aq,aq,rfl,rfl,rfl,m,b,cB⟩
 obtain⟨i,A,c,l,hg,O,rfl,rfl,rfl,m,b,g⟩:=hrel;by_cases y:i<n;rotate_left
 ·have G:=cF i n
  go_wp2;go_ret2;exact⟨A,c,l,rfl,m,b.o,k.o.trans (g.o.mono k.o.size)⟩
 obtain⟨u,X,V,x2,x3,x4,x5,a,x7,x8,x9,rfl,Z,_,_,_,_,_,_,_,_,_,e9⟩:=b.o.ba y;have W:=aR i n;obtain⟨c0,c1,M,Y,c4,c5⟩:=(F.o.ar g.o F.o.lt).f6;have P:=sH (Jb f lo q I (i:Int) l (some u) n c wr (R.o.Z g.o g.o.size) b.o m N);go_wp2_with fail
 ·refine P.o.mono ?_
  rintro e H ⟨p,o,c6,a,v,j,rfl,K,J⟩;have E:=sH K;have s:aA wr (H.alloc (.cells (bE p o c6 (a:Int) v j) 281)):=J.alloc J.size _;have r:=g.t s;have S:=sH (b.o.Z s s.size);have D:=av H (.cells (bE p o c6 (a:Int) v j) 281);cases v
  ·clear E D
   go_wp2;go_roundg (n+2-i)
   ·exact⟨i+1,some u,c,j,aq,aq,rfl,rfl,aQ,m,S,r⟩
   omega
  obtain⟨rfl,d,Q,B⟩:=E.o rfl;have C:=sH (B.Z D D.size);by_cases hx:i+1<=a
  ·have t:(i:Int)+1<=(a:Int):=by omega
   go_wp2_with fail
   all_goals first
    |(go_roundg (o+2-i)<;>first|omega|exact⟨a,p,c6,j,aq,aq,rfl,rfl,rfl,d,C,r⟩)
    |(go_roundg (o+2-i)<;>first|omega|exact⟨i+1,p,c6,j,aq,aq,rfl,rfl,aQ,d,C,r⟩)
  ·have t:¬(i:Int)+1<=(a:Int):=by omega
   go_wp2;go_roundg (o+2-i)
   ·exact⟨i+1,p,c6,j,aq,aq,rfl,rfl,aQ,d,C,r⟩
   omega
 ·go_roundg (n+2-i)
  case measure=>omega
  case rel=>exact⟨i+1,some u,c,l,aq,aq,rfl,rfl,aQ,m,b,g⟩
theorem abQ(f:db)(lo k:Int)(F:aC)(a P:Nat)(A:aC)(n c:Nat)(w:World)(h:ca w w.heap.size f)(L:gi w (bV lo k) A n)(r:n<=c)(U:n<=50000)(I:Rq w w.heap.size 2 J9 F a)(Q:a<=1000000000):
 Calls prog 118 #[f.v, .slice F a P, .slice A n c] w (fun e C=>∃(A:aC) (c:Nat),e= .returned (.slice A n c)/\n<=c/\gi C (bV lo k) A n/\aA w C):=by
 obtain⟨T,p,d,D⟩:=box1 w f.row 82;have R:=sH (h.Z d.o d.o.size);have s:=sH (L.Z d.o d.o.size);have X:=sH (I.Z d.o d.o.size);clear h L I;go_enter func118,ntmps118;go_wp2;rw[<-p];clear p;go_loopg [2,7,8,15] (a+1) (fun gg v2 v7 O _ wr=>∃(i:Nat) (A:aC) (c:Nat) (l:Int),a-i<gg/\i<=a/\v2= .slice A n c/\v7=ae aj l/\O=ae aj (i:Int)/\n<=c/\ak (gi wr (bV lo k) A n)/\ak (aA T wr))
 ·exact⟨0,A,c,65536,aq,aq,rfl,rfl,rfl,r,s,cB⟩
 obtain⟨i,A,c,l,hg,Y,rfl,rfl,rfl,r,s,j⟩:=hrel;by_cases v:i<a;rotate_left
 ·have H:=cF i a
  go_wp2;go_ret;exact⟨A,c,rfl,r,s.o,d.o.trans (j.o.mono d.o.size)⟩
 obtain⟨ad,x,y,rfl,_,K,G⟩:=(X.o.Z j.o j.o.size).abC v;have i4:=aR i a;obtain⟨c0,M,q,E,c4,c5⟩:=(D.o.ar j.o D.o.lt).f6;have R4:=sH (R.o.Z j.o j.o.size);go_wp2;obtain⟨L0,L1,Z,W,V,S,M0,M1⟩:=lc8 c0 M q E c4 c5 K G;clear c0 M q E c4 c5 K G;refine aY (jd 29 (ZSp (bV lo k) n)) aF aF ?_;refine mLw ?_;refine lwA (ZSp (bV lo k) n) (fun g=> ?_) (fun v9 z=> ?_)
 ·go_simp
  refine aW (ZSp (bV lo k) n) ((aam f lo k x y l A n c g.1 (R4.o.Z g.2 g.2.size) (s.o.Z g.2 g.2.size) r U).mono ?_);rintro e w5 ⟨u,c6,t,rfl,m,b,hb⟩;exact⟨_,rfl,⟨u,c6,t,rfl,m,b⟩,hb⟩
 obtain⟨_,_,u,c6,t,rfl,_⟩:=z;simp[Act.put];refine mLw ?_;intro g B;obtain⟨m,b⟩:=ZSp.get B;have N:=sH b;have J:=j.t g.2;obtain⟨w6,o⟩:=eX g.1;rw[<-o]at N J
 try dsimp only
 rw[<-o];clear o B b L0 L1 Z W V S M0 M1;go_wp2;go_roundg (a-i)
 ·exact⟨i+1,u,c6,t,aq,aq,rfl,rfl,aQ,m,N,J⟩
 omega
def PUU(w:World)(e:Ending)(a:World):Prop:=∃q r:Int,e= .returned (.tuple #[.int .u64 q, .int .u64 r])/\w=a
def PU(w:World)(e:Ending)(a:World):Prop:=∃q:Int,e= .returned (.int .u64 q)/\w=a
def PZ(w:World)(e:Ending)(a:World):Prop:=∃q:Int,e= .returned (ae aj q)/\w=a
theorem UK(a b den YN:Int)(w:World)(h:1<=den)(j:den<=16384):Calls prog 252 #[.int .u64 a, .int .u64 b, .int .u64 den, .int .u64 YN] w (PUU w):=by
 go_enter func252,ntmps252;go_wp2;go_loopg [10,11,12] 65 (fun gg v10 d c wr=>∃(i:Nat) (x y:Int),i<gg/\i<=64/\v10= .int .u64 x/\d= .int .u64 y/\c=ae aj ((i:Int)-1)/\wr=w)
 ·exact⟨64,0,0,aq,aq,rfl,rfl,rfl,rfl⟩
 obtain⟨i,x,y,f,g,rfl,rfl,rfl,rfl⟩:=hrel;rcases i with _|i
 ·go_wp2
  go_ret2;exact⟨_,_,rfl,rfl⟩
 ·have e:(((i+1:Nat):Int)-1)=(i:Int):=by omega
  rw[e];go_wp2_with fail
  all_goals
   go_roundg (i+1)
   ·exact⟨i,_,_,aq,aq,rfl,rfl,aQ,rfl⟩
   omega
theorem KP(n:Int)(w:World):Calls prog 253 #[ae aj n] w (PU w):=by
 go_enter func253,ntmps253;go_wp2_with fail
 all_goals
  go_ret;exact⟨_,rfl,rfl⟩
theorem Rg(n a b:Int)(w:World):Calls prog 254 #[ae aj n,ae aj a,ae aj b] w (PZ w):=by
 go_enter func254,ntmps254;go_wp2_with fail
 all_goals
  go_ret;exact⟨_,rfl,rfl⟩
theorem xO(n s:Int)(a:Int)(w:World)(d:1<=a)(g:a<=16384):Calls prog 195 #[ae aj n,ae aj s,ae aj a] w (PZ w):=by
 have b:¬a<1:=aq;go_enter func195,ntmps195;go_wp2_with fail;refine(KP _ _).mono ?_;rintro e _ ⟨q,rfl,rfl⟩;go_wp2_with fail;refine(KP _ _).mono ?_;rintro e _ ⟨c,rfl,rfl⟩;go_wp2_with fail;refine(UK _ _ _ _ _ aq aq).mono ?_;rintro e _ ⟨h,f,rfl,rfl⟩;go_wp2_with fail
 all_goals
  refine(Rg _ _ _ _).mono ?_;rintro e _ ⟨q4,rfl,rfl⟩;go_wp2;go_ret;exact⟨_,rfl,rfl⟩
theorem Ik(r:Int):Wf .i32 (aZ r).fw:=by
 have h:gQ.all (fun x=>(Lit.int .i32 x.2.2.fw).wf)=true:=yC;cases a:look gQ r with
 |none=>rw[mK a];decide
 |some p=>
  obtain⟨lo,c,b,_,_⟩:=pG _ _ _ a;have:=List.all_eq_true.1 h _ b;rw[mA a];split<;>exact this
def PR(w:World)(e:Ending)(a:World):Prop:=∃q:Int,e= .returned (.int .i32 q)/\Wf .i32 q/\aA w a
def ZR:Sat:=⟨fun v _=>∃z:Int,v= .int .i32 z/\Wf .i32 z,fun _ _ _ h _=>h⟩
theorem uW{r:Int}(h:Wf .i32 r): -2147483648<=r/\r<=2147483647:=by
 unfold Wf Lit.wf at h;simp at h;exact h
theorem abV(r l:Int)(w:World)(h:Wf .i32 r):Calls prog 249 #[.int .i32 r,ae aj l] w (PR w):=by
 obtain⟨b,c⟩:=uW h;have d:=sH (Ik r);have f:=sH h;go_enter func249,ntmps249;go_wp2_with fail;refine(eZ r b c w).mono ?_;rintro e g ⟨rfl,a⟩;generalize(aZ r).fw=m at*;go_wp2_with fail
 all_goals
  go_ret
  first
   |exact⟨_,rfl,d.o,a⟩
   |exact⟨_,rfl,f.o,a⟩
theorem Vh(H:aC)(a G:Nat)(ts:aE)(E:aC)(m mc:Nat)(w:World)(h:aL .i32 w H a G ts)(M:Iw w w.heap.size .i64 aN E m)(hn:a<=100000)(hm:m<=100000):
 Calls prog 190 #[.slice H a G, .slice E m mc] w (Nw w 21 .i32 (Wf .i32) a):=by
 have N:ak _:=⟨h⟩;have Y:ak _:=⟨M⟩;have S:ak ((prog.info? 21).map (·.zero)=some (some (.int .i32 0))):=⟨aF⟩;clear h M;go_enter func190,ntmps190;go_wp2_with (refine dY (p:=Wf .i32) UR S.o bQ rfl (.tmp 8) (.tmp 8) rfl a rfl rfl rfl rfl aq w.heap.size cr ?_;intro g w1 o1 J;have L:ak _:=⟨o1⟩;have I:ak _:=⟨J⟩;clear o1 J);go_loopg [6] (a+1) (fun gg Q wr=>∃(i:Nat),a-i<gg/\i<=a/\Q=ae aj (i:Int)/\ak (Ow wr w.heap.size 21 .i32 (Wf .i32) (some ⟨g,0,none⟩) a a)/\ak (aA w wr))
 ·exact⟨0,aq,aq,rfl,L,I⟩
 obtain⟨i,hg,hi,rfl,k,t⟩:=hrel;clear L I;by_cases b:i<a;rotate_left
 ·obtain rfl:i=a:=by omega
  go_wp2;go_ret;exact⟨_,_,rfl,k.o,t.o⟩
 have i4:=aR i a;obtain⟨P,z,rfl,u,n⟩:=(N.o.FU t.o).iw.get b;obtain⟨z1,D,R⟩:=k.o.get b;have f1:=k.o.fz i;have HZ:ak _:=⟨u⟩;have A:ak _:=⟨k.o.set i u⟩;have c:ak (aA w (wr.setCell ⟨g,i,none⟩ (.int .i32 z))):=⟨Below.setCell t.o (p:=⟨g,i,none⟩) k.o.lt.1 _⟩;clear u D;by_cases v:i<m;rotate_left
 ·have i5:=cF i m
  go_wp2;go_roundg (a-i)
  case measure=>omega
  case rel=>exact⟨i+1,aq,aq,aQ,A,c⟩
 have i5:=aR i m;go_wp2;generalize j:wr.setCell ⟨g,i,none⟩ (.int .i32 z)=w2;rw[j]at A c;clear j n R f1;obtain⟨B,z3,K,f,n⟩:=(N.o.FU c.o).iw.get b;obtain rfl:P=B:=by injection K
 obtain⟨T,y,rfl,_,F⟩:=(Y.o.Z c.o c.o.size).get v;have x:ak _:=⟨f⟩;have L0:=aw n;have L1:=aw F
 clear n F K f;refine aT (jd 37 ZR) 12 rfl aF aF aF aF aF rfl ?_
 repeat(refine bR aK aK aK ?_;intro U s;go_big_quiet_op;go_big_quiet_on)
 refine cG ZR aK aK (fun w9 r=> ?_) (fun v9 C=> ?_)
 ·obtain⟨d,rfl⟩:=r
  go_simp;refine aW ZR ((abV z3 y d.1 x.o).mono ?_);rintro e w5 ⟨q,rfl,o,X⟩;exact⟨_,rfl,⟨q,rfl,o⟩,X⟩
 obtain⟨_,_,q,rfl,o⟩:=C;simp[Act.put]
 repeat(refine bR aK aK aK ?_;intro U s;go_big_quiet_op;go_big_quiet_on)
 intro d O;have l:ak _:=⟨A.o.ar d.2⟩;have W:ak (aA w d.1):=⟨c.o.trans (d.2.mono c.o.size)⟩;obtain⟨z5,_,e5⟩:=l.o.get b;have f5:=l.o.fz i;have Z:ak _:=⟨l.o.set i o⟩;have V:ak (aA w (d.1.setCell ⟨g,i,none⟩ (.int .i32 q))):=⟨Below.setCell W.o (p:=⟨g,i,none⟩) l.o.lt.1 _⟩;clear O L0 L1 o;go_simp;go_wp2;go_roundg (a-i)
 case measure=>omega
 case rel=>exact⟨i+1,aq,aq,aQ,Z,V⟩
theorem NU(s:ByteArray)(w:World):Calls prog 186 #[.string s] w (PB w):=by
 go_enter func186,ntmps186;go_wp2_with fail
 all_goals
  go_ret;exact⟨_,rfl,Below.refl _ _⟩
theorem xX(s:ByteArray)(w:World):Calls prog 247 #[.string s] w (PZ w):=by
 go_enter func247,ntmps247;go_wp2_with fail
 all_goals
  go_ret;exact⟨_,rfl,rfl⟩
def PBe(w:World)(e:Ending)(a:World):Prop:=∃z:Bool,e= .returned (.bool z)/\w=a
theorem W8(n:Int)(k:Nat)(w:World)(b:k<=1000000):Calls prog 187 #[ae aj n,ae aj (k:Int)] w (PBe w):=by
 go_enter func187,ntmps187;by_cases h:k<16
 ·have a:(k:Int)<16:=by omega
  go_wp2;go_ret;exact⟨_,rfl,rfl⟩
 ·have a:¬(k:Int)<16:=by omega
  go_wp2;go_ret;exact⟨_,rfl,rfl⟩
theorem Yy(a c j k i b e l f d:Int)(w:World):Calls prog 196 #[.agg #[ae aj a,ae aj c,ae aj j,ae aj k,ae aj i,ae aj b,ae aj e,ae aj l,ae aj f,ae aj d]] w (PB w):=by
 go_enter func196,ntmps196;by_cases h:a=0
 ·have g:(a==0)=true:=by simp[h]
  go_wp2;go_ret;exact⟨_,rfl,av _ _⟩
 ·have g:(a==0)=false:=by simp[h]
  go_wp2;go_ret;exact⟨_,rfl,av _ _⟩
theorem Vg(A:aC)(n c:Nat)(w:World)(h:Iw w w.heap.size .i64 aN A n)(u:n<=100000):Calls prog 191 #[.slice A n c] w (Nw w 3 .i64 aN n):=by
 have R:=sH h;go_enter func191,ntmps191;go_wp2;go_loopg [3,4,5] (n+1) (fun gg v3 v4 _ wr=>∃(i:Nat) (d:aC) (e:Nat),n-i<gg/\i<=n/\v3= .slice d i e/\v4=ae aj (i:Int)/\ak (Ow wr w.heap.size 3 .i64 aN d i e)/\ak (aA w wr))
 ·exact⟨0,none,0,aq,aq,rfl,rfl,⟨Ow.nil _ _ _ _ _⟩,cB⟩
 obtain⟨i,d,e,r,v,rfl,rfl,g,a⟩:=hrel;by_cases b:i<n;rotate_left
 ·obtain rfl:i=n:=by omega
  go_wp2;go_ret;exact⟨_,_,rfl,g.o,a.o⟩
 have p:=aR i n;obtain⟨q,z,rfl,_,s⟩:=(R.o.Z a.o a.o.size).get b;have k:=a.o.size;go_wp2_with (at_builtin;refine bS nA rfl (.tmp 24) (.tmp 26) rfl rfl (g.o.alloc _) rfl (aX _ _ _) trivial aq cA ?_;intro l c8 t f j;have m:=sH f;have o:=sH ((a.o.alloc k _).trans j);clear f j)
 all_goals
  go_roundg (n-i)
  ·exact⟨i+1,l,c8,aq,aq,rfl,aQ,m,o⟩
  omega
theorem TSt:aS prog 177 253 2 16:=bD underlying177 (z:= .agg #[ae aj 0,ae aj 0]) aF rfl aq aq
abbrev Cc(w:World)(B:Nat)(A:aC)(n c:Nat):Prop:=Oq w B 253 2 J9 A n c
def Yv(lo a:Nat)(A:aC):Prop:=∀g,A=some ⟨g,0,none⟩->g<lo∨a<=g
theorem Yv.apart{lo d:Nat}{A:aC}(h:Yv lo d A)(i:lo<=g)(j:g<d):bO A (some ⟨g,0,none⟩):=fun b e a=>by
 have f:=h b e;injection a with a
 injection a with a
 omega
theorem Yv.grow{lo a N:Nat}{A d:aC}(h:Yv lo a A)(i:a<=N)(f:∀g,d=some ⟨g,0,none⟩->A=some ⟨g,0,none⟩∨N<=g):Yv lo a d:=fun g e=>by
 rcases f g e with b|b
 ·exact h g b
 ·omega
theorem Oq.kept{w w':World}{B n c d:Nat}{A C:aC}(h:Oq w B e k Q A n c)(b:w.grownBy w' (Value.slice C m d).ownBlock)(l:bO A C)(a:C=none∨∃g,C=some ⟨g,0,none⟩):Oq w' B e k Q A n c:=by
 obtain⟨gs,i,j,f⟩:=h;exact⟨gs,i,j,aB.kept f b l a⟩
theorem Oq.lt2{w:World}{B n c:Nat}{A:aC}(h:Oq w B e k Q A n c)(e:A=some ⟨g,0,none⟩):B<=g/\g<w.heap.size:=by subst e;exact h.lt
abbrev cV(A:aC)(n c:Nat)(A2:aC)(n2 c2:Nat):Array Value:= #[.slice A n c, .slice A2 n2 c2]
structure Pw(B N:Nat)(fr tr:Array Value)(A:aC)(n c:Nat)(A2:aC)(n2 c2:Nat)(w:World):Prop where
 bf:Bx w N fr
 bp:Bx w (N+1) (cV A n c A2 n2 c2)
 bt:Bx w (N+1+1) tr
 bz:Bx w (N+1+1+1) (cV none 0 0 none 0 0)
 o1:Cc w B A n c
 o2:Cc w B A2 n2 c2
 ap:bO A A2
 f1:Yv N (N+4) A
 f2:Yv N (N+4) A2
section
variable {B N n c n2 c2 : Nat} {fr tr : Array Value} {A A2 : aC} {w w' : World}
theorem Pw.ar(h:Pw B N fr tr A n c A2 n2 c2 w)(a:aA w w'):Pw B N fr tr A n c A2 n2 c2 w':=
 ⟨h.bf.ar a h.bf.lt,h.bp.ar a h.bp.lt,h.bt.ar a h.bt.lt,h.bz.ar a h.bz.lt,h.o1.ar a,h.o2.ar a,h.ap,h.f1,h.f2⟩
theorem Pw.Ob(h:Pw B N fr tr A n c A2 n2 c2 w)(l:B<=N){j:aC}{c':Nat}(o:Cc w' B j (n+1) c')(a:w.grownBy w' (Value.slice A n c).ownBlock)(k:∀g,j=some ⟨g,0,none⟩->A=some ⟨g,0,none⟩∨w.heap.size<=g):
 Pw B N fr tr j (n+1) c' A2 n2 c2 (w'.setCell ⟨N+1,0,none⟩ (.slice j (n+1) c')):=by
 have m:=h.bz.lt;have f:=h.o1.head;have d:=h.f1.grow aq k;have b:∀g,g≠N+1->(w'.setCell ⟨N+1,0,none⟩ (.slice j (n+1) c')).heap[g]? =w'.heap[g]? :=fun g a=>Below.heap_setCell _ _ _ _ a
 refine⟨?_,(h.bp.kept a (h.f1.apart aq aq) f).kJ 0 _, ?_, ?_,Oq.mE o (d.apart aq aq) 0 _,Oq.mE (h.o2.kept a h.ap.symm f) (h.f2.apart aq aq) 0 _,h.ap.grow (fun g e=>(h.o2.lt2 e).2) k,d,h.f2⟩
 ·obtain⟨t,i⟩:=h.bf.kept a (h.f1.apart aq aq) f
  exact⟨t,(b _ aq).trans i⟩
 ·obtain⟨t,i⟩:=h.bt.kept a (h.f1.apart aq aq) f
  exact⟨t,(b _ aq).trans i⟩
 ·obtain⟨t,i⟩:=h.bz.kept a (h.f1.apart aq aq) f
  exact⟨t,(b _ aq).trans i⟩
theorem Pw.Kd(h:Pw B N fr tr A n c A2 n2 c2 w)(l:B<=N){j:aC}{c':Nat}(o:Cc w' B j (n2+1) c')(a:w.grownBy w' (Value.slice A2 n2 c2).ownBlock)(k:∀g,j=some ⟨g,0,none⟩->A2=some ⟨g,0,none⟩∨w.heap.size<=g):
 Pw B N fr tr A n c j (n2+1) c' (w'.setCell ⟨N+1,1,none⟩ (.slice j (n2+1) c')):=by
 have m:=h.bz.lt;have f:=h.o2.head;have d:=h.f2.grow aq k;have b:∀g,g≠N+1->(w'.setCell ⟨N+1,1,none⟩ (.slice j (n2+1) c')).heap[g]? =w'.heap[g]? :=fun g a=>Below.heap_setCell _ _ _ _ a
 refine⟨?_,(h.bp.kept a (h.f2.apart aq aq) f).kJ 1 _, ?_, ?_,Oq.mE (h.o1.kept a h.ap f) (h.f1.apart aq aq) 1 _,Oq.mE o (d.apart aq aq) 1 _,(h.ap.symm.grow (fun g e=>(h.o1.lt2 e).2) k).symm,h.f1,d⟩
 ·obtain⟨t,i⟩:=h.bf.kept a (h.f2.apart aq aq) f
  exact⟨t,(b _ aq).trans i⟩
 ·obtain⟨t,i⟩:=h.bt.kept a (h.f2.apart aq aq) f
  exact⟨t,(b _ aq).trans i⟩
 ·obtain⟨t,i⟩:=h.bz.kept a (h.f2.apart aq aq) f
  exact⟨t,(b _ aq).trans i⟩
end
def PPn(w:World)(B N:Nat)(e:Ending)(w':World):Prop:=∃(A:aC) (n c:Nat) (A2:aC) (n2 c2:Nat),e= .returned (.agg (cV A n c A2 n2 c2))/\n<=N/\n2<=N/\Cc w' B A n c/\Cc w' B A2 n2 c2/\bO A A2/\Below B w w'
abbrev pq(tag:ByteArray)(b:Int)(e:aC)(a d:Nat):Array Value:= #[.string tag,ae aj b, .slice e a d]
theorem yd:(prog.info? 179).map (·.size)=some 2:=by kernel_rfl
theorem aa'{w:World}{a c2 b c4:Array Value}{d g f:TypeId}(h:W=(((w.alloc (.cells a d)).alloc (.cells c2 e)).alloc (.cells b g)).alloc (.cells c4 f)):aA w W/\Bx W w.heap.size a/\Bx W (w.heap.size+1) c2/\Bx W (w.heap.size+1+1) b/\Bx W (w.heap.size+1+1+1) c4/\W.heap.size=w.heap.size+4:=Wx (o1:= .cells a d) h
theorem eJ(w:World)(a b:Obj):aA w ((w.alloc a).alloc b):=(av _ _).alloc aD _
theorem Nd(f:db)(A:aC)(n c:Nat)(A2:aC)(n2 c2:Nat)(tag:ByteArray)(P:Int)(x:aC)(b y:Nat)(B N:Nat)(w:World)(M:B<=w.heap.size)(h:ca w B f)(hL:cM w B ew x b y)(qT:b<=64)(o1:Cc w B A n c)(o2:Cc w B A2 n2 c2)(ap:bO A A2)(hN:N<=1000000)(hn:n<=N)(Q:n2<=N):
 Calls prog 188 #[f.v, .agg (cV A n c A2 n2 c2), .agg (pq tag P x b y)] w (PPn w B (N+64)):=by
 obtain⟨O,F⟩:=eX ((((w.alloc (.cells f.row 82)).alloc (.cells (cV A n c A2 n2 c2) 179)).alloc (.cells (pq tag P x b y) 238)).alloc (.cells (cV none 0 0 none 0 0) 179));obtain⟨I,xf,x2,x3,x4,jg⟩:=aa' F;have a:ak (Pw B w.heap.size f.row (pq tag P x b y) A n c A2 n2 c2 O):=⟨⟨xf,x2,x3,x4,o1.ar I,o2.ar I,ap,fun g e=> .inl (o1.lt2 e).2,fun g e=> .inl (o2.lt2 e).2⟩⟩;have R:=sH (h.Z (I.mono M) cr);have RL:=sH (hL.Z (I.mono M) cr);have B1:=sH (I.mono M);have hfl:=h.rL.bd;go_enter func188,ntmps188;go_wp2;rw[<-F];go_loopg [7,8,9,10] (b+1) (fun gg v7 _ _ _ wr=>∃(i:Nat) (A:aC) (n c:Nat) (A2:aC) (n2 c2:Nat),b-i<gg/\i<=b/\v7=ae aj (i:Int)/\n<=N+i/\n2<=N+i/\ak (Pw B w.heap.size f.row (pq tag P x b y) A n c A2 n2 c2 wr)/\ak (Below B O wr))
 ·exact⟨0,A,n,c,A2,n2,c2,aq,aq,rfl,aq,aq,a,cB⟩
 obtain⟨i,A,n,c,A2,n2,c2,hg,hi,rfl,hn,Q,a,l⟩:=hrel;obtain⟨c0,c1,aU,m,c4,c5⟩:=a.o.bf.f6;have t0:wr.cell? ⟨w.heap.size+1+1,0,none⟩=some (.string tag):=a.o.bt.cell 0;have t2:wr.cell? ⟨w.heap.size+1+1,2,none⟩=some (.slice x b y):=a.o.bt.cell 2;have s:wr.cell? ⟨w.heap.size+1,0,none⟩=some (.slice A n c):=a.o.bp.cell 0;have r:wr.cell? ⟨w.heap.size+1,1,none⟩=some (.slice A2 n2 c2):=a.o.bp.cell 1;have hsW:=a.o.bz.lt;by_cases V:i<b;rotate_left
 ·obtain⟨W,z⟩:=a.o.bz.heap
  have U:(wr.setRow (w.heap.size+1+1+1) (cV A n c A2 n2 c2)).heap[w.heap.size+1+1+1]? =some (.cells (cV A n c A2 n2 c2) W (0,0)):=setRow_heap _ _ _ _ _ _ z;have B5:ak (Below B w (wr.setRow (w.heap.size+1+1+1) (cV A n c A2 n2 c2))):=⟨below_setRow (B1.o.trans l.o) aq _⟩;have O1:ak (Cc (wr.setRow (w.heap.size+1+1+1) (cV A n c A2 n2 c2)) B A n c):=⟨a.o.o1.ia (a.o.f1.apart aq aq) (cV A n c A2 n2 c2)⟩;have O2:ak (Cc (wr.setRow (w.heap.size+1+1+1) (cV A n c A2 n2 c2)) B A2 n2 c2):=⟨a.o.o2.ia (a.o.f2.apart aq aq) (cV A n c A2 n2 c2)⟩;go_wp2_with (refine wpList_store_row rfl 179 (.tmp 6) (.tmp 67) rfl (w.heap.size+1+1+1) (cV A n c A2 n2 c2) rfl rfl W _ z yd aK dK ?_);refine bodyPost_ret (results_cell_row results188 _ _ (w.heap.size+1+1+1) W _ (0,0) _ aK U underlying179 rfl aF) rfl ?_;exact⟨A,n,c,A2,n2,c2,rfl,aq,aq,O1.o,O2.o,a.o.ap,B5.o⟩
 have i4:=aR i b;obtain⟨qx,Y,rfl,e0⟩:=ie (RL.o.Z l.o cr) V;by_cases h1:Y<0
 ·go_wp2
  go_roundg (b-i)
  ·exact⟨i+1,A,n,c,A2,n2,c2,aq,aq,aQ,aq,aq,a,l⟩
  omega
 obtain⟨j,rfl⟩:∃j:Nat,Y=(j:Int):=⟨Y.toNat,aq⟩;by_cases h2:j<f.ln;rotate_left
 ·have Dg:(f.ln:Int)<=(j:Int):=by omega
  go_wp2;go_roundg (b-i)
  ·exact⟨i+1,A,n,c,A2,n2,c2,aq,aq,aQ,aq,aq,a,l⟩
  omega
 have Dg:¬(f.ln:Int)<=(j:Int):=aq;have abO:(j:Int)<(f.ln:Int):=aq;obtain⟨ad,k,eL,hk,t,_⟩:=rl (R.o.Z l.o cr).rL h2;rw[eL]at m;by_cases S:1<=k.kind/\k.kind<=5
 ·obtain⟨S,k2⟩:=S
  go_wp2_with fail;refine(xX tag wr).mono ?_;rintro e _ ⟨q,rfl,rfl⟩;have m:=fun o=>aJ m o;have t:=fun o=>aJ t o;have s:=fun o=>aJ s o;have r:=fun o=>aJ r o
  have d:=sH (a.o.ar (eJ wr (.cells #[ae aj (j:Int),ae aj q] 253) (.cells #[ae aj (j:Int),ae aj q] 253)));have K:=sH (l.o.trans ((eJ wr (.cells #[ae aj (j:Int),ae aj q] 253) (.cells #[ae aj (j:Int),ae aj q] 253)).mono (show B<=wr.heap.size by omega)));have D:=sH (a.o.ar (av wr (.cells #[ae aj (j:Int),ae aj q] 253)));have H:=sH (l.o.trans ((av wr (.cells #[ae aj (j:Int),ae aj q] 253)).mono (show B<=wr.heap.size by omega)));go_wp2_with (at_builtin;refine dI TSt rfl (.tmp 50) (.tmp 52) rfl rfl d.o.o1 rfl [(j:Int),q] rfl (cJ _ _ _ _ _ aD rfl) trivial aq cA ?_;intro E c8 G C L v J;have u:=d.o.bp.kept v (d.o.f1.apart aq aq) d.o.o1.head;have q0:G.cell? ⟨w.heap.size+1,0,none⟩=some (.slice A n c):=u.cell 0;have g0:=u.fz 0;have T:=sH (d.o.Ob M C v J);have Z:ak (Below B O (G.setCell ⟨w.heap.size+1,0,none⟩ (.slice E (n+1) c8))):=⟨Below.setCell (K.o.trans L) (p:=⟨w.heap.size+1,0,none⟩) (by show B<=w.heap.size+1;omega) _⟩;clear C L v J u);go_roundg (b-i)
  ·exact⟨i+1,E,n+1,c8,A2,n2,c2,aq,aq,aQ,aq,aq,T,Z⟩
  omega
 ·by_cases k6:6<=k.kind/\k.kind<=12
  ·obtain⟨S,k2⟩:=k6
   have k3:¬k.kind<=5:=aq;have k4:1<=k.kind:=aq;go_wp2_with fail;refine(xX tag wr).mono ?_;rintro e _ ⟨q,rfl,rfl⟩;have m:=fun o=>aJ m o;have t:=fun o=>aJ t o;have s:=fun o=>aJ s o;have r:=fun o=>aJ r o
   have d:=sH (a.o.ar (eJ wr (.cells #[ae aj (j:Int),ae aj q] 253) (.cells #[ae aj (j:Int),ae aj q] 253)));have K:=sH (l.o.trans ((eJ wr (.cells #[ae aj (j:Int),ae aj q] 253) (.cells #[ae aj (j:Int),ae aj q] 253)).mono (show B<=wr.heap.size by omega)));have D:=sH (a.o.ar (av wr (.cells #[ae aj (j:Int),ae aj q] 253)));have H:=sH (l.o.trans ((av wr (.cells #[ae aj (j:Int),ae aj q] 253)).mono (show B<=wr.heap.size by omega)));go_wp2_with (at_builtin;refine dI TSt rfl (.tmp 62) (.tmp 64) rfl rfl d.o.o2 rfl [(j:Int),q] rfl (cJ _ _ _ _ _ aD rfl) trivial aq cA ?_;intro E c8 G C L v J;have u:=d.o.bp.kept v (d.o.f2.apart aq aq) d.o.o2.head;have q0:G.cell? ⟨w.heap.size+1,1,none⟩=some (.slice A2 n2 c2):=u.cell 1;have g0:=u.fz 1;have T:=sH (d.o.Kd M C v J);have Z:ak (Below B O (G.setCell ⟨w.heap.size+1,1,none⟩ (.slice E (n2+1) c8))):=⟨Below.setCell (K.o.trans L) (p:=⟨w.heap.size+1,1,none⟩) (by show B<=w.heap.size+1;omega) _⟩;clear C L v J u);go_roundg (b-i)
   ·exact⟨i+1,A,n,c,E,n2+1,c8,aq,aq,aQ,aq,aq,T,Z⟩
   omega
  ·have X:k.kind<1∨12<k.kind:=by omega
   rcases X with X|X
   ·have k3:¬1<=k.kind:=by omega
    have k4:¬6<=k.kind:=aq;go_wp2_with fail;refine(xX tag wr).mono ?_;rintro e _ ⟨q,rfl,rfl⟩;have m:=fun o=>aJ m o;have t:=fun o=>aJ t o;have s:=fun o=>aJ s o;have r:=fun o=>aJ r o
    have d:=sH (a.o.ar (eJ wr (.cells #[ae aj (j:Int),ae aj q] 253) (.cells #[ae aj (j:Int),ae aj q] 253)));have K:=sH (l.o.trans ((eJ wr (.cells #[ae aj (j:Int),ae aj q] 253) (.cells #[ae aj (j:Int),ae aj q] 253)).mono (show B<=wr.heap.size by omega)));have D:=sH (a.o.ar (av wr (.cells #[ae aj (j:Int),ae aj q] 253)));have H:=sH (l.o.trans ((av wr (.cells #[ae aj (j:Int),ae aj q] 253)).mono (show B<=wr.heap.size by omega)));go_wp2;go_roundg (b-i)
    ·exact⟨i+1,A,n,c,A2,n2,c2,aq,aq,aQ,aq,aq,D,H⟩
    omega
   ·have k3:1<=k.kind:=by omega
    have k4:6<=k.kind:=aq;have k5:¬k.kind<=5:=aq;have k6:¬k.kind<=12:=aq;go_wp2_with fail;refine(xX tag wr).mono ?_;rintro e _ ⟨q,rfl,rfl⟩;have m:=fun o=>aJ m o;have t:=fun o=>aJ t o;have s:=fun o=>aJ s o;have r:=fun o=>aJ r o
    have d:=sH (a.o.ar (eJ wr (.cells #[ae aj (j:Int),ae aj q] 253) (.cells #[ae aj (j:Int),ae aj q] 253)));have K:=sH (l.o.trans ((eJ wr (.cells #[ae aj (j:Int),ae aj q] 253) (.cells #[ae aj (j:Int),ae aj q] 253)).mono (show B<=wr.heap.size by omega)));have D:=sH (a.o.ar (av wr (.cells #[ae aj (j:Int),ae aj q] 253)));have H:=sH (l.o.trans ((av wr (.cells #[ae aj (j:Int),ae aj q] 253)).mono (show B<=wr.heap.size by omega)));go_wp2;go_roundg (b-i)
    ·exact⟨i+1,A,n,c,A2,n2,c2,aq,aq,aQ,aq,aq,D,H⟩
    omega
theorem s'{j:Nat}(h:cM w B Fi A n c)(o:j<n):∃(a:Addr) (z:ByteArray) (g:Int) (d:aC) (b f:Nat),A=some a/\cM w B ew d b f/\w.cell? (a.add (j*3))=some (.string z)/\w.cell? (bW (a.add (j*3)) 1)=some (ae aj g)/\w.cell? (bW (a.add (j*3)) 2)=some (.slice d b f):=by
 obtain⟨a,e,_,l⟩:=h.2.2.2 aq;obtain⟨s,m,i⟩:=l j o;obtain⟨u0,r,rfl,⟨z,rfl,_⟩,u1,p,rfl,⟨g,rfl,_⟩,d,b,f,rfl,q⟩:=m;have k:=i 0 _ rfl;rw[eQ]at k;exact⟨a,z,g,d,b,f,e,q,k,i 1 _ rfl,i 2 _ rfl⟩
theorem pX{c f e:Array Value}{o j n:TypeId}(h:W=((w.alloc (.cells c o)).alloc (.cells f j)).alloc (.cells e n)):aA w W/\Bx W w.heap.size c/\Bx W (w.heap.size+1) f/\Bx W (w.heap.size+1+1) e/\W.heap.size=w.heap.size+3:=by
 obtain⟨a,e1⟩:=eX (w.alloc (.cells c o));obtain⟨b,d⟩:=eX (a.alloc (.cells f j));have h:W=b.alloc (.cells e n):=by rw[h,d,e1]
 have i:a.heap.size=w.heap.size+1:=by rw[e1];simp
 have l:b.heap.size=w.heap.size+1+1:=by rw[d];simp[i]
 have q:aA w a:=Qb;have m:aA a b:=by rw[d];exact av _ _
 have g:aA b W:=JE;have k:Bx a w.heap.size c:=by rw[e1];exact Bx.new _ _ _
 have p:Bx b (w.heap.size+1) f:=by rw[d];exact Bx.jt _ _ _ i
 have r:Bx W (w.heap.size+1+1) e:=by rw[h];exact Bx.jt _ _ _ l
 exact⟨q.trans ((m.mono aq).trans (g.mono aq)),(k.ar m k.lt).ar g aq,p.ar g p.lt,r,by rw[h];simp[l]⟩
structure Pu(N:Nat)(fr:Array Value)(A:aC)(n c:Nat)(A2:aC)(n2 c2:Nat)(w:World):Prop where
 bf:Bx w N fr
 bz:Bx w (N+1) (cV none 0 0 none 0 0)
 bp:Bx w (N+1+1) (cV A n c A2 n2 c2)
 o1:Cc w (N+3) A n c
 o2:Cc w (N+3) A2 n2 c2
 ap:bO A A2
theorem Pu.ar{e f:Nat}{d:Array Value}{b:aC}{g:World}(h:Pu N d A n c b e f w)(a:aA w g):Pu N d A n c b e f g:=
 ⟨h.bf.ar a h.bf.lt,h.bz.ar a h.bz.lt,h.bp.ar a h.bp.lt,h.o1.ar a,h.o2.ar a,h.ap⟩
theorem Pu.put{o q:Nat}{l:Array Value}{p:aC}{f:World}(h:Pu N l A n c p o q w)(i:Below (N+3) w f){B j d a g:Nat}{C b:aC}(m:N+3<=B)(o1:Cc f B C j d)(e:Cc f B b a g)(r:bO C b):Pu N l C j d b a g (f.setRow (N+1+1) (cV C j d b a g)):=by
 have s:=h.bp.ar i aq;have o1:=o1.cN m;have e:=e.cN m;refine⟨?_, ?_,s.row,o1.ia (o1.jw aq) _,e.ia (e.jw aq) _,r⟩
 ·obtain⟨t,k⟩:=h.bf.ar i aq
  exact⟨t,(setRow_other _ _ _ _ aq).trans k⟩
 ·obtain⟨t,k⟩:=h.bz.ar i aq
  exact⟨t,(setRow_other _ _ _ _ aq).trans k⟩
theorem acU(s:G:=by
 go_wp2_with fail
 refine(W8 ft k w4 aq).mono ?_;rintro e _ ⟨b,rfl,rfl⟩;cases b
 ·go_wp2
  go_roundg (f.fn-i)
  case measure=>omega
  case rel=>exact⟨i+1,k+1,A,n,c,A2,n2,c2,aq,aq,aq,aQ,aQ,aq,aq,P4,B4⟩
 ·go_wp2_with fail
  refine(Nd f A n c A2 n2 c2 tag sc LA ln lc (w.heap.size+3) (64*i) w4 aq R4.o H4.o qT P4.o.o1 P4.o.o2 P4.o.ap aq hn pP).mono ?_;rintro e w5 ⟨A6,n6,c6,A7,n7,c7,rfl,hn6,hn7,g1,g2,g3,g4⟩;obtain⟨ty,lV⟩:=(P4.o.bp.ar g4 aq).heap;have P5:ak _:=⟨P4.o.put g4 cr g1 g2 g3⟩;have B5:ak (Below w.heap.size W1 (w5.setRow (w.heap.size+1+1) (cV A6 n6 c6 A7 n7 c7))):=⟨below_setRow (B4.o.trans (g4.mono aq)) aq _⟩;clear g1 g2 g3 g4 c0 c1 aU c3 c4 c5 p0 p1 t0 t1 t2;go_wp2_with (refine wpList_store_row rfl 179 (.tmp 7) (.tmp 49) rfl (w.heap.size+1+1) (cV A6 n6 c6 A7 n7 c7) rfl rfl ty _ lV yd aK dK ?_);go_roundg (f.fn-i)
  case measure=>omega
  case rel=>exact⟨i+1,k+1,A6,n6,c6,A7,n7,c7,aq,aq,aq,aQ,aQ,aq,aq,P5,B5⟩):G:=s
theorem acr(s:G:=by
 go_wp2_with fail
 refine(Nd f A n c A2 n2 c2 tag sc LA ln lc (w.heap.size+3) (64*i) w4 aq R4.o H4.o qT P4.o.o1 P4.o.o2 P4.o.ap aq hn pP).mono ?_;rintro e w5 ⟨A6,n6,c6,A7,n7,c7,rfl,hn6,hn7,g1,g2,g3,g4⟩;obtain⟨ty,lV⟩:=(P4.o.bp.ar g4 aq).heap;have P5:ak _:=⟨P4.o.put g4 cr g1 g2 g3⟩;have B5:ak (Below w.heap.size W1 (w5.setRow (w.heap.size+1+1) (cV A6 n6 c6 A7 n7 c7))):=⟨below_setRow (B4.o.trans (g4.mono aq)) aq _⟩;clear g1 g2 g3 g4 c0 c1 aU c3 c4 c5 p0 p1 t0 t1 t2;go_wp2_with (refine wpList_store_row rfl 179 (.tmp 7) (.tmp 49) rfl (w.heap.size+1+1) (cV A6 n6 c6 A7 n7 c7) rfl rfl ty _ lV yd aK dK ?_);go_roundg (f.fn-i)
 case measure=>omega
 case rel=>exact⟨i+1,k,A6,n6,c6,A7,n7,c7,aq,aq,aq,aQ,aQ,aq,aq,P5,B5⟩):G:=s
theorem ac6(s:G:=by
 go_wp2
 go_roundg (f.fn-i)
 case measure=>omega
 case rel=>exact⟨i+1,k+1,A,n,c,A2,n2,c2,aq,aq,aq,aQ,aQ,aq,aq,P4,B4⟩):G:=s
theorem aes(f:db)(q:Int)(ft:Int)(w:World)(h:ca w w.heap.size f)(B:Qt w w.heap.size f):
 Calls prog 113 #[f.v,ae aj q,ae aj ft] w (PPn w w.heap.size 5000):=by
 obtain⟨W1,g⟩:∃W1,W1=((w.alloc (.cells f.row 82)).alloc (.cells (cV none 0 0 none 0 0) 179)).alloc (.cells (cV none 0 0 none 0 0) 179):=⟨_,rfl⟩;obtain⟨s,E,I,F,P⟩:=pX g;have d:ak (Pu w.heap.size f.row none 0 0 none 0 0 W1):=⟨⟨E,I,F,Oq.nil _ _ _ _ _,Oq.nil _ _ _ _ _,iF _⟩⟩;have R:ak (ca W1 w.heap.size f):=⟨h.Z s cr⟩;have Y:ak (Qt W1 w.heap.size f):=⟨B.Z s cr⟩;have Q:ak (aA w W1):=⟨s⟩;have K:=B.1;clear h B s E I F;go_enter func113,ntmps113;go_wp2;rw[<-g];clear g;go_loopg [8,9,10,11] (f.fn+1) (fun gg J S _ _ wr=>∃(i k:Nat) (A:aC) (n c:Nat) (A2:aC) (n2 c2:Nat),f.fn-i<gg/\i<=f.fn/\k<=i/\J=ae aj (k:Int)/\S=ae aj (i:Int)/\n<=64*i/\n2<=64*i/\ak (Pu w.heap.size f.row A n c A2 n2 c2 wr)/\ak (Below w.heap.size W1 wr))
 ·exact⟨0,0,none,0,0,none,0,0,aq,aq,aq,rfl,rfl,aq,aq,d,cB⟩
 clear d;obtain⟨i,k,A,n,c,A2,n2,c2,hg,hi,hk,rfl,rfl,hn,pP,d,j⟩:=hrel;have M:=d.o.bp.lt;by_cases m:i<f.fn;rotate_left
 ·obtain⟨c0,c1,aU,c3,c4,c5⟩:=d.o.bf.f6
  have p0:wr.cell? ⟨w.heap.size+1+1,0,none⟩=some (.slice A n c):=d.o.bp.cell 0;have p1:wr.cell? ⟨w.heap.size+1+1,1,none⟩=some (.slice A2 n2 c2):=d.o.bp.cell 1;obtain⟨ty,lV⟩:=d.o.bz.heap;have z:(wr.setRow (w.heap.size+1) (cV A n c A2 n2 c2)).heap[w.heap.size+1]? =some (.cells (cV A n c A2 n2 c2) ty (0,0)):=setRow_heap _ _ _ _ _ _ lV;have B5:ak (aA w (wr.setRow (w.heap.size+1) (cV A n c A2 n2 c2))):=⟨below_setRow (Q.o.trans j.o) aq _⟩;have V:ak (Cc (wr.setRow (w.heap.size+1) (cV A n c A2 n2 c2)) w.heap.size A n c):=⟨(d.o.o1.ia (d.o.o1.jw aq) _).cN aq⟩;have U:ak (Cc (wr.setRow (w.heap.size+1) (cV A n c A2 n2 c2)) w.heap.size A2 n2 c2):=⟨(d.o.o2.ia (d.o.o2.jw aq) _).cN aq⟩;go_wp2_with (refine wpList_store_row rfl 179 (.tmp 6) (.tmp 50) rfl (w.heap.size+1) (cV A n c A2 n2 c2) rfl rfl ty _ lV yd aK dK ?_);refine bodyPost_ret (results_cell_row results113 _ _ (w.heap.size+1) ty _ (0,0) _ aK z underlying179 rfl aF) rfl ?_;exact⟨A,n,c,A2,n2,c2,rfl,aq,aq,V.o,U.o,d.o.ap,B5.o⟩
 have i4:(i:Int)<(f.fn:Int):=aq;obtain⟨c0,c1,aU,c3,c4,c5⟩:=d.o.bf.f6;obtain⟨Z,tag,sc,LA,ln,lc,y,H,X,N,D⟩:=s' (R.o.Z j.o cr).rF m;have qT:ln<=64:=by
  obtain⟨a,A',n',c',g1,_,g3,g4⟩:=(Y.o.Z j.o cr).2 i m;rw[y]at g1;obtain rfl:=Option.some.inj g1;rw[D]at g3;injection g3 with g3
  injection g3 with _ g3 _
  omega
 rw[y]at c4;have G:ak _:=⟨H⟩;clear H y;obtain⟨l,cd⟩:∃l,l=wr.alloc (.cells (pq tag sc LA ln lc) 238):=⟨_,rfl⟩;have u:aA wr l:=jT;have t:ak (Bx l wr.heap.size (pq tag sc LA ln lc)):=⟨oJ⟩;have C:ak _:=⟨d.o.ar u⟩;have W:ak (Below w.heap.size W1 l):=⟨j.o.trans (u.mono aq)⟩;have t0:l.cell? ⟨wr.heap.size,0,none⟩=some (.string tag):=t.o.cell 0;go_wp2_with (refine(NU tag _).mono ?_);rintro e w4 ⟨b,rfl,o⟩;rw[<-cd]at o;have P4:ak _:=⟨C.o.ar o⟩;have v:Below w.heap.size wr w4:=(u.mono aq).trans (o.mono (by have:=C.o.bp.lt;omega));have B4:ak (Below w.heap.size W1 w4):=⟨j.o.trans v⟩;have x:ak _:=⟨t.o.ar o t.o.lt⟩;have H4:ak _:=⟨G.o.Z v (show w.heap.size<=w.heap.size+3 by omega)⟩;have R4:ak _:=⟨R.o.Z B4.o (show w.heap.size<=w.heap.size+3 by omega)⟩;have T:=P4.o.bp.lt;clear v o C W t G u cd X N D c0 c1 aU c3 c4 c5 t0 d j;obtain⟨c0,c1,aU,c3,c4,c5⟩:=P4.o.bf.f6;have p0:w4.cell? ⟨w.heap.size+1+1,0,none⟩=some (.slice A n c):=P4.o.bp.cell 0;have p1:w4.cell? ⟨w.heap.size+1+1,1,none⟩=some (.slice A2 n2 c2):=P4.o.bp.cell 1;have t0:w4.cell? ⟨wr.heap.size,0,none⟩=some (.string tag):=x.o.cell 0;have t1:w4.cell? ⟨wr.heap.size,1,none⟩=some (ae aj sc):=x.o.cell 1;have t2:w4.cell? ⟨wr.heap.size,2,none⟩=some (.slice LA ln lc):=x.o.cell 2;by_cases r:sc= -1
 ·have L:(sc== -1)=true:=by simp[r]
  clear r;cases b
  ·exact acU
  ·exact acr
 have L:(sc== -1)=false:=by simp[r]
 clear r;by_cases p:sc=q
 ·have O:(sc==q)=true:=by simp[p]
  clear p;cases b
  ·exact acU
  ·exact acr
 have O:(sc==q)=false:=by simp[p]
 clear p;cases b
 ·go_wp2_with fail
  refine(W8 ft k w4 aq).mono ?_;rintro e _ ⟨b,rfl,rfl⟩;cases b
  ·exact ac6
  ·exact ac6
 ·go_wp2
  go_roundg (f.fn-i)
  case measure=>omega
  case rel=>exact⟨i+1,k,A,n,c,A2,n2,c2,aq,aq,aq,aQ,aQ,aq,aq,P4,B4⟩
theorem Ao(gs:List aE)(A:aC)(n c:Nat)(w:World)(h:Rx w w.heap.size 10 gs A n)(hn:n<=100000):
 Calls prog 69 #[.slice A n c] w (tf w (eU (bY gs) n)):=by
 have R:ak _:=⟨h⟩;have S:ak (∀j,j<n->nth (bY gs) j=nth (fW gs j) 1):=⟨fun j hj=>oW Bl⟩;clear h;generalize bY gs=a at*;go_enter func69,ntmps69;go_wp2;go_loopg [3,4,5] (n+1) (fun gg v3 v4 _ wr=>∃(i m:Nat) (F:aC) (o:Nat),n-i<gg/\i<=n/\m<=i/\v3= .slice F m o/\v4=ae aj (i:Int)/\ak ((eU a i).length=m)/\ak (Bv wr w.heap.size (eU a i) F m o)/\ak (aA w wr))
 ·exact⟨0,0,none,0,aq,aq,aq,rfl,rfl,⟨rfl⟩,⟨aB.nil _ _ _ _⟩,cB⟩
 obtain⟨i,m,F,o,hg,hi,hm,rfl,rfl,ML,D,BE⟩:=hrel;by_cases B:i<n;rotate_left
 ·obtain rfl:i=n:=by omega
  go_wp2;go_ret;exact⟨F,o,by rw[ML.o];rfl,by rw[ML.o];exact D.o,BE.o⟩
 obtain⟨P,rfl,V,_,e⟩:=(R.o.Z BE.o BE.o.size).at_ B;have K:wr.cell? (bW (P.add (i*10)) 1)=some (ae aj (nth (fW gs i) 1)):=e 1 aq;rw[<-S.o i B]at K;have i4:=aR i n;have X:=BE.o.size;rcases i with _|i
 ·have H:m=0:=by omega
  subst H;clear V e;have PH:ak _:=⟨oU a 0 aq⟩;have I:IntKind.i64.wrap ((0:Int)+1)=1:=bQ;go_wp2;go_quiet (fail);generalize hW:wr.drewN _=W;have l:ak (aA w W):=⟨aaC⟩;have N:ak _:=⟨D.o.ar (show aA wr W by rw[<-hW];exact aM (Below.refl _ _) _)⟩;have f:=l.o.size;clear hW;go_wp2_with (at_builtin;refine cz TCu rfl (.tmp 37) (.tmp 42) rfl rfl (aB.alloc N.o _) rfl (news:=pW (0,0+1)) rfl (gA _ _ _ _) (kR _ _) aq cA ?_;intro x c8 z v C;have O8:ak _:=⟨v⟩;have s:ak (aA w z):=⟨(l.o.alloc f _).trans C⟩;clear v C);have b:ak ((eU a (0+1)).length=0+1):=⟨Vw⟩;have t:ak (Bv z w.heap.size (eU a (0+1)) x (0+1) c8):=⟨Vu⟩;go_roundg (n-0)
  case measure=>omega
  case rel=>exact⟨0+1,0+1,x,c8,aq,aq,aq,rfl,aQ,b,t,s⟩
 obtain⟨Z,M,_,_,d⟩:=(R.o.Z BE.o BE.o.size).at_ (show i<n by omega);injection M with M
 subst M;have J:wr.cell? (bW (P.add (i*10)) 1)=some (ae aj (nth (fW gs i) 1)):=d 1 aq;rw[<-S.o i aq]at J;clear V e d;have u:0<m:=by have:=ly a (i+1) (by omega);have:=lD a (i+1);have:=ML.o;omega
 have U:decide (0<m)=true:=by simp;exact u
 have I:IntKind.i64.wrap ((i:Int)+1-1)=(i:Int):=yA;have T:=jB i;have O:=aR i n;by_cases r:nth a i=nth a (i+1)
 ·have k:(nth a i==nth a (i+1))=true:=by simp[r]
  have Y:ak _:=⟨Ai a (i+1) ⟨aq,r⟩⟩;clear r;go_wp2;go_quiet (fail);clear I T O K J k U;obtain⟨q,rfl⟩:∃q,m=q+1:=⟨m-1,aq⟩;generalize hW:wr.drewN _=W;have l:ak (aA w W):=⟨aaC⟩;have y:=D.o.ar (show aA wr W by rw[<-hW];exact aM (Below.refl _ _) _);clear hW;obtain⟨g,rfl,G,fL⟩:=aB.form y u;have L:=qD (eU a (i+1)) q (i+1+1) (by rw[ML.o];omega);have E:=Y.o;rw[ML.o,Nat.add_sub_cancel]at E;rw[<-E]at L;have cq:=aB.cellAt y (q*2+1) aq;rw[(jI (eU a (i+1)) q (by rw[ML.o];omega)).2]at cq;have fq:=aB.frozenAt y (q*2+1);have st:=(World.ownsRow.stored (cap:=o) y (q*2+1) (ae aj ((i+1+1:Nat):Int))).1;rw[L]at st;have b:ak ((eU a (i+1+1)).length=q+1):=⟨by rw[E,List.length_set];exact ML.o⟩;have t:ak (Bv (W.setCell ⟨g,q*2+1,none⟩ (ae aj ((i+1+1:Nat):Int))) w.heap.size (eU a (i+1+1)) (some ⟨g,0,none⟩) (q+1) o):=⟨st⟩;have s:ak (aA w (W.setCell ⟨g,q*2+1,none⟩ (ae aj ((i+1+1:Nat):Int)))):=⟨Below.setCell l.o (p:=⟨g,q*2+1,none⟩) G _⟩;clear y L E st;have Q:(((i+1+1:Nat):Int))=(i:Int)+1+1:=aq;rw[Q]at t s;clear Q;go_wp2;go_roundg (n-(i+1))
  case measure=>omega
  case rel=>exact⟨i+1+1,q+1,_,o,aq,aq,aq,rfl,aQ,b,t,s⟩
 ·have k:(nth a i==nth a (i+1))=false:=by simp[r]
  have PH:ak _:=⟨oU a (i+1) (by intro h;exact r h.2)⟩;clear r;go_wp2;go_quiet (fail);clear I T O K J k U;generalize hW:wr.drewN _=W;have l:ak (aA w W):=⟨aaC⟩;have N:ak _:=⟨D.o.ar (show aA wr W by rw[<-hW];exact aM (Below.refl _ _) _)⟩;have f:=l.o.size;clear hW;go_wp2_with (at_builtin;refine cz TCu rfl (.tmp 37) (.tmp 42) rfl rfl (aB.alloc N.o _) rfl (news:=pW ((i+1),(i+1)+1)) rfl (gA _ _ _ _) (kR _ _) aq cA ?_;intro x c8 z v C;have O8:ak _:=⟨v⟩;have s:ak (aA w z):=⟨(l.o.alloc f _).trans C⟩;clear v C);have b:ak ((eU a ((i+1)+1)).length=m+1):=⟨Vw⟩;have t:ak (Bv z w.heap.size (eU a ((i+1)+1)) x (m+1) c8):=⟨Vu⟩;go_roundg (n-(i+1))
  case measure=>omega
  case rel=>exact⟨(i+1)+1,m+1,x,c8,aq,aq,aq,rfl,aQ,b,t,s⟩
end Go.Proofs.YtpidckelbgbbkaaGreatDoor
