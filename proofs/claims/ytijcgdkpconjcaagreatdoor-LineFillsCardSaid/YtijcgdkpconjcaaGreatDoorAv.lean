import Derived.Test.YtijcgdkpconjcaaGreatDoorAt
import Derived.Test.YtijcgdkpconjcaaGreatDoorAu
import Derived.Test.YtijcgdkpconjcaaGreatDoorAl
namespace Go.Proofs.YtijcgdkpconjcaaGreatDoor
open Go.ChangeShapes Go.WideShapes Go.ChangeAt Go.RowKit Go.Proofs.Tryz
open Go renaming World->EE,Value->EN,Calls->GK,Ending->IS
open Go.RowKit renaming Below->EI,wrap64->IK
open Option renaming some->OH,none->OJ
open Bool renaming true->OX,false->OZ
open Go.Value renaming slice->Pl,bool->PF,pointer->PK,tuple->P8,agg->Q4
open Go.Ending renaming returned->RE
open Go.Obj renaming cells->RM
open Go.Value renaming int->ae
open Go.IntKind renaming i64->aj
set_option linter.all false
set_option maxRecDepth 100000
set_option maxHeartbeats 16000000
variable{B a b c d e m n r t:Nat}{xs:List fv}{s:cM}{w:EE}{A:aB}{p:jz}
def iQ.chain{n a:Nat}{xs:List fv}(h:iQ n a xs):∀i,i<xs.length->(jX xs 0).q.f<(jX xs i).q.t/\(jX xs i).q.t<=n
 |0,hi=>h.ne _ (jd hi)
 |i+1,hi=>by
  have c:=iQ.chain h i aq;have d:=h.ad i hi;have b:=h.ne _ (jd hi);omega
def iQ.chb(h:iQ n d xs)(s:cM)(ts:aC)(l:List (Int×Int))(b:List aC)(j:Nat)(c:xs.length=j+1):lB (xZ s ts l b xs (j+1) (j+1)).1 ((jX xs 0).q.f:Int) ((jX xs j).q.t:Int):=by
 have e:(qs xs).length=j+1:=by simp[qs,c]
 have:=Xt (ts:=ts) (rn:=Z' b) (W:=iJ (gQ ts (qs xs) (j+1))) (Bg:=(ee l s.ev (iJ (gQ ts (qs xs) (j+1))) (oU (gQ ts (qs xs) (j+1))) (gQ ts (qs xs) (j+1)).length).1) (ps:=qs xs) (λi hi=>by
  have a:i<xs.length:=by omega
  rw[mM a];exact⟨(h.gl _ (jd a)).2.2.1,(h.ne _ (jd a)).1⟩) (λi hi=>by
  rw[mM aq,mM aq];exact h.ad i aq) j aq
 rw[mM aq,mM aq]at this;exact this
def iQ.pb(h:iQ n d xs)(i:Nat):Sx (cW (qs xs) i):=by
 by_cases hi:i<xs.length
 .rw[mM hi]
  obtain⟨_,⟨a,g2⟩,c⟩:=h.gl _ (jd hi);refine⟨g2,a,λj=> ?_⟩;by_cases b:j<(jX xs i).q.gs.length
  .exact(c.2 _ (nD b)).2
  .rw[show dS (jX xs i).q.gs j=[] by unfold dS;rw[List.getD_eq_getElem?_getD,List.getElem?_eq_none aq];rfl]
   decide
 .rw[show cW (qs xs) i=default by unfold cW;rw[List.getD_eq_getElem?_getD,List.getElem?_eq_none (by simp[qs];omega)];rfl]
  exact⟨by unfold Uf;decide,cF,λj=>by rw[show dS (default:fX).gs j=[]from rfl];decide⟩
def aaG{ts:aC}{l:List (Int×Int)}{g:List aC}(h:∀i,Sx (cW (qs xs) i))(u:∀t∈l,0<=t.1/\t.1<=268435456)(p:s.ev<=1048576)(r:m<=40):pf (xZ s ts l g xs m m).1 7476679168876800000:=by
 have w:=yK ts (qs xs) m;obtain⟨S,j,a,b⟩:=Iz (ts:=ts) (n:=iH ts (qs xs) m) h aq (iH ts (qs xs) m+1) 0;have v:=qL (ts:=ts) (ps:=qs xs) (n:=iH ts (qs xs) m) (iH ts (qs xs) m+1) 0;have k:0<(gQ ts (qs xs) m).length:=by
  unfold gQ fP;split<;>simp
 have e:∀i,i<(gQ ts (qs xs) m).length->nth (iJ (gQ ts (qs xs) m)) i=(sgA (gQ ts (qs xs) m) i).1/\nth (oU (gQ ts (qs xs) m)) i=(sgA (gQ ts (qs xs) m) i).2:=λi hi=>by simp[iJ,oU,nth,sgA,hi]
 unfold xZ;rw[show fP ts (qs xs) (iH ts (qs xs) m) (iH ts (qs xs) m+1) 0=gQ ts (qs xs) m from rfl]at a b v;have q:=(Qt u p (n:=(gQ ts (qs xs) m).length) (W:=iJ (gQ ts (qs xs) m)) (Q:=oU (gQ ts (qs xs) m)) aq j (λi hi=>by have:=a i hi;omega) (λi hi=>by
  obtain⟨c,d,f⟩:=b i hi;rw[(e i hi).1,(e i hi).2];exact⟨c,d,f⟩) _ cr).2
 obtain⟨_,_,_,o⟩:=Ob (ts:=ts) (rn:=Z' g) h (mF _ _ _ _ _) k aq (λi hi=>by have:=a i hi;omega) (λi hi=>by
  obtain⟨c,d,f⟩:=b i hi;rw[(e i hi).1];exact⟨c,d⟩) q m r
 exact o
def ox.fwd{e:EE}(h:ox w A n)(m:cU w w.heap.size MX A n c)(k:az w e):ox e A n:=λi hi l x d g=>by
 obtain⟨j,p,o,f,b,_⟩:=Ek m hi;rw[d]at f;obtain rfl:=Option.some.inj f;have a:=av b k;rw[g]at a;injection a with a
 injection a with _ a
 subst a;exact h i hi l _ d b
def UB.jI{l:List (Int×Int)}(h:UB w B l A)(e:ox w A n)(f:l.length=n):∀t∈l,0<=t.1/\t.1<=268435456:=λt c=>by
 obtain⟨j,a,rfl⟩:=List.getElem_of_mem c;obtain⟨d,b,_,c0,_⟩:=h j a;have:=e j aq d _ b c0;rwa [show jJ l j=l[j] by simp[jJ,a]]at this
def QV{a b:Int}{S:List (Nat×Int)}(h: -7476679168876800000<=a/\a<=7476679168876800000)(e:1<=b/\b<=268435456):yX a b OX S=(if b<=IK a∨S.length=0 then IK a else b)/\yX a b OZ S=IK a:=by
 refine⟨?_,rfl⟩;unfold yX Ea;rw[IntWalk.wrap64_in a aq,IntWalk.wrap64_in (b-a) aq];by_cases d:b<=a
 .rw[if_neg br,if_pos (.inl d)]
 .rw[if_pos br]
  by_cases c:S.length=0
  .rw[if_pos c,if_pos (.inr c),IntWalk.wrap64_in _ aq];omega
  .rw[if_neg c,if_neg aq,IntWalk.wrap64_in _ aq];omega
structure FlB(w:EE)(s:cM)(p:jz)(ts:aC)(A R V:aB)(m c rm rc vc:Nat)(base:Int)(f t:Nat)(en:Int)(L:List bj):Prop where
 ft:f<t/\t<=p.tn
 few:L.length<=40
 bw:∀j,j<L.length->Mg p.tn (aR L j)
 fi:∀tl,tl<=L.length->FiB L tl f t
 pre:pf L 7476679168876800000
 rd:∃ad ew,A=OH ad/\ew=ad.add ((m-1)*9)/\w.cell? (ad.add (0*9))=OH (ae aj (f:Int))/\w.cell? (bX ew 1)=OH (ae aj (t:Int))/\w.cell? (bX ew 6)=OH (ae aj en)
 ln:∀W last,az w W->GK prog 8 #[Q4 s.row,Q4 p.row,Pl R rm rc,Pl A m c,Pl V p.tn vc,ae aj base,ae aj (f:Int),ae aj (t:Int),PF OZ,PF last] W (PLs W f t (yX (bg L (dH ts L L.length)) p.wd (p.al==3&& !last&& !(en==2)) (gY ts (eQ L (dH ts L L.length)))))
 bx:∀W,az w W->GK prog 9 #[Q4 s.row,Q4 p.row,Pl R rm rc,Pl A m c] W (Xb W L)
def VT{ts:aC}{B:List aC}{R V:aB}{i v H:Nat}{base:Int}(O:kf w p ts)(N:Laid w)(C:ta w w.heap.size xs 0 m A)(u:xs.length=m)(hm:0<m)(M:m<=c)(o:m<=40)(hr:Rx w w.heap.size 6 B R i)(n:iQ p.tn i xs)(hV:Iw w w.heap.size .i64 aK V p.tn)(G:p.tn<=H)(I:p.tn<=40)(Y:p.bn<=40)(F:s.ev<=1048576)(E:ox w p.B p.bn):∃f t X L,FlB w s p ts A R V m c i v H base f t X L:=by
 obtain⟨l,z⟩:=n.bxi (s:=s) O aq aq C u M aq hr;obtain⟨j,rfl⟩:∃j,m=j+1:=⟨m-1,aq⟩;obtain⟨T,Q⟩:=n.chain j aq;have h:=n.chb s ts l B j u;have r:=z.bw _ cr;obtain⟨ad,x,S,J,c0,-⟩:=C.at (show 0<j+1 by omega);obtain⟨ew,y,D,d,-,d1,-,-,-,-,Z,-⟩:=C.at (show j<j+1 by omega);rw[Nat.zero_add]at S D;have P:=h.few;have q:∀W,az w W->GK prog 9 #[Q4 s.row,Q4 p.row,Pl R i v,Pl A (j+1) c] W (Xb W (xZ s ts l B xs (j+1) (j+1)).1):=λW g=>RU s p ts l xs A (j+1) c B R i v W (z.Z g) n.inT (N.ar g)
 refine⟨_,_,(jX xs j).en,_,⟨T,Q⟩,aq,(He r).1,λtl U=>⟨λa b ha g e=>h.Hq aq aq e,λk hk=>h.within aq⟩,aaG n.pb (z.tb.jI E z.tl) F o,⟨ad,_,J,rfl,by rw[S];exact c0, ?_, ?_⟩,λW last g=> ?_,q⟩
 .rw[J]at d
  injection d with d
  subst d;rw[D];exact d1
 .rw[J]at d
  injection d with d
  subst d;rw[D];exact Z
 .exact Kw s p ts _ xs A (j+1) c R i v V H base _ _ last W (O.ar g) (N.ar g) (C.Z g g.size) hm o (hV.Z g g.size) G h r T Q I λW2 K=>q W2 (g.trans (K.mono g.size))
def PWd(w:EE)(n:Nat)(e:IS)(a:EE):Prop:=∃z:Int,e=RE (ae aj z)/\(-(n*2199023255552:Int)<=z/\z<=(n*2199023255552:Int))/\w=a
def aaU(A:aB)(n c:Nat)(w:EE)(h:vv w Yt A n)(v:n<=20000):GK prog 60 #[Pl A n c] w (PWd w n):=by
 have R:ak _:=⟨h⟩;clear h;go_enter func60,ntmps60;go_wp2;go_loopg[3,4](n+1)(λgg v3 v4 wr=>∃(i:Nat) (z:Int),n-i<gg/\i<=n/\v3=ae aj z/\v4=ae aj (i:Int)/\ak (-(i*2199023255552:Int)<=z/\z<=(i*2199023255552:Int))/\wr=w)
 .exact⟨0,0,aq,aq,rfl,rfl,⟨aq⟩,rfl⟩
 obtain⟨i,z,p,hi,rfl,rfl,e,rfl⟩:=hrel;by_cases b:i<n
 .have g:=aU i n
  obtain⟨o,r,x,a,t,q,j,l,k,m,u,rfl,d,_,_,s,_⟩:=R.o.bK b;have d: -2199023255552<=a/\a<=2199023255552:=d.2;have f:ak (-((i+1:Nat)*2199023255552:Int)<=IK (z+a)/\IK (z+a)<=((i+1:Nat)*2199023255552:Int)):=⟨by have:=e.o;rw[IntWalk.wrap64_in _ (by omega)];omega⟩;clear d;go_wp2;go_roundg(n-i)
  case measure=>omega
  case rel=>exact⟨i+1,_,aq,aq,rfl,aV,f,rfl⟩
 .have g:=cI i n
  obtain rfl:i=n:=aq;go_wp2;go_ret;exact⟨_,rfl,e.o,rfl⟩
abbrev jE(f t r:Int)(G:aB)(n c:Nat)(a jI b:Int)(iX:Bool)(P:aB)(m d:Nat):Array EN:=#[ae aj f,ae aj t,ae aj r,Pl G n c,ae aj a,ae aj jI,ae aj b,PF iX,Pl P m d]
def FsB(w:EE)(B:Nat)(s:cM):Prop:=TQ w B s/\Bs w B s
def FsB.Z{d:EE}(h:FsB w B s)(b:EI B w d)(c:B<=a):FsB d a s:=⟨h.1.Z b c,h.2.Z b c⟩
def ZPt(B a b:Nat):Sat:=⟨λv w=>∃(A:aB) (n c:Nat) (z:Int),v=P8 #[Pl A n c,ae aj z]/\n<=c/\n<=20000/\iZ w B (fY Yt a b) A n c,λ_ _ _ ⟨A,n,c,z,f,g,d,h⟩ e=>⟨A,n,c,z,f,g,d,h.ar e⟩⟩
structure TV where
 f:Int
 t:Int
 r:Int
 G:aB
 n:Nat
 c:Nat
 wd:Int
 jI:Int
 en:Int
 iX:Bool
 P:aB
 m:Nat
 d:Nat
abbrev TV.row(y:TV):Array EN:=jE y.f y.t y.r y.G y.n y.c y.wd y.jI y.en y.iX y.P y.m y.d
def Le(w:EE)(B a b r:Nat)(c:Int)(y:TV):Prop:=y.f=(a:Int)/\y.t=(b:Int)/\y.r=(r:Int)/\y.en=c/\y.P=OJ/\y.m=0/\y.d=0/\y.n<=y.c/\(y.n<=20000/\Uf y.wd y.jI)/\iZ w B (fY Yt a b) y.G y.n y.c
def Le.ar{e:EE}{d:Int}{y:TV}(h:Le w B a b r d y)(m:az w e):Le e B a b r d y:=by
 obtain⟨o,p,l,j,n,k,i,g,f,c⟩:=h;exact⟨o,p,l,j,n,k,i,g,f,c.ar m⟩
def Le.cS{d:Int}{y:TV}(h:Le w B a b r d y)(j:e<=B):Le w e a b r d y:=by
 obtain⟨o,p,m,k,n,l,i,g,f,c⟩:=h;exact⟨o,p,m,k,n,l,i,g,f,c.cS j⟩
def PPc(w:EE)(a b r:Nat)(d:Int)(e:IS)(c:EE):Prop:=∃(y:TV) (z:Int),e=RE (P8 #[Q4 y.row,ae aj z])/\(z=0->Le c w.heap.size a b r d y)/\az w c
def aeH{j:Nat}{Q:aC->Prop}(h:Rq w B 6 Q A m)(d:j<m):∃(a:Addr) (x:Rn),A=OH a/\Q [x.f,x.t,x.lv,x.sp,x.fo,x.st]/\w.cell? (a.add (j*6))=OH (ae aj x.f)/\w.cell? (bX (a.add (j*6)) 1)=OH (ae aj x.t)/\w.cell? (bX (a.add (j*6)) 2)=OH (ae aj x.lv)/\w.cell? (bX (a.add (j*6)) 3)=OH (ae aj x.sp)/\w.cell? (bX (a.add (j*6)) 4)=OH (ae aj x.fo)/\w.cell? (bX (a.add (j*6)) 5)=OH (ae aj x.st):=by
 obtain⟨a,e,_,f⟩:=h aq;obtain⟨g,k,i,b⟩:=f j d
 match g,k with
 |[x0,x1,x2,x3,x4,x5],_=>
  have c:=b 0 _ rfl;rw[fA]at c;exact⟨a,⟨x0,x1,x2,x3,x4,x5⟩,e,i,c,b 1 _ rfl,b 2 _ rfl,b 3 _ rfl,b 4 _ rfl,b 5 _ rfl⟩
structure Mi(w0 w:EE)(N2 N3 B:Nat)(row:Array EN)(p:jz)(a b:Nat)(A:aB)(n c:Nat):Prop where
 x3:Bx w N3 row
 x2:Bx w N2 (jE 0 0 0 OJ 0 0 0 0 0 OZ OJ 0 0)
 xp:Bx w (w0.heap.size+1) p.row
 be:az w0 w
 gl:iZ w B (fY Yt a b) A n c
 n2:N2≠N3
 np:w0.heap.size+1≠N3
 lo:w0.heap.size<=N3
 hi:N3<B
def Mi.set{w0:EE}{row:Array EN}(h:Mi w0 w e d B row p a b A n c)(q:Nat)(v:EN):Mi w0 (w.setCell ⟨d,q,OJ⟩ v) e d B (row.setIfInBounds q v) p a b A n c:=
 ⟨h.x3.jq q v,h.x2.fL h.n2 q v,h.xp.fL h.np q v,Below.setCell h.be (p:=⟨d,q,OJ⟩) h.lo v,h.gl.mj (by obtain⟨gs,g,i,_,f⟩:=h.gl;exact aA.oB f h.hi) q v,h.n2,h.np,h.lo,h.hi⟩
def Mi.ar{w0 f:EE}{g:Nat}{row:Array EN}(h:Mi w0 w e g B row p a b A n c)(d:az w f):Mi w0 f e g B row p a b A n c:=
 ⟨h.x3.ar d h.x3.lt,h.x2.ar d h.x2.lt,h.xp.ar d h.xp.lt,h.be.trans (d.mono h.be.size),h.gl.ar d,h.n2,h.np,h.lo,h.hi⟩
def MV(s:cM)(p:jz)(ts:aC)(FA:aB)(fc:Nat)(R:aB)(rm rc r a b:Nat)(l:Int)(w:EE)(h:gA w w.heap.size s)(hp:kf w p ts)(hf:Iw w w.heap.size .i64 aK FA p.tn)(hc:FsB w w.heap.size s)(hfc:p.tn<=fc)(hR:Rq w w.heap.size 6 (RnQ p.tn) R rm)(hr:r<rm)(ja:a<b)(hb:b<=p.tn)(hn:p.tn<=60):
 GK prog 21 #[s.v,p.v,Pl FA p.tn fc,Pl R rm rc,ae aj (r:Int),ae aj (a:Int),ae aj (b:Int),ae aj l] w (PPc w a b r l):=by
 have⟨X,N⟩:∃X,X=(w.alloc (RM s.row 26)).alloc (RM p.row 31):=⟨_,rfl⟩;have BB:=Fm N;have b2:az w X:=BB.1;have M:X.heap.size=w.heap.size+2:=by rw[N];simp
 have⟨W3,K⟩:∃W3,W3=X.alloc (RM (jE 0 0 0 OJ 0 0 0 0 0 OZ OJ 0 0) 44):=⟨_,rfl⟩;have x3:Bx W3 (w.heap.size+2) (jE 0 0 0 OJ 0 0 0 0 0 OZ OJ 0 0):=by rw[K];exact Bx.iR _ _ _ M
 have b3:az X W3:=by rw[K];exact aw _ _
 have Z:W3.heap.size=w.heap.size+3:=by rw[K];simp[M]
 have⟨d,L⟩:∃d,d=W3.alloc (RM (jE a b r OJ 0 0 0 0 l OZ OJ 0 0) 44):=⟨_,rfl⟩;have b4:az W3 d:=by rw[L];exact aw _ _
 have U:ak (Bx d (w.heap.size+3) (jE a b r OJ 0 0 0 0 l OZ OJ 0 0)):=⟨by rw[L];exact Bx.iR _ _ _ Z⟩;have X3:ak (Bx d (w.heap.size+2) (jE 0 0 0 OJ 0 0 0 0 0 OZ OJ 0 0)):=⟨x3.ar b4 aq⟩;have P:az X d:=b3.trans (b4.mono b3.size);have X1:ak (Bx d w.heap.size s.row):=⟨BB.2.1.ar P aq⟩;have X2:ak (Bx d (w.heap.size+1) p.row):=⟨BB.2.2.ar P aq⟩;have G:ak (az w d):=⟨b2.trans (P.mono b2.size)⟩;have hz4:d.heap.size=w.heap.size+4:=by rw[L];simp[Z]
 have R0:ak _:=⟨h.Z G.o G.o.size⟩;have P0:ak _:=⟨hp.ar G.o⟩;have HP:ak _:=⟨hp⟩;have F0:ak _:=⟨hf.Z G.o G.o.size⟩;have C0:ak _:=⟨hc.Z G.o G.o.size⟩;have RR:ak _:=⟨hR.Z G.o G.o.size⟩;have hW:d=(((w.alloc (RM s.row 26)).alloc (RM p.row 31)).alloc (RM (jE 0 0 0 OJ 0 0 0 0 0 OZ OJ 0 0) 44)).alloc (RM (jE a b r OJ 0 0 0 0 l OZ OJ 0 0) 44):=by rw[L,K,N]
 clear h hp hf hc hR BB b2 b3 b4 P x3 N K L M Z;have⟨k,Iu⟩:∃k,w.heap.size+1+1=k:=⟨_,rfl⟩;have⟨f,hN3⟩:∃f,k+1=f:=⟨_,rfl⟩;rw[show w.heap.size+2=k by omega]at X3;rw[show w.heap.size+3=f by omega]at U;have hNN:k≠f:=aq;have HZ4:ak _:=⟨hz4⟩;have Q:ak _:=⟨Iu⟩;have O:ak _:=⟨hN3⟩;clear hz4;go_enter func21,ntmps21;go_upto_region 2 with fail;rw[<-hW];clear hW;obtain⟨adT,eT,e0⟩:=P0.o.rT.ce (show a<p.tn by omega);have⟨S,d1,d2,d3,d4,d5,d6,d7⟩:=X2.o.c8;rw[eT]at S;have i4:(a:Int)<(p.tn:Int):=aq;generalize nth ts a=z at*;clear eT d1 d2 d3 d4 d5 d6 d7;by_cases hz:z=9
 .subst hz
  have X5:ak (Bx (d.setCell ⟨f,7,OJ⟩ (PF OX)) f (jE a b r OJ 0 0 0 0 l OX OJ 0 0)):=⟨U.o.jq 7 (PF OX)⟩;have Y:ak (Bx (d.setCell ⟨f,7,OJ⟩ (PF OX)) k (jE 0 0 0 OJ 0 0 0 0 0 OZ OJ 0 0)):=⟨X3.o.fL hNN 7 _⟩;have B5:ak (az w (d.setCell ⟨f,7,OJ⟩ (PF OX))):=⟨Below.setCell G.o (p:=⟨f,7,OJ⟩) (by show w.heap.size<=f;omega) _⟩;have⟨C,E,q,B,q4,u,y,D,t⟩:=U.o.p9;have f7:=U.o.fz 7;go_upto_region 4 with fail;generalize d.setCell ⟨f,7,OJ⟩ (PF OX)=W5 at*;clear C E q B q4 u y D t f7 S e0;have⟨C,E,q,B,q4,u,y,D,t⟩:=X5.o.p9;obtain⟨H,hX⟩:=Y.o.heap;go_wp2_with (refine wpList_store_row rfl 44 (.tmp 16) (.tmp 35) rfl k (jE a b r OJ 0 0 0 0 l OX OJ 0 0) rfl aD H _ hX aF aD ed ?_;have X9:=Y.o.row (ds:=jE a b r OJ 0 0 0 0 l OX OJ 0 0));obtain⟨I,J⟩:=X9.heap;refine bodyPost_ret (bY results21 _ _ k I _ (0,0) _ aD J underlying44 rfl aF) rfl ?_;exact⟨⟨a,b,r,OJ,0,0,0,0,l,OX,OJ,0,0⟩,0,rfl,λ_=>⟨rfl,rfl,rfl,rfl,rfl,rfl,rfl,aT,⟨aT,by unfold Uf;dsimp only;omega⟩,OL.nil _ _ _ _ ⟨CS.nil _ _,aT⟩⟩,below_setRow B5.o aq _⟩
 have M:(z==9)=OZ:=by simpa using hz
 clear hz;go_upto_region 5 with fail;clear S e0;have⟨c0,c1,aW,c3,c4⟩:=X1.o.c5;have⟨S,d1,d2,d3,d4,d5,d6,d7⟩:=X2.o.c8;obtain⟨ad6,x,rfl,_,e0,e1,e2,e3,e4,e5⟩:=aeH RR.o hr;have K0:=au c0;have K1:=au c1;have K2:=au aW;have K3:=au c3;have K4:=au c4
 have L0:=au S;have L1:=au d1;have L2:=au d2;have L3:=au d3;have L4:=au d4;have L6:=au d5;have L7:=au d6;have L8:=au d7
 have M0:=au e0;have M1:=au e1;have M2:=au e2;have M3:=au e3;have M4:=au e4;have M5:=au e5
 have i5:=aU r rm;clear c0 c1 aW c3 c4 S d1 d2 d3 d4 d5 d6 d7 e0 e1 e2 e3 e4 e5;refine bm (jD 46 (ZPt d.heap.size a b)) aF aF ?_
 repeat(refine cH aD aD aD ?_;intro K9 bQ;go_big_quiet_op;go_big_quiet_on)
 refine dA (ZPt d.heap.size a b) aD aD (λw9 cv=> ?_) (λv9 aX=> ?_)
 .obtain⟨j,rfl⟩:=cv
  go_simp;refine aZ (ZPt d.heap.size a b) ((aaI s p ts FA fc x a b j.1 (R0.o.Z j.2 j.2.size) (P0.o.ar j.2) (F0.o.Z j.2 j.2.size) (C0.o.Z j.2 j.2.size).1 (C0.o.Z j.2 j.2.size).2 hfc aq hb aq).mono ?_);rintro e w5 ⟨A,n,c,z,rfl,h1,h2,h3,hb⟩;exact⟨_,rfl,⟨A,n,c,z,rfl,h1,h2,h3.cS j.2.size⟩,hb⟩
 obtain⟨_,_,A,n,c,z5,rfl,II,rO,_⟩:=aX;simp[Act.put]
 repeat(refine cH aD aD aD ?_;intro K9 bQ;go_big_quiet_op;go_big_quiet_on)
 intro j hE;obtain⟨A7,n7,c7,z7,e7,_,_,o7⟩:=hE;simp at e7;obtain⟨⟨r1,r2,r3⟩,r4⟩:=e7;subst r1 r2 r3 r4;have O5:ak _:=⟨o7⟩;have B5:ak (az d j.1):=⟨j.2⟩;have X5:ak _:=⟨U.o.ar j.2 U.o.lt⟩;have Y:ak _:=⟨X3.o.ar j.2 X3.o.lt⟩;have U5:ak _:=⟨X2.o.ar j.2 X2.o.lt⟩;have B6:ak (az w j.1):=⟨G.o.trans (j.2.mono G.o.size)⟩;clear o7 K0 K1 K2 K3 K4 L0 L1 L2 L3 L4 L6 L7 L8 M0 M1 M2 M3 M4 M5 X1 X2 X3 U;generalize j.1=w5 at*;clear j;go_step;by_cases h0:z5=0;rotate_left
 .have Fu:(z5 !=0)=OX:=by simp[h0]
  have H0:ak _:=⟨h0⟩;clear h0;obtain⟨H,hX⟩:=Y.o.heap;go_wp2_with (refine wpList_store_row rfl 44 (.tmp 16) (.tmp 51) rfl k (jE 0 0 0 OJ 0 0 0 0 0 OZ OJ 0 0) rfl aD H _ hX aF aD ed ?_;have X9:=Y.o.row (ds:=jE 0 0 0 OJ 0 0 0 0 0 OZ OJ 0 0));obtain⟨I,J⟩:=X9.heap;refine bodyPost_ret (bY results21 _ _ k I _ (0,0) _ aD J underlying44 rfl aF) rfl ?_;exact⟨⟨0,0,0,OJ,0,0,0,0,0,OZ,OJ,0,0⟩,_,rfl,λh=>absurd h H0.o,below_setRow B6.o aq _⟩
 have P5:ak (Mi w w5 k f d.heap.size (jE a b r OJ 0 0 0 0 l OZ OJ 0 0) p a b A n c):=⟨⟨X5.o,Y.o,U5.o,B6.o,O5.o,hNN,by have:=Q.o;have:=O.o;omega,by have:=Q.o;have:=O.o;omega,by have:=Q.o;have:=O.o;have:=HZ4.o;omega⟩⟩;have HI:ak (w.heap.size<=k):=⟨by have:=Q.o;omega⟩;have HB4:ak (w.heap.size<=d.heap.size):=⟨by have:=HZ4.o;omega⟩;clear Iu hN3 X5 Y U5 B6 B5 O5 hNN;subst h0;have⟨C,E,q,B,q4,u,y,D,t⟩:=P5.o.x3.p9;have fq:=P5.o.x3.fz 3;have T:Mi w ((w5:EE).setCell ⟨f,3,OJ⟩ (Pl A n c)) k f d.heap.size (jE a b r A n c 0 0 l OZ OJ 0 0) p a b A n c:=P5.o.set 3 (Pl A n c);go_upto_region 9 with fail;have⟨w6,m⟩:∃wz,wz=(w5:EE).setCell ⟨f,3,OJ⟩ (Pl A n c):=⟨_,rfl⟩;rw[<-m]at T⊢;have T:ak _:=⟨T⟩;clear m C E q B q4 u y D t fq;go_wp2_with fail;refine(aaU A n c w6 ((T.o.gl.oq λgs h g hg=>(fY.each _ h g hg).2).rq aq) rO).mono ?_;rintro e w7 ⟨o,rfl,hw,e7⟩;subst w7;have HW:ak _:=⟨hw⟩;clear hw;have⟨C,E,q,B,q4,u,y,D,t⟩:=T.o.x3.p9;have fq:=T.o.x3.fz 4;have V:Mi w ((w6:EE).setCell ⟨f,4,OJ⟩ (ae aj o)) k f d.heap.size (jE a b r A n c o 0 l OZ OJ 0 0) p a b A n c:=T.o.set 4 (ae aj o);go_upto_region 10 with fail;have⟨w7,m⟩:∃wz,wz=(w6:EE).setCell ⟨f,4,OJ⟩ (ae aj o):=⟨_,rfl⟩;rw[<-m]at V⊢;have V:ak _:=⟨V⟩;clear m C E q B q4 u y D t fq;clear P5 T;have⟨C,E,q,B,q4,u,y,D,t⟩:=V.o.x3.p9;have fq:=V.o.x3.fz 5;have W:Mi w ((w7:EE).setCell ⟨f,5,OJ⟩ (ae aj o)) k f d.heap.size (jE a b r A n c o o l OZ OJ 0 0) p a b A n c:=V.o.set 5 (ae aj o);go_upto_region 11 with fail;have⟨w8,m⟩:∃wz,wz=(w7:EE).setCell ⟨f,5,OJ⟩ (ae aj o):=⟨_,rfl⟩;rw[<-m]at W⊢;have W:ak _:=⟨W⟩;clear m C E q B q4 u y D t fq;clear V;have⟨S,d1,d2,d3,d4,d5,d6,d7⟩:=W.o.xp.c8;go_wp2_with fail;refine(Wd p.T p.tn p.tc a b ts w8 (HP.o.ar W.o.be).rT aq hb aq).mono ?_;rintro e w9 ⟨rfl,b9⟩;have P9:ak _:=⟨W.o.ar b9⟩;have⟨sp,hsp⟩:∃sp,mf ts a b=sp:=⟨_,rfl⟩;rw[hsp];clear b9 W S d1 d2 d3 d4 d5 d6 d7 hsp;go_wp2;go_loopg[22](n+1)(λgg v wr=>∃(i:Nat) (jI:Int),n-i<gg/\i<=n/\v=ae aj (i:Int)/\ak (-((n+i:Nat)*2199023255552:Int)<=jI/\jI<=((n+i:Nat)*2199023255552:Int))/\ak (Mi w wr k f d.heap.size (jE a b r A n c o jI l OZ OJ 0 0) p a b A n c))
 .exact⟨0,o,aq,aq,rfl,HW,P9⟩
 clear P9;obtain⟨i,jI,hg,hi,rfl,HI2,F⟩:=hrel;by_cases aG:i<n;rotate_left
 .have i5:=cI i n
  have⟨C,E,q,B,q4,u,y,D,t⟩:=F.o.x3.p9;obtain⟨H,hX⟩:=F.o.x2.heap;go_wp2_with (refine wpList_store_row rfl 44 (.tmp 16) (.tmp 88) rfl k (jE a b r A n c o jI l OZ OJ 0 0) rfl aD H _ hX aF aD ed ?_;have X9:=F.o.x2.row (ds:=jE a b r A n c o jI l OZ OJ 0 0));obtain⟨I,J⟩:=X9.heap;refine bodyPost_ret (bY results21 _ _ k I _ (0,0) _ aD J underlying44 rfl aF) rfl ?_;exact⟨⟨a,b,r,A,n,c,o,jI,l,OZ,OJ,0,0⟩,_,rfl,λ_=>⟨rfl,rfl,rfl,rfl,rfl,rfl,rfl,II,⟨rO,by have:=HW.o;have:=HI2.o;unfold Uf;dsimp only;omega⟩,(F.o.gl.iA (by obtain⟨gs,h1,h2,_,h3⟩:=F.o.gl;exact aA.oB h3 (by have:=O.o;have:=F.o.hi;omega)) _).cS HB4.o⟩,below_setRow F.o.be HI.o _⟩
 have i5:=aU i n;obtain⟨g,rfl,_⟩:=F.o.gl.form aq;obtain⟨x0,x1,x2,x3,x4,x5,x6,x7,x8,x9,hx,g0,g1,g2,_⟩:=(F.o.gl.oq λgs h g hg=>(fY.each _ h g hg).2).bK aG;have HX:ak (-((n+(i+1):Nat)*2199023255552:Int)<=IK (jI-x2)/\IK (jI-x2)<=((n+(i+1):Nat)*2199023255552:Int)):=⟨by have hx: -2199023255552<=x2/\x2<=2199023255552:=hx.2;have:=HI2.o;rw[IntWalk.wrap64_in _ (by omega)];omega⟩;clear hx;by_cases hs:(sp:Int)<=x1;rotate_left
 .go_wp2
  go_roundg(n-i)
  case measure=>omega
  case rel=>exact⟨i+1,jI,aq,aq,aV,⟨by have:=HI2.o;omega⟩,F⟩
 have⟨C,E,q,B,q4,u,y,D,t⟩:=F.o.x3.p9;go_upto_region 16 with fail;have K5:=au u;have L2:=au g2;clear C E q B q4 u y D t g0 g1 g2;refine aQ (λ_=>OJ) 9 rfl aF aF aF aF aF rfl ?_
 repeat(refine cH aD aD aD ?_;intro K9 bQ;go_big_quiet_op;go_big_quiet_on)
 intro j hE;have p6:=F.o.ar j.2;have⟨C,E,q,B,q4,u,y,D,t⟩:=p6.x3.p9;have fq:=p6.x3.fz 5;have PN:ak (∀v:Int,Mi w (j.1.setCell ⟨f,5,OJ⟩ (ae aj v)) k f d.heap.size (jE a b r (OH ⟨g,0,OJ⟩) n c o v l OZ OJ 0 0) p a b (OH ⟨g,0,OJ⟩) n c):=⟨λv=>p6.set 5 (ae aj v)⟩;clear hE K5 L2 p6 C E q B q4 y D t;go_simp;go_wp2;go_roundg(n-i)
 case measure=>omega
 case rel=>exact⟨i+1,_,aq,aq,aV,HX,⟨PN.o _⟩⟩
def Oa:qG:=λz w h=>(AA z aq w).mono λe g ⟨A,C,n,c,m,d,b,f,_,a⟩=>⟨A,C,n,c,m,d,b,f,a⟩
def POf(w:EE)(p:jz)(e:IS)(a:EE):Prop:=∃(A:aB) (m c:Nat) (R:aB) (b d:Nat) (z:Int),e=RE (P8 #[Pl A m c,Pl R b d,ae aj z])/\(z=0->∃(xs:List fv) (f:List aC),xs.length=m/\m<=c/\m<=p.tn/\b<=p.tn/\ta a a.heap.size xs 0 m A/\Rx a a.heap.size 6 f R b/\iQ p.tn b xs)/\az w a
def ZPc(B a b r:Nat)(g:Int):Sat:=⟨λv w=>∃(y:TV) (z:Int),v=P8 #[Q4 y.row,ae aj z]/\(z=0->Le w B a b r g y),λ_ _ _ ⟨y,z,d,f⟩ c=>⟨y,z,d,λe=>(f e).ar c⟩⟩
def mi.Z{a:EE}(h:mi w A m t)(c:az w a):mi a A m t:=by
 obtain⟨d,g,e,b⟩:=h;exact⟨d,g,e,av b c⟩
def Le.row{g:Nat}{d:Int}{y:TV}{cs:Array EN}(h:Le w B a b r d y)(q:Tx w g cs 44)(ds:Array EN):Le (w.setRow g ds) B a b r d y:=by
 obtain⟨n,o,l,j,m,k,i,f,e,c⟩:=h;exact⟨n,o,l,j,m,k,i,f,e,c.iA (by obtain⟨gs,s,t,_,p⟩:=c;exact q.apart p (by decide)) ds⟩
def ZPc.get{j:Int}{y:TV}{z:Int}(h:(ZPc B a b r j).p (P8 #[Q4 y.row,ae aj z]) w):z=0->Le w B a b r j y:=by
 obtain⟨⟨f2,N,P,T,O,V,s,D,o,C,S,H,L⟩,I,e,h⟩:=h;obtain⟨f1,U,R,Q,M,G,p,q,l,n,K,J,W⟩:=y;simp at e;obtain⟨⟨t,v,E,⟨m,k,A⟩,F,x,u,g,i,d,f⟩,c⟩:=e;subst t v E m k A F x u g i d f c;exact h
def ZWn(B N:Nat):Sat:=⟨λv w=>∃(A:aB) (k c:Nat),v=Pl A k c/\k<=N/\Ow w B 3 .i64 aK A k c,λ_ _ _ ⟨A,k,c,d,e,a⟩ b=>⟨A,k,c,d,e,a.ar b⟩⟩
def ZWn.get{N k:Nat}(h:(ZWn B N).p (Pl A k c) w):Ow w B 3 .i64 aK A k c:=by
 obtain⟨d,b,a,e,_,h⟩:=h;injection e with e1 e2 e3
 subst e1 e2 e3;exact h
def aar{G:Prop}(s:G:=by
 refine wp_store_row 44 (.tmp 16) (.tmp 84) rfl g y.row rfl rfl 44 _ hx aF rfl ed ?_
 clear hx;go_simp;go_step;go_meet;exact⟨g,y,z,rfl,rfl,HG1,⟨HX.o.row _⟩,⟨λh=>(HP.o h).row HX.o _⟩,⟨below_setRow HN.o HG1.o _⟩⟩):G:=s
def agp(s:cM)(p:jz)(ts:aC)(w:EE)(h:gA w w.heap.size s)(hp:kf w p ts)(hs:zt w s p):GK prog 6 #[s.v,p.v] w (POf w p):=by
 have⟨W1,aP⟩:∃W1,W1=(w.alloc (RM s.row 26)).alloc (RM p.row 31):=⟨_,rfl⟩;have BB:=Fm aP;have B1:ak (az w W1):=⟨BB.1⟩;have X1:ak (Bx W1 w.heap.size s.row):=⟨BB.2.1⟩;have X2:ak (Bx W1 (w.heap.size+1) p.row):=⟨BB.2.2⟩;clear BB;have⟨c0,c1,J,c3,c4⟩:=X1.o.c5;have⟨P,Z,X,d3,T,Y,V,U⟩:=X2.o.c8;have R0:ak _:=⟨h.Z B1.o B1.o.size⟩;have P0:ak _:=⟨hp.ar B1.o⟩;have S0:ak _:=⟨hs.ar h B1.o⟩;have ht:p.tn<=60:=hs.1;clear h hp hs;go_enter func6,ntmps6;go_upto_region 1 with fail;rw[<-aP];clear aP;go_wp2_with fail;refine(abL Pn Oa s p ts W1 R0.o P0.o S0.o).mono ?_;rintro e w2 ⟨R,m,rc,z,rfl,hz,b2⟩;have O:ak _:=⟨b2⟩;clear b2 c0 c1 J c3 c4 P Z X d3 T Y V U;by_cases h0:z=0;rotate_left
 .have Fu:(z !=0)=OX:=by simp[h0]
  have H0:ak _:=⟨h0⟩;clear h0 hz;go_wp2;go_ret3;exact⟨OJ,0,0,OJ,0,0,_,rfl,λh=>absurd h H0.o,B1.o.trans (O.o.mono B1.o.size)⟩
 obtain⟨ch,hrm,oq,lt⟩:=hz h0;have C2:ak (FsB w2 w2.heap.size s):=⟨ch.1,ch.2.1.2.2⟩;have O2:ak _:=⟨oq⟩;have L2:ak _:=⟨lt⟩;clear hz ch oq lt;subst h0;have⟨P,Z,X,d3,T,Y,V,U⟩:=(X2.o.ar O.o X2.o.lt).c8;go_wp2_with fail;refine(U' p.T p.tn p.tc ts R m rc w2 (P0.o.ar O.o).rT (O2.o.rq aq) aq aq).mono ?_;rintro e w3 ⟨bs,k,f9,C,cc,rfl,hk,cu,b3⟩;have B3:ak (az W1 w3):=⟨O.o.trans (b3.mono O.o.size)⟩;have C3:ak _:=⟨C2.o.Z b3 b3.size⟩;have O3:ak _:=⟨O2.o.ar b3⟩;have L3:ak (0<p.tn->mi w3 R m p.tn):=⟨λh=>(L2.o h).Z b3⟩;have CU:ak _:=⟨cu⟩;clear b3 cu P Z X d3 T Y V U C2 O2 L2;have⟨P,Z,X,d3,T,Y,V,U⟩:=(X2.o.ar B3.o X2.o.lt).c8;go_wp2_with fail;refine(ae0 p.T p.tn p.tc ts w3 (P0.o.ar B3.o).rT aq).mono ?_;rintro e w4 ⟨km,hkm,K,kc,rfl,ok,b4⟩;have B4:ak (az W1 w4):=⟨B3.o.trans (b4.mono B3.o.size)⟩;have C4:ak _:=⟨C3.o.Z b4 b4.size⟩;have O4:ak _:=⟨O3.o.ar b4⟩;have L4:ak (0<p.tn->mi w4 R m p.tn):=⟨λh=>(L3.o h).Z b4⟩;have U4:ak _:=⟨CU.o.ar b4⟩;have K4:ak _:=⟨ok.iw⟩;have HK:ak (0<p.tn->km=p.tn+1):=⟨hkm⟩;clear b4 ok P Z X d3 T Y V U C3 O3 L3 CU hkm;have⟨P,Z,X,d3,T,Y,V,U⟩:=(X2.o.ar B4.o X2.o.lt).c8;go_wp2_with fail;refine(Xh p.T p.tn p.tc ts w4 (P0.o.ar B4.o).rT aq).mono ?_;rintro e w5 ⟨F,fc,rfl,of,b5⟩;have B5:ak (az W1 w5):=⟨B4.o.trans (b5.mono B4.o.size)⟩;have C5:ak _:=⟨C4.o.Z b5 b5.size⟩;have O5:ak _:=⟨O4.o.ar b5⟩;have L5:ak (0<p.tn->mi w5 R m p.tn):=⟨λh=>(L4.o h).Z b5⟩;have U5:ak _:=⟨U4.o.ar b5⟩;have K5:ak _:=⟨K4.o.Z b5 b5.size⟩;have F5:ak _:=⟨of.iw⟩;have hfc:p.tn<=fc:=of.le.1;clear b5 of P Z X d3 T Y V U C4 O4 L4 U4 K4;have⟨P,Z,X,d3,T,Y,V,U⟩:=(X2.o.ar B5.o X2.o.lt).c8;have⟨c0,c1,J,c3,c4⟩:=(X1.o.ar B5.o X1.o.lt).c5;go_wp2_with fail;refine(Ku s p ts w5 (R0.o.Z B5.o B5.o.size) (P0.o.ar B5.o) (S0.o.ar R0.o B5.o)).mono ?_;rintro e Q ⟨M,mm,mc,rfl,hmm,om,b6⟩;have B6:ak (az W1 Q):=⟨B5.o.trans (b6.mono B5.o.size)⟩;have C6:ak _:=⟨C5.o.Z b6 b6.size⟩;have O6:ak _:=⟨O5.o.ar b6⟩;have L6:ak (0<p.tn->mi Q R m p.tn):=⟨λh=>(L5.o h).Z b6⟩;have U6:ak _:=⟨U5.o.ar b6⟩;have K6:ak _:=⟨K5.o.Z b6 b6.size⟩;have F6:ak _:=⟨F5.o.Z b6 b6.size⟩;have M6:ak _:=⟨om.iw⟩;have JS:ak _:=⟨X1.o.ar B6.o X1.o.lt⟩;have X26:ak _:=⟨X2.o.ar B6.o X2.o.lt⟩;have R6:ak _:=⟨R0.o.Z B6.o B6.o.size⟩;have P6:ak _:=⟨P0.o.ar B6.o⟩;have BW:ak (az w Q):=⟨B1.o.trans (B6.o.mono B1.o.size)⟩;clear b6 om P Z X d3 T Y V U c0 c1 J c3 c4 C5 O5 L5 U5 K5 F5 O B3 B4 B5 X1 X2 R0 P0 S0;go_wp2;go_loopg[13,14,15,16,17](k+1)(λgg kE Ap kD _ _ wr=>∃(i at_:Nat) (A:aB) (c:Nat) (xs:List fv),k-i<gg/\i<=k/\kE=Pl A i c/\Ap=ae aj (at_:Int)/\kD=ae aj (i:Int)/\(0<k->at_<m)/\ak (PcO wr Q.heap.size xs A i c)/\ak (iQ p.tn m xs/\(∀x∈xs,x.q.t<=dw bs i)/\∀j,j+1=xs.length->(jX xs j).q.t=dw bs i)/\ak (az Q wr))
 .exact⟨0,0,OJ,0,[],aq,aq,rfl,rfl,rfl,λh=>(L6.o aq).1,⟨Gn.nil _ _ _ _ _ _⟩,⟨iQ.nil _ _,aT,aT⟩,cJ⟩
 obtain⟨i,at_,A,c,xs,hg,hi,rfl,rfl,rfl,wh,PO,OK,BE⟩:=hrel;have Eh:=BE.o.size;by_cases aG:i<k;rotate_left
 .have i4:=cI i k
  obtain rfl:i=k:=aq;have hx:xs.length=i:=PO.o.len;obtain⟨rs,hrx,_⟩:=((O6.o.ar BE.o).rq aq).rx;have RX:ak _:=⟨hrx⟩;have hle:=aA.le PO.o.own;clear hrx;go_wp2;go_ret3;exact⟨A,i,c,R,m,rc,0,rfl,λ_=>⟨xs,rs,hx,hle,hk,hrm,PO.o.rd,RX.o,OK.o.1⟩,BW.o.trans (BE.o.mono BW.o.size)⟩
 have i4:=aU i k;have wh:=wh aq;obtain⟨ja,zr⟩:=U6.o.up i aG;obtain⟨gC,rfl,_,_⟩:=aA.form U6.o.own aq;obtain⟨q,r⟩:=Dl.at_ (aA.ar U6.o.own BE.o) (jg _ _) aG;rw[kN _ _ _ aG]at q r;dsimp only at q r;have⟨a,ha⟩:∃a,dw bs i=a:=⟨_,rfl⟩;have⟨b,hb⟩:∃b,dw bs (i+1)=b:=⟨_,rfl⟩;rw[ha]at q ja OK;rw[hb]at r ja zr;have HB:ak _:=⟨hb⟩;have HA:ak _:=⟨ha⟩;have HG:ak (k-i<gk):=⟨hg⟩;clear ha hb hg;obtain⟨gR,hR,_⟩:=O6.o.form aq;subst hR;obtain⟨wo,rfl⟩:∃wo:EE,wo=wr:=⟨_,rfl⟩;have Q0:ak (∀W,az wo W->W.cell? ⟨gC,i*2,OJ⟩=OH (ae aj (a:Int))/\W.cell? ⟨gC,i*2+1,OJ⟩=OH (ae aj (b:Int))):=⟨λW hW=>⟨av q hW,av r hW⟩⟩;clear q r;go_wp2;go_loopg[14](m+1)(λg v wx=>∃t:Nat,m-t<g/\t<m/\v=ae aj (t:Int)/\ak (az wo wx))
 .exact⟨at_,aq,wh,rfl,cJ⟩
 obtain⟨t,hgt,S,rfl,BT⟩:=hrel;have H:ak (az Q wr):=⟨BE.o.trans (BT.o.mono Eh)⟩;obtain⟨x,_,e0,e1,_⟩:=(O6.o.ar H.o).im S;obtain⟨_,g',eg,ec⟩:=(L6.o aq).Z H.o;have LT:ak (t+1=m->x.t=(p.tn:Int)):=⟨λh=>by
  injection eg with eg
  injection eg with eg
  subst eg;rw[show m-1=t by omega,e1]at ec;injection ec with ec
  injection ec⟩
 obtain⟨q,r⟩:=Q0.o _ BT.o;have K1:=au e1;have K2:=au q;have t4:=aU t m;clear e0 e1 eg ec q r;by_cases hx:x.t<=(a:Int)
 .have fh:t+1<m:=by
   rcases Nat.lt_or_ge (t+1) m with h1|h1
   .exact h1
   .have:=LT.o aq;omega
  go_wp2;refine bS aF aF ?_
  repeat(go_big_quiet_step (fail))
  refine wpQuiet_nil ?_;rintro _ ⟨f,rfl⟩;have O:ak (az wo f.1):=⟨BT.o.trans (f.2.mono BT.o.size)⟩;go_wp2;go_roundg(m-t)
  case measure=>omega
  case rel=>exact⟨t+1,aq,fh,aV,O⟩
 go_wp2;refine bS aF aF ?_
 repeat(go_big_quiet_step (fail))
 refine wpQuiet_nil ?_;rintro _ ⟨f,rfl⟩;have O:ak (az wo f.1):=⟨BT.o.trans (f.2.mono BT.o.size)⟩;generalize f.1=wv at*;clear f K1 K2 LT BT H;have H:ak (az Q wv):=⟨BE.o.trans (O.o.mono Eh)⟩;have E:=H.o.size;go_upto_region 15 with fail;clear hx;obtain⟨adK,en,eK,_,ek⟩:=(K6.o.Z H.o E).get (show b<km by have:=HK.o aq;omega);have b4:(b:Int)<(km:Int):=by have:=HK.o (by omega);omega
 subst eK;have⟨c0,c1,J,c3,c4⟩:=(JS.o.ar H.o JS.o.lt).c5;have⟨P,Z,X,d3,T,Y,V,U⟩:=(X26.o.ar H.o X26.o.lt).c8;obtain⟨q,r⟩:=Q0.o _ O.o;have RW:ak _:=⟨R6.o.Z H.o E⟩;have PW:ak _:=⟨P6.o.ar H.o⟩;have FW:ak _:=⟨F6.o.Z H.o E⟩;have CW:ak _:=⟨C6.o.Z H.o E⟩;have OW:ak _:=⟨(O6.o.ar H.o).rq aq⟩;have MW:ak _:=⟨M6.o.Z H.o E⟩;have t4:=aU t m;go_cut[16,17](λnN v17 wx=>∃(g:Nat) (y:TV) (z:Int),nN=PK (OH ⟨g,0,OJ⟩)/\v17=ae aj z/\ak (wv.heap.size<=g)/\ak (Tx wx g y.row 44)/\ak (z=0->Le wx wv.heap.size a b t en y)/\ak (az wv wx))
 ·
  have K0:=au c0;have K1:=au c1;have K2:=au J;have K3:=au c3;have K4:=au c4
  have L0:=au P;have L1:=au Z;have L2:=au X;have L3:=au d3;have L4:=au T;have L6:=au Y;have L7:=au V;have L8:=au U
  have M0:=au q;have M1:=au r;have M2:=au ek
  clear c0 c1 J c3 c4 P Z X d3 T Y V U q r ek;refine sB (λd=>if d=OH 83 then OH (ZPc wv.heap.size a b t en)else if d=OH 16 then OH (ZT wv.heap.size (jE 0 0 0 OJ 0 0 0 0 0 OZ OJ 0 0) 44)else OJ) 28 26 85 rfl aF aF aF aF aF rfl rfl rfl rfl ?_
  repeat(refine cH aD aD aD ?_;intro K9 bQ;go_big_quiet_op;go_big_quiet_on)
  refine dA (ZPc wv.heap.size a b t en) aD aD (λw9 cv=> ?_) (λv9 aX=> ?_)
  .obtain⟨f,rfl⟩:=cv
   go_simp;refine aZ (ZPc wv.heap.size a b t en) ((MV s p ts F fc _ m rc t a b en f.1 (RW.o.Z f.2 f.2.size) (PW.o.ar f.2) (FW.o.Z f.2 f.2.size) (CW.o.Z f.2 f.2.size) hfc (OW.o.Z f.2 f.2.size) S ja zr ht).mono ?_);rintro e w9 ⟨y,z,rfl,h1,hb⟩;exact⟨_,rfl,⟨y,z,rfl,λh=>(h1 h).cS f.2.size⟩,hb⟩
  obtain⟨_,_,y,z,rfl,_⟩:=aX;simp[Act.put]
  repeat(refine cH aD aD aD ?_;intro K9 bQ;go_big_quiet_op;go_big_quiet_on)
  refine dA (ZT wv.heap.size (jE 0 0 0 OJ 0 0 0 0 0 OZ OJ 0 0) 44) aD aD (λw9 cv=> ?_) (λv9 aX=> ?_)
  .obtain⟨f,rfl⟩:=cv
   go_simp;exact Fq f _ _
  obtain⟨_,_,g,rfl,eU,_⟩:=aX;simp[Act.put];intro f hE;have hp:=ZPc.get hE.1;have hx:=ZT.get hE.2;have HP:ak _:=⟨hp⟩;have HX:ak _:=⟨hx⟩;have HG1:ak _:=⟨eU⟩;have HN:ak _:=⟨f.2⟩;clear hE hp K0 K1 K2 K3 K4 L0 L1 L2 L3 L4 L6 L7 L8 M0 M1 M2 eU;refine⟨?_,λu=> ?_⟩
  .exact aar
  .exact aar
 clear c0 c1 J c3 c4 P Z X d3 T Y V U q r ek;obtain⟨g,y,z,rfl,rfl,HG1,TXc,PG,BC⟩:=hcut;have BY:ak (az Q wc):=⟨H.o.trans (BC.o.mono E)⟩;have POc:ak _:=⟨(PO.o.ar (iq _) O.o).ar (iq _) BC.o⟩;have B3:ak (az wo wc):=⟨O.o.trans (BC.o.mono O.o.size)⟩;by_cases h0:z=0;rotate_left
 .have Fu:(z !=0)=OX:=by simp[h0]
  have H0:ak _:=⟨h0⟩;clear h0;go_wp2;go_ret3;exact⟨OJ,0,0,OJ,0,0,_,rfl,λh=>absurd h H0.o,BW.o.trans (BY.o.mono BW.o.size)⟩
 subst h0;obtain⟨f',t',r',G,n,c',o,jI,l,iX,P',m',d'⟩:=y;obtain⟨h1,h2,h3,h4,h5,h6,h7,h8,h9,gs,k1,k2,kL,k3⟩:=PG.o rfl;dsimp only at h1 h2 h3 h4 h5 h6 h7 h8 h9 k1 k2 kL k3;subst h1 h2 h3 h4 h5 h6 h7 k1;have TX0:ak (Tx wc g (fv.row ⟨⟨a,b,t,o,jI,iX,gs⟩,G,c',l,OJ,0,0⟩) 44):=⟨TXc.o⟩;have PI0:ak (PcI Q.heap.size wc ⟨⟨a,b,t,o,jI,iX,gs⟩,G,c',l,OJ,0,0⟩):=⟨⟨k2,aA.eN k3 E,Ow.nil _ _ _ _ _⟩⟩;have GL:ak (gs.length<=c'/\(gs.length<=20000/\Uf o jI)/\fY Yt a b gs):=⟨⟨h8,h9,kL⟩⟩;clear TXc PG h8 h9 k2 kL k3;have⟨q,r,q2,q3,q4,q5,q6,q7,q8⟩:=TX0.o.bx.p9;cases iX;rotate_left
 .go_upto_region 20 with fail
  have GA:ak _:=⟨POc.o.ar (iq _) (aw wc (RM (fv.row ⟨⟨a,b,t,o,jI,OX,gs⟩,G,c',l,OJ,0,0⟩) 44))⟩;have PA:ak _:=⟨(iq _).b _ _ _ PI0.o (aw wc (RM (fv.row ⟨⟨a,b,t,o,jI,OX,gs⟩,G,c',l,OJ,0,0⟩) 44))⟩;have hz9:=B3.o.size;go_wp2_with (at_builtin;refine bE TPc rfl (.tmp 105) (.tmp 107) rfl rfl GA.o.own rfl (news:=fv.F ⟨⟨a,b,t,o,jI,OX,gs⟩,G,c',l,OJ,0,0⟩) rfl (λj u h=>afH) (λu hu=>afy) aq br ?_;intro A8 c8 w8 o8 b8 g8 _;have PO8:ak _:=⟨GA.o.push (iq _) PA.o o8 g8⟩;have B8:ak (az Q w8):=⟨BE.o.trans (((B3.o.alloc hz9 _).mono Eh).trans b8)⟩;clear o8 b8 g8);have OK8:ak (iQ p.tn m (xs++[⟨⟨a,b,t,o,jI,OX,gs⟩,G,c',l,OJ,0,0⟩])/\(∀x∈(xs++[⟨⟨a,b,t,o,jI,OX,gs⟩,G,c',l,OJ,0,0⟩]:List fv),x.q.t<=dw bs (i+1))/\∀j,j+1=(xs++[⟨⟨a,b,t,o,jI,OX,gs⟩,G,c',l,OJ,0,0⟩]:List fv).length->(jX (xs++[⟨⟨a,b,t,o,jI,OX,gs⟩,G,c',l,OJ,0,0⟩]) j).q.t=dw bs (i+1)):=⟨OK.o.1.more S ⟨ja,zr⟩ GL.o OK.o.2.1 OK.o.2.2,λx hx=>by
   rw[HB.o];rcases List.mem_append.1 hx with hx|hx
   .have:=OK.o.2.1 x hx;omega
   .obtain rfl:=List.mem_singleton.1 hx;exact Nat.le_refl _,λj hj=>by
   rw[HB.o,fH aq,List.getElem_append_right (by simp at hj;omega)];simp⟩
  go_roundg(k-i)
  case measure=>have:=HG.o;omega
  case rel=>exact⟨i+1,t,A8,c8,_,aq,aq,rfl,rfl,aV,λ_=>S,PO8,OK8,B8⟩
 go_upto_region 19 with fail;obtain⟨r0,r1⟩:=Q0.o _ B3.o;have K0:=au r0;have K1:=au r1;have MC:ak _:=⟨MW.o.Z BC.o BC.o.size⟩;clear q r q2 q3 q4 q5 q6 q7 q8 r0 r1;refine aQ (jD 103 (ZWn wc.heap.size mm)) 13 rfl aF aF aF aF aF rfl ?_
 repeat(refine cH aD aD aD ?_;intro K9 bQ;go_big_quiet_op;go_big_quiet_on)
 refine dA (ZWn wc.heap.size mm) aD aD (λw9 cv=> ?_) (λv9 aX=> ?_)
 .obtain⟨f,rfl⟩:=cv
  go_simp;refine aZ (ZWn wc.heap.size mm) ((Qb M mm mc _ _ f.1 (MC.o.Z f.2 f.2.size) aq).mono ?_);rintro e w9 ⟨L,D,I,h1,rfl,o9,hb⟩;exact⟨_,rfl,⟨L,D,I,rfl,h1,o9.cS f.2.size⟩,hb⟩
 obtain⟨_,_,L,D,I,rfl,hk9,_⟩:=aX;simp[Act.put]
 repeat(refine cH aD aD aD ?_;intro K9 bQ;go_big_quiet_op;go_big_quiet_on)
 intro f hE;have o9:=ZWn.get (B:=wc.heap.size) (N:=mm) hE;have tx:=TX0.o.ar f.2;have⟨q,r,q2,q3,q4,q5,q6,q7,q8⟩:=tx.bx.p9;have f8:=tx.bx.fz 8;have pi:=(iq _).b _ _ _ PI0.o f.2;have TP:ak _:=⟨(POc.o.ar (iq _) f.2)⟩;have X9:ak (Bx (f.1.setCell ⟨g,8,OJ⟩ (Pl L D I)) g (fv.row ⟨⟨a,b,t,o,jI,OZ,gs⟩,G,c',l,L,D,I⟩)):=⟨tx.bx.jq 8 _⟩;have PI9:ak (PcI Q.heap.size (f.1.setCell ⟨g,8,OJ⟩ (Pl L D I)) ⟨⟨a,b,t,o,jI,OZ,gs⟩,G,c',l,L,D,I⟩):=⟨⟨pi.1,aA.mj pi.2.1 (tx.apart pi.2.1 cF) _,by
  obtain⟨xs9,u1,u2⟩:=o9.cS (show Q.heap.size<=wc.heap.size from BY.o.size);exact⟨xs9,aA.mj u1 (tx.apart u1 cF) _,u2⟩⟩⟩
 have hgB:wo.heap.size<=g:=Nat.le_trans O.o.size HG1.o;have B9:ak (az wo (f.1.setCell ⟨g,8,OJ⟩ (Pl L D I))):=⟨Below.setCell (B3.o.trans (f.2.mono B3.o.size)) (p:=⟨g,8,OJ⟩) hgB _⟩;have POs:ak _:=⟨PO.o.ar (iq _) B9.o⟩;clear hE K0 K1 o9 pi q r q2 q3 q4 q5 q6 q7 MC tx;go_simp;clear q8 f8;generalize f.1.setCell ⟨g,8,OJ⟩ (Pl L D I)=wz at*;have⟨q,r,q2,q3,q4,q5,q6,q7,q8⟩:=X9.o.p9;go_step;go_upto_region 20 with fail;have GA:ak _:=⟨POs.o.ar (iq _) (aw wz (RM (fv.row ⟨⟨a,b,t,o,jI,OZ,gs⟩,G,c',l,L,D,I⟩) 44))⟩;have PA:ak _:=⟨(iq _).b _ _ _ PI9.o (aw wz (RM (fv.row ⟨⟨a,b,t,o,jI,OZ,gs⟩,G,c',l,L,D,I⟩) 44))⟩;have hz9:=B9.o.size;go_wp2_with (at_builtin;refine bE TPc rfl (.tmp 105) (.tmp 107) rfl rfl GA.o.own rfl (news:=fv.F ⟨⟨a,b,t,o,jI,OZ,gs⟩,G,c',l,L,D,I⟩) rfl (λj u h=>afH) (λu hu=>afy) aq br ?_;intro A8 c8 w8 o8 b8 g8 _;have PO8:ak _:=⟨GA.o.push (iq _) PA.o o8 g8⟩;have B8:ak (az Q w8):=⟨BE.o.trans (((B9.o.alloc hz9 _).mono Eh).trans b8)⟩;clear o8 b8 g8);have OK8:ak (iQ p.tn m (xs++[⟨⟨a,b,t,o,jI,OZ,gs⟩,G,c',l,L,D,I⟩])/\(∀x∈(xs++[⟨⟨a,b,t,o,jI,OZ,gs⟩,G,c',l,L,D,I⟩]:List fv),x.q.t<=dw bs (i+1))/\∀j,j+1=(xs++[⟨⟨a,b,t,o,jI,OZ,gs⟩,G,c',l,L,D,I⟩]:List fv).length->(jX (xs++[⟨⟨a,b,t,o,jI,OZ,gs⟩,G,c',l,L,D,I⟩]) j).q.t=dw bs (i+1)):=⟨OK.o.1.more S ⟨ja,zr⟩ GL.o OK.o.2.1 OK.o.2.2,λx hx=>by
  rw[HB.o];rcases List.mem_append.1 hx with hx|hx
  .have:=OK.o.2.1 x hx;omega
  .obtain rfl:=List.mem_singleton.1 hx;exact Nat.le_refl _,λj hj=>by
  rw[HB.o,fH aq,List.getElem_append_right (by simp at hj;omega)];simp⟩
 go_roundg(k-i)
 case measure=>have:=HG.o;omega
 case rel=>exact⟨i+1,t,A8,c8,_,aq,aq,rfl,rfl,aV,λ_=>S,PO8,OK8,B8⟩
def TxF(p:jz)(ts:aC):Prop:=Fp ts p.tn/\(0<=p.dir/\p.dir<=2)/\tY ts p.tn p.tn
def NmF(w:EE)(s:cM)(p:jz):Prop:=(0<=s.ev/\s.ev<=1048576)/\ox w p.B p.bn/\1<=p.wd/\p.wd<=268435456
def agm(w:EE)(s:cM)(p:jz)(ts:aC)(e:IS)(a:EE):Prop:=∃z:Bool,e=RE (PF z)/\(z=OX->zt a s p/\p.tn<=40/\TxF p ts/\NmF w s p)/\az w a
def W7(s:cM)(p:jz)(ts:aC)(w:EE)(h:gA w w.heap.size s)(I:kf w p ts):GK prog 4 #[s.v,p.v] w (agm w s p ts):=by
 have⟨c,d⟩:∃c,c=(w.alloc (RM s.row 26)).alloc (RM p.row 31):=⟨_,rfl⟩;have k:=Fm d;have a:ak (az w c):=⟨k.1⟩;have D:ak (Bx c w.heap.size s.row):=⟨k.2.1⟩;have g:ak (Bx c (w.heap.size+1) p.row):=⟨k.2.2⟩;clear k;have⟨c0,l,f,u,c4⟩:=D.o.c5;have⟨j,A,n,y,q,r,v,x⟩:=g.o.c8;have m:ak _:=⟨h.Z a.o a.o.size⟩;have H:ak _:=⟨I.ar a.o⟩;clear h I;go_enter func4,ntmps4;go_upto_region 1 with fail;rw[<-d];clear d;go_wp2_with fail;refine(H9 s p ts c m.o H.o).mono ?_;rintro e B ⟨z,rfl,F,E⟩;have b:ak (az c B):=⟨E⟩;have M:ak _:=⟨F⟩;clear E F c0 l f u c4 j A n y q r v x;cases z with
 |false=>
  go_wp2;go_ret;exact⟨OZ,rfl,aT,a.o.trans (b.o.mono a.o.size)⟩
 |true=>
  have W:ak (zt B s p):=⟨(M.o rfl).ar m.o b.o⟩;have G:ak _:=⟨m.o.Z b.o b.o.size⟩;have S:ak _:=⟨H.o.ar b.o⟩;have⟨c0,l,f,u,c4⟩:=(D.o.ar b.o D.o.lt).c5;have⟨j,A,n,y,q,r,v,x⟩:=(g.o.ar b.o g.o.lt).c8;go_wp2_with fail;refine(acZ Pn Oa s p ts B G.o S.o).mono ?_;rintro e C ⟨z,rfl,K,t⟩;have i:ak (az c C):=⟨b.o.trans (t.mono b.o.size)⟩;have R:ak (zt C s p):=⟨W.o.ar G.o t⟩;have Q:ak (z=OX->TxF p ts/\NmF w s p):=⟨λh=>by obtain⟨_,_,_,⟨P,O⟩,_,U,N,L,T⟩:=K h;exact⟨⟨P,N,U⟩,O,L.back (a.o.trans (b.o.mono a.o.size)),T⟩⟩;clear t K c0 l f u c4 j A n y q r v x;have j:C.cell? ⟨w.heap.size+1,0,OJ⟩=OH (Pl p.T p.tn p.tc):=(g.o.ar i.o g.o.lt).cell 0;cases z with
  |false=>
   go_wp2;go_ret;exact⟨OZ,rfl,aT,a.o.trans (i.o.mono a.o.size)⟩
  |true=>
   have J:ak _:=⟨Q.o rfl⟩;by_cases o:p.tn<=40
   .have V:(p.tn:Int)<=40:=by omega
    go_wp2;go_ret;exact⟨OX,iY,λ_=>⟨R.o,o,J.o.1,J.o.2⟩,a.o.trans (i.o.mono a.o.size)⟩
   .have V:¬(p.tn:Int)<=40:=by omega
    go_wp2;go_ret;exact⟨OZ,iY,aT,a.o.trans (i.o.mono a.o.size)⟩
def WK(f t:Nat)(a:Int):Sat:=⟨λv _=>∃(base b x:Int) (C:aB) (n c:Nat),v=Q4 (iM f t base b x a (Pl C n c)),λ_ _ _ h _=>h⟩
def PLs.x{a:EE}{f:Nat}{b:Int}{e:IS}(h:PLs w f t b e a):∃v,e=RE v/\(WK f t b).p v a/\az w a:=by
 obtain⟨base,c,x,C,n,d,g,i⟩:=h;exact⟨_,g,⟨base,c,x,C,n,d,rfl⟩,i⟩
def WK.get{f:Nat}{a:Int}{v:EN}(h:(WK f t a).p v w):∃(base b x:Int) (C:aB) (n c:Nat),v=Q4 (iM f t base b x a (Pl C n c)):=h
def LineFills_walk(s:cM)(p:jz)(ts:aC)(a:Int)(_:(Lit.int .i64 a).wf=OX)(b:Int)(_:(Lit.int .i64 b).wf=OX)(w:EE)(h:gA w w.heap.size s)(hp:kf w p ts)(hL:Laid w):GK prog 3 #[s.v,p.v,ae aj a,ae aj b] w λe w'=>e=RE (PF OX)/\az w w':=by
 have⟨W1,aP⟩:∃W1,W1=(w.alloc (RM s.row 26)).alloc (RM p.row 31):=⟨_,rfl⟩;have BB:=Fm aP;have B1:ak (az w W1):=⟨BB.1⟩;have X1:ak (Bx W1 w.heap.size s.row):=⟨BB.2.1⟩;have X2:ak (Bx W1 (w.heap.size+1) p.row):=⟨BB.2.2⟩;clear BB;have⟨c0,Q,H,c3,c4⟩:=X1.o.c5;have⟨M,d1,d2,Z,d4,X,d6,d7⟩:=X2.o.c8;have R0:ak _:=⟨h.Z B1.o B1.o.size⟩;have P0:ak _:=⟨hp.ar B1.o⟩;have S00:ak (gA w w.heap.size s):=⟨h⟩;have P00:ak (kf w p ts):=⟨hp⟩;have L00:ak (Laid w):=⟨hL⟩;clear h hp hL;go_enter func3,ntmps3;go_upto_region 1 with fail;rw[<-aP];clear aP;go_wp2_with fail;refine(W7 s p ts W1 R0.o P0.o).mono ?_;rintro e w2 ⟨z,rfl,hz,b2⟩;have B2:ak (az W1 w2):=⟨b2⟩;have xX:ak (az w w2):=⟨B1.o.trans (b2.mono B1.o.size)⟩;have HZ:ak _:=⟨hz⟩;clear b2 hz c0 Q H c3 c4 M d1 d2 Z d4 X d6 d7;cases z with
 |false=>
  go_wp2_with fail;refine(fS _).mono ?_;rintro e U ⟨rfl,D⟩;go_wp2;go_ret;exact⟨rfl,xX.o.trans (D.mono xX.o.size)⟩
 |true=>
  have⟨w3,dP⟩:∃w3,w3=w2.setCell ⟨w.heap.size+1,5,OJ⟩ (ae aj 3):=⟨_,rfl⟩;have X2b:ak _:=⟨X2.o.ar B2.o X2.o.lt⟩;have B3:ak (az w w3):=⟨by rw[dP];exact Below.setCell xX.o (p:=⟨w.heap.size+1,5,OJ⟩) (by show w.heap.size<=w.heap.size+1;omega) _⟩;have X1c:ak (Bx w3 w.heap.size s.row):=⟨by rw[dP];exact(X1.o.ar B2.o X1.o.lt).fL (by omega) 5 _⟩;obtain⟨l,hal,hp2,sm,htx,hnm,h40,zr,sC⟩:∃l:jz,l.al=3/\kf w3 l ts/\zt w3 s l/\TxF l ts/\NmF w3 s l/\l.tn<=40/\l.bn<=40/\Bx w3 (w.heap.size+1) l.row:=by
   obtain⟨sm,h40,htx,hnm⟩:=HZ.o rfl;have hP:=P00.o.ar B3.o;exact⟨{p with al:=3},rfl,⟨hP.rT,hP.rS,hP.rB⟩,(sm.back xX.o).ar S00.o B3.o,htx,⟨hnm.1,(hnm.2.1.back B1.o).fwd P00.o.rB B3.o,hnm.2.2⟩,h40,sm.2.2.1,by rw[dP];exact X2b.o.jq 5 _⟩
  have X:=X2b.o.cell 5;have f5:=X2b.o.fz 5;go_upto_region 4 with fail;rw[<-dP];have X2c:ak _:=⟨sC⟩;have P3:ak _:=⟨hp2⟩;have R3:ak _:=⟨S00.o.Z B3.o B3.o.size⟩;have S3:ak _:=⟨sm⟩;have TX:ak _:=⟨htx⟩;have NM:ak _:=⟨hnm⟩;have L3:ak _:=⟨L00.o.ar B3.o⟩;have AL:ak _:=⟨hal⟩;clear dP hal hp2 sm htx hnm sC X f5 X2b X1 X2 B1 B2 xX R0 P0 HZ S00 P00 L00;have⟨c0,Q,H,c3,c4⟩:=X1c.o.c5;have⟨M,d1,d2,Z,d4,X,d6,d7⟩:=X2c.o.c8;go_wp2_with fail;refine(agp s l ts w3 R3.o P3.o S3.o).mono ?_;rintro e w4 ⟨A,m,c,R,rm,rc,z,rfl,hz,b4⟩;have B34:ak (az w3 w4):=⟨b4⟩;have HZ:ak _:=⟨hz⟩;clear b4 hz c0 Q H c3 c4 M d1 d2 Z d4 X d6 d7;have M:w4.cell? ⟨w.heap.size+1,0,OJ⟩=OH (Pl l.T l.tn l.tc):=(X2c.o.ar B34.o X2c.o.lt).cell 0;have Z:w4.cell? ⟨w.heap.size+1,3,OJ⟩=OH (ae aj l.dir):=(X2c.o.ar B34.o X2c.o.lt).cell 3;have OC:ak _:=⟨ad9 l.T l.tn l.tc l.dir ts w4 (P3.o.ar B34.o).rT aq TX.o.1 TX.o.2.1 TX.o.2.2⟩;go_wp2_with fail;refine OC.o.mono ?_;rintro e y ⟨V,vc,base,rfl,ov,b5⟩;have B45:ak (az w4 y):=⟨b5⟩;have B35:ak (az w3 y):=⟨B34.o.trans (b5.mono B34.o.size)⟩;have B:ak (az w y):=⟨B3.o.trans (B35.o.mono B3.o.size)⟩;have OV:ak (Iw y y.heap.size .i64 aK V l.tn/\l.tn<=vc):=⟨ov.iw,ov.le.1⟩;clear ov b5 M Z OC;by_cases h0:z=0;rotate_left
  .have Fu:(z !=0)=OX:=by simp[h0]
   clear h0 HZ;go_wp2_with fail;refine(fS _).mono ?_;rintro e U ⟨rfl,D⟩;go_wp2;go_ret;exact⟨rfl,B.o.trans (D.mono B.o.size)⟩
  have hz:=HZ.o h0;subst h0;have vm:ak _:=⟨hz⟩;clear HZ hz;by_cases t1:a<0
  .clear vm
   go_wp2_with fail;refine(fS _).mono ?_;rintro e U ⟨rfl,D⟩;go_wp2;go_ret;exact⟨rfl,B.o.trans (D.mono B.o.size)⟩
  obtain⟨a,rfl⟩:=Int.eq_ofNat_of_zero_le (show 0<=a by omega);have i2:decide ((a:Int)<0)=OZ:=ji;by_cases t2:b<=(a:Int)
  .clear vm t1
   go_wp2_with fail;refine(fS _).mono ?_;rintro e U ⟨rfl,D⟩;go_wp2;go_ret;exact⟨rfl,B.o.trans (D.mono B.o.size)⟩
  obtain⟨b,rfl⟩:=Int.eq_ofNat_of_zero_le (show 0<=b by omega);have i3:decide ((b:Int)<=(a:Int))=OZ:=ji;have i3b:decide (b<=a)=OZ:=ji;by_cases t3:(m:Int)<(b:Int)
  .clear vm t1 t2
   go_wp2_with fail;refine(fS _).mono ?_;rintro e U ⟨rfl,D⟩;go_wp2;go_ret;exact⟨rfl,B.o.trans (D.mono B.o.size)⟩
  have i4:decide ((m:Int)<(b:Int))=OZ:=ji;have i4b:decide (m<b)=OZ:=ji;have P5:ak _:=⟨P3.o.ar B35.o⟩;have LW:ak _:=⟨L3.o.ar B35.o⟩;obtain⟨A2,c2,k,hk,hk4,fB,f,t,en,L,fl⟩:∃(A2:aB) (c2 k:Nat),0<k/\k<=40/\(∀W:EE,(Instr.slice 34 (Pl A m c) (OH (ae aj (a:Int))) (OH (ae aj (b:Int))) OJ).run prog W=.ok (Pl A2 k c2) W)/\∃f t en L,FlB y s l ts A2 R V k c2 rm rc vc base f t en L:=by
   obtain⟨xs,rs,UE,hmc,hmt,hrt,px,rx,ok⟩:=vm.o;obtain⟨A2,c2,CR⟩:=tq TPc A m c a b aq aq hmc (a:Int) (b:Int) rfl rfl;have px2:=(CR.pcs (px.Z B45.o B45.o.size) aq).drop;rw[Nat.zero_add]at px2;have hyl:((xs.drop a).take (b-a)).length=b-a:=YY;exact⟨A2,c2,b-a,aq,aq,CR.run,VT P5.o LW.o px2 hyl aq CR.2.1 aq (rx.Z B45.o B45.o.size) (ok.part a (b-a)) OV.o.1 OV.o.2 h40 zr NM.o.1.2 (NM.o.2.1.fwd P3.o.rB B35.o)⟩
  obtain⟨ad,ew,rfl,rfl,e0,e1,e6⟩:=fl.rd;rw[Nat.zero_mul,oZ]at e0;have FL:ak _:=⟨fl⟩;have uR:(k:Int)-1=((k-1:Nat):Int):=aq;have⟨j,hj⟩:∃j,k-1=j:=⟨_,rfl⟩;rw[hj]at uR e1 e6;have hkj:=aU j k;have Gr:=aU 0 k;have RD:ak ((∀W,az y W->W.cell? ad=OH (ae aj (f:Int)))/\∀W,az y W->W.cell? (bX (ad.add (j*9)) 1)=OH (ae aj (t:Int))):=⟨λW hb=>av e0 hb,λW hb=>av e1 hb⟩;clear fl vm t1 t2 t3 hj e0 e1;by_cases hen:en=2
  .subst hen
   go_wp2_with fail;refine(fS _).mono ?_;rintro e U ⟨rfl,D⟩;go_wp2;go_ret;exact⟨rfl,B.o.trans (D.mono B.o.size)⟩
  have hI:(en==2)=OZ:=by simpa using hen
  go_upto_region 11 with fail;clear e6 hen;have⟨q,yf⟩:∃q,dH ts L L.length=q:=⟨_,rfl⟩;have⟨Y,hY⟩:∃Y,IK (bg L q)=Y:=⟨_,rfl⟩;have⟨S,hS⟩:∃S,gY ts (eQ L q)=S:=⟨_,rfl⟩;have⟨xv,hxv⟩:∃xv,yX (bg L q) l.wd OX S=xv:=⟨_,rfl⟩;have LX:ak (∀W,az y W->GK prog 8 #[Q4 s.row,Q4 l.row,Pl R rm rc,Pl (OH ad) k c2,Pl V l.tn vc,ae aj base,ae aj (f:Int),ae aj (t:Int),PF OZ,PF OZ] W (PLs W f t xv)):=⟨λW hb=>by
   have T:=FL.o.ln W OZ hb;rw[yf,hS,AL.o,hI]at T;rw[<-hxv];exact T⟩
  have LY:ak (∀W,az y W->GK prog 8 #[Q4 s.row,Q4 l.row,Pl R rm rc,Pl (OH ad) k c2,Pl V l.tn vc,ae aj base,ae aj (f:Int),ae aj (t:Int),PF OZ,PF OX] W (PLs W f t Y)):=⟨λW hb=>by
   have T:=FL.o.ln W OX hb;rw[yf,hS,AL.o,hI]at T;rw[<-hY];exact T⟩
  have HX:ak (xv=if l.wd<=Y∨S.length=0 then Y else l.wd):=⟨by rw[<-hxv,<-hY];exact(QV (FL.o.pre q) NM.o.2.2).1⟩;have HTL:ak (dH ts L L.length=q/\q<=L.length/\L.length<=40):=⟨yf,by rw[<-yf];exact uS _ _ _,FL.o.few⟩;have HY:ak _:=⟨hY⟩;have HS:ak _:=⟨hS⟩;have vA:ak _:=⟨X1c.o.ar B35.o X1c.o.lt⟩;have X25:ak _:=⟨X2c.o.ar B35.o X2c.o.lt⟩;have B55:ak _:=⟨Below.refl y.heap.size y⟩;clear hxv yf hY hS hI AL;have⟨c0,Q,H,c3,c4⟩:=(vA).o.c5;have⟨M,d1,d2,Z,d4,X,d6,d7⟩:=(X25).o.c8;have e0:=RD.o.1 y (B55).o;have e1:=RD.o.2 y (B55).o
  have C0:=au c0;have C1:=au Q;have C2:=au H;have C3:=au c3;have C4:=au c4
  have D0:=au M;have D1:=au d1;have D2:=au d2;have D3:=au Z;have D4:=au d4;have D5:=au X;have D6:=au d6;have D7:=au d7
  have E0:=au e0;have E1:=au e1
  clear c0 Q H c3 c4 M d1 d2 Z d4 X d6 d7 e0 e1;have Z8:ak (∀n:aI y,_):=⟨λn:aI y=>(LX).o n.1 ((B55).o.trans (n.2.mono (B55).o.size))⟩;refine aQ (λd=>if d=OH 96 then OH (WK f t xv)else if d=OH 16 then OH (ZX (y).heap.size zL)else OJ) 19 rfl aF aF aF aF aF rfl ?_
  repeat(refine cH aD aD aD ?_;intro K9 r;go_big_quiet_op;go_big_quiet_on)
  refine dA (WK f t xv) aD aD (λw9 P=> ?_) (λv9 F=> ?_)
  .obtain⟨n,rfl⟩:=P
   go_simp;exact aZ (WK f t xv) ((Z8.o n).mono λ_ _ h=>h.x)
  obtain⟨_,_,E,en9,x9,C,n9,cc,rfl⟩:=F;simp[Act.put]
  repeat(refine cH aD aD aD ?_;intro K9 r;go_big_quiet_op;go_big_quiet_on)
  refine dA (ZX (y).heap.size zL) aD aD (λw9 P=> ?_) (λv9 F=> ?_)
  .obtain⟨n,rfl⟩:=P
   go_simp;exact tL n _ _
  obtain⟨_,_,g1,rfl,eU,_⟩:=F;simp[Act.put];intro n hE;have mA:=ZX.get hE.2;obtain⟨fg,zR⟩:=mA.heap;refine wp_store_row 47 (.tmp 16) (.tmp 96) rfl g1 _ rfl rfl fg _ zR pE rfl (Er _ _ _ _ _ _ _ _ _) ?_;clear hE zR C0 C1 C2 C3 C4 D0 D1 D2 D3 D4 D5 D6 D7 E0 E1 Z8;have⟨w6,jh⟩:∃w6,w6=n.1.setRow g1 (iM f t E en9 x9 xv (Pl C n9 cc)):=⟨_,rfl⟩;have JS:ak (Bx w6 g1 (iM f t E en9 x9 xv (Pl C n9 cc))):=⟨by rw[jh];exact mA.row⟩;have O:ak (az y w6):=⟨by rw[jh];exact below_setRow n.2 eU _⟩;rw[<-jh];clear jh mA eU n;have X1d:ak _:=⟨vA.o.ar O.o vA.o.lt⟩;have X2d:ak _:=⟨X25.o.ar O.o X25.o.lt⟩
  try dsimp only
  simp only[Act.put];go_upto_region 12 with fail;have⟨c0,Q,H,c3,c4⟩:=(X1d).o.c5;have⟨M,d1,d2,Z,d4,X,d6,d7⟩:=(X2d).o.c8;have e0:=RD.o.1 w6 (O).o;have e1:=RD.o.2 w6 (O).o
  have C0:=au c0;have C1:=au Q;have C2:=au H;have C3:=au c3;have C4:=au c4
  have D0:=au M;have D1:=au d1;have D2:=au d2;have D3:=au Z;have D4:=au d4;have D5:=au X;have D6:=au d6;have D7:=au d7
  have E0:=au e0;have E1:=au e1
  clear c0 Q H c3 c4 M d1 d2 Z d4 X d6 d7 e0 e1;have Z8:ak (∀n:aI w6,_):=⟨λn:aI w6=>(LY).o n.1 ((O).o.trans (n.2.mono (O).o.size))⟩;refine aQ (λd=>if d=OH 114 then OH (WK f t Y)else if d=OH 17 then OH (ZX (w6).heap.size zL)else OJ) 19 rfl aF aF aF aF aF rfl ?_
  repeat(refine cH aD aD aD ?_;intro K9 r;go_big_quiet_op;go_big_quiet_on)
  refine dA (WK f t Y) aD aD (λw9 P=> ?_) (λv9 F=> ?_)
  .obtain⟨n,rfl⟩:=P
   go_simp;exact aZ (WK f t Y) ((Z8.o n).mono λ_ _ h=>h.x)
  obtain⟨_,_,E,en9,x9,C,n9,cc,rfl⟩:=F;simp[Act.put]
  repeat(refine cH aD aD aD ?_;intro K9 r;go_big_quiet_op;go_big_quiet_on)
  refine dA (ZX (w6).heap.size zL) aD aD (λw9 P=> ?_) (λv9 F=> ?_)
  .obtain⟨n,rfl⟩:=P
   go_simp;exact tL n _ _
  obtain⟨_,_,g2,rfl,eU,_⟩:=F;simp[Act.put];intro n hE;have mA:=ZX.get hE.2;obtain⟨fg,zR⟩:=mA.heap;refine wp_store_row 47 (.tmp 17) (.tmp 114) rfl g2 _ rfl rfl fg _ zR pE rfl (Er _ _ _ _ _ _ _ _ _) ?_;clear hE zR C0 C1 C2 C3 C4 D0 D1 D2 D3 D4 D5 D6 D7 E0 E1 Z8;have⟨w7,zv⟩:∃w7,w7=n.1.setRow g2 (iM f t E en9 x9 Y (Pl C n9 cc)):=⟨_,rfl⟩;have X27:ak (Bx w7 g2 (iM f t E en9 x9 Y (Pl C n9 cc))):=⟨by rw[zv];exact mA.row⟩;have B67:ak (az w6 w7):=⟨by rw[zv];exact below_setRow n.2 eU _⟩;rw[<-zv];clear zv mA eU n;have B57:ak (az y w7):=⟨O.o.trans (B67.o.mono O.o.size)⟩;have X17:ak _:=⟨JS.o.ar B67.o JS.o.lt⟩;have X1e:ak _:=⟨X1d.o.ar B67.o X1d.o.lt⟩;have X2e:ak _:=⟨X2d.o.ar B67.o X2d.o.lt⟩;have PB:ak _:=⟨FL.o.bx w7 B57.o⟩;clear JS X1d X2d vA X25 O B67 LX LY RD fB hkj Gr uR hk hk4 OV;have⟨c0,Q,H,c3,c4⟩:=X1e.o.c5;have⟨M,d1,d2,Z,d4,X,d6,d7⟩:=X2e.o.c8
  try dsimp only
  go_wp2_with fail;refine PB.o.mono ?_;rintro e w8 ⟨A8,c8,ps,rfl,ob,eq,b8⟩;have hpl:ps.length=L.length:=Tq;have OB:ak (fZ w8 w7.heap.size A8 c8 ps):=⟨ob⟩;have EQ:ak _:=⟨eq⟩;have B58:ak (az y w8):=⟨B57.o.trans (b8.mono B57.o.size)⟩;have X18:ak _:=⟨X17.o.ar b8 X17.o.lt⟩;have X28:ak _:=⟨X27.o.ar b8 X27.o.lt⟩;have X2f:ak _:=⟨X2e.o.ar b8 X2e.o.lt⟩;have⟨nb,hnb⟩:∃nb,L.length=nb:=⟨_,rfl⟩;have F':ak (ps.length=nb/\L.length=nb/\q<=nb/\nb<=40/\nb<=c8):=⟨by have:=HTL.o;have T:=aA.le ob.row;omega⟩;have TC:ak (GK prog 10 #[Pl l.T l.tn l.tc,Pl A8 nb c8] w8 (Cn w8 q)):=⟨by
   have T:=ob.boxes;rw[eq,F'.o.1]at T;have h2:=IB l.T l.tn l.tc ts A8 nb c8 L w8 (P5.o.rT.ar B58.o) (LW.o.ar B58.o) T (λj hj=>FL.o.bw j aq) Cy aq;rw[<-F'.o.2.1,HTL.o.1]at h2;rwa [F'.o.2.1]at h2⟩
  rw[hnb];clear c0 Q H c3 c4 M d1 d2 Z d4 X d6 d7 ob eq b8 PB hpl hnb X17 X27 X1e X2e B57;have M:w8.cell? ⟨w.heap.size+1,0,OJ⟩=OH (Pl l.T l.tn l.tc):=X2f.o.cell 0;go_wp2_with fail;refine TC.o.mono ?_;rintro e w9 ⟨rfl,b9⟩;have B59:ak (az y w9):=⟨B58.o.trans (b9.mono B58.o.size)⟩;have X19:ak _:=⟨X18.o.ar b9 X18.o.lt⟩;have X29:ak _:=⟨X28.o.ar b9 X28.o.lt⟩;have X2g:ak _:=⟨X2f.o.ar b9 X2f.o.lt⟩;have O9:ak _:=⟨OB.o.ar b9⟩;have CU:=qQ yI A8 nb c8 q F'.o.2.2.1 F'.o.2.2.2.2;have SU:ak (∀n:aI w9,GK prog 11 #[Pl A8 q c8] n.1 λe w'=>e=RE (ae aj Y)/\EI n.1.heap.size n.1 w'):=⟨λn=>by
   have T:=O9.o.boxes;rw[EQ.o,F'.o.1]at T;have h2:=Po A8 q c8 (L.take q) n.1 ((T.Z n.2).take F'.o.2.2.1) Cy;rw[ki L q q cr,HY.o]at h2;exact h2.mono λe w' ⟨he,hw⟩=>⟨he,hw▸Below.refl _ _⟩⟩
  have y5:w9.cell? ⟨g2,5,OJ⟩=OH (ae aj Y):=X29.o.cell 5;have Y5:=au y5;clear b9 M TC y5 OB X18 X28 X2f B58;go_wp2;refine aE (kC 129 (·=ae aj Y)) aF aF ?_
  repeat(refine cB aD aD aD ?_;intro K9 r;go_big_quiet_op;go_big_quiet_on)
  refine cK (·=ae aj Y) aD aD (λw9 P=> ?_) (λv9 F=> ?_)
  .obtain⟨n,rfl⟩:=P
   go_simp;exact(SU.o n).mono λe w' ⟨he,hb⟩=>⟨_,he,rfl,⟨w',n.2.trans (hb.mono n.2.size)⟩,rfl⟩
  have F:v9=ae aj Y:=F;subst F;simp[Act.put]
  repeat(refine cB aD aD aD ?_;intro K9 r;go_big_quiet_op;go_big_quiet_on)
  intro n;obtain⟨U,D⟩:=n
  try dsimp only
  have B5A:ak (az y U):=⟨B59.o.trans (D.mono B59.o.size)⟩;have X1A:ak _:=⟨X19.o.ar D X19.o.lt⟩;have X2A:ak _:=⟨X29.o.ar D X29.o.lt⟩;have XPA:ak _:=⟨X2g.o.ar D X2g.o.lt⟩;have OA:ak _:=⟨O9.o.ar D⟩;clear D Y5 SU O9 X19 X29 X2g B59 CU;go_wp2;go_loopg[20,21](q+1)(λgg v20 v21 wr=>∃(i:Nat) (A1:aB) (Q:Nat),q-i<gg/\i<=q/\v20=Pl A1 i Q/\v21=ae aj (i:Int)/\ak (aA wr U.heap.size 57 2 A1 i Q (((eQ L i).map cR).flatMap dt))/\ak (az U wr))
  .exact⟨0,OJ,0,aq,aq,rfl,rfl,⟨aA.nil _ _ _ _⟩,cJ⟩
  obtain⟨i,A1,Q,hg,hi,rfl,rfl,OO,BE⟩:=hrel;have B5r:ak (az y wr):=⟨B5A.o.trans (BE.o.mono B5A.o.size)⟩;by_cases aG:i<q
  .obtain⟨g8,e8,_⟩:=aA.form OA.o.row (show 0<ps.length by have:=F'.o;omega)
   subst e8;obtain⟨G,gc,e0,e1,-⟩:=(OA.o.ar BE.o).wk.kV (show i<ps.length by have:=F'.o;omega);rw[EQ.o]at e0 e1;obtain⟨f1,f2,f3⟩:=(FL.o.fi q Cy).jI i aG;have ET:ak (((eQ L (i+1)).map cR).flatMap dt=((eQ L i).map cR).flatMap dt++[ae aj (aR L i).f,ae aj (aR L i).t]):=⟨by
    rw[xD,List.map_append,List.flatMap_append];show _++[ae aj (((aR L i).f.toNat:Nat):Int),ae aj (((aR L i).t.toNat:Nat):Int)]=_;rw[show(((aR L i).f.toNat:Nat):Int)=(aR L i).f by omega,show(((aR L i).t.toNat:Nat):Int)=(aR L i).t by omega]⟩
   generalize(aR L i).f=bf at*;generalize(aR L i).t=bt at*;have HG:ak (q-i<gk/\i<q/\q<=40/\i<=40):=⟨Cy⟩;have i4:=aU i q;have i5:=gT i;have i6:(i:Int)<(nb:Int):=Cy;clear f1 f2 f3 hg hi;go_wp2;refine jS (N:=14) (k0:=136) (m:=14) [OH (Pl A1 i Q),OH (Pl (OH ⟨g8,0,OJ⟩) nb c8),OH (ae aj (i:Int)),OH (PK (OH ⟨g8,i*6,OJ⟩)),OH (PK (OH ⟨g8,i*6,OJ⟩)),OH (ae aj bf),OH (Pl (OH ⟨g8,0,OJ⟩) nb c8),OH (ae aj (i:Int)),OH (PK (OH ⟨g8,i*6,OJ⟩)),OH (PK (OH ⟨g8,i*6+1,OJ⟩)),OH (ae aj bt),OH (Q4 #[ae aj bf,ae aj bt]),OJ,OJ] 12 13 i [ae aj bf,ae aj bt] wr (λA c W=>∃Wp,az wr Wp/\aA W U.heap.size 57 2 A (i+1) c (((eQ L i).map cR).flatMap dt++[ae aj bf,ae aj bt])/\EI U.heap.size Wp W) rfl aF rfl aF aq (Below.refl _ _) ?_ ?_
   .intro j o Lf bu W hj ho jx v fC J a' ha K hK
    simp only[cN,fV,List.setIfInBounds_toArray,List.set_cons_succ,List.set_cons_zero,Nat.reduceAdd,Nat.add_zero]at ha;subst ha;have hj:j=0∨j=1∨j=2∨j=3∨j=4∨j=5∨j=6∨j=7∨j=8∨j=9∨j=10∨j=11∨j=12∨j=13:=aq;have M:=J.dY 0 _ rfl;have d1:=J.dY 1 _ rfl;have d2:=J.dY 2 _ rfl;have Z:=J.dY 3 _ rfl;have d4:=J.dY 4 _ rfl;have X:=J.dY 5 _ rfl;have d6:=J.dY 6 _ rfl;have d7:=J.dY 7 _ rfl;have d8:=J.dY 8 _ rfl;have d9:=J.dY 9 _ rfl;have d10:=J.dY 10 _ rfl;have d11:=J.dY 11 _ rfl
    rcases hj with rfl|rfl|rfl|rfl|rfl|rfl|rfl|rfl|rfl|rfl|rfl|rfl|rfl|rfl
    all_goals(injection ho with ho;subst ho)
    all_goals(simp[Region.binds]at v)
    case' inr.inr.inr.inr.inr.inr.inr.inr.inr.inr.inr.inr.inr=>
     obtain⟨b,eb,hc⟩:=J.box v.2 jx;have BB:=J.pre jx;have OV2:=aA.ar OO.o BB;have ib:U.heap.size<=W.heap.size:=by have:=BB.size;have:=BE.o.size;omega
     have hi4:=HG.o.2.2.2;simp only[M v.1,eb];refine wpOp_step rfl (λK9 r=> ?_);refine lG (news:=[ae aj bf,ae aj bt]) TY rfl (.tmp 136) (.tmp 148) rfl rfl OV2 rfl rfl hc (λu hu=>by simp at hu;rcases hu with rfl|rfl<;>rfl) aq ib ?_;intro A5 c5 y o5 b5 g5 t5;refine r _ _ ?_;change K (Act.put _ (OH 149) _) _;have I:=hK _ _ (J.app rfl ⟨W,BB,o5,b5⟩);simp only[Nat.reduceAdd,Act.put,List.setIfInBounds_toArray,List.set_cons_succ,List.set_cons_zero]at I
     try simp only[M v.1,eb]at I
     try simp only[Act.put,List.setIfInBounds_toArray,List.set_cons_succ,List.set_cons_zero]
     exact I
    case' inr.inr.inr.inr.inr.inr.inr.inr.inr.inr.inr.inr.inl=>
     have hp:=fC.no (a:=13) jx aF;simp only[d11 v];refine wpOp_step rfl (λK9 r=> ?_);go_simp;refine r _ _ ?_
     skip
     have I:=hK _ _ (J.lay 57 rfl rfl cF hp);simp only[Nat.reduceAdd,Act.put,List.setIfInBounds_toArray,List.set_cons_succ,List.set_cons_zero]at I
     try simp only[d11 v]at I
     try simp only[Act.put,List.setIfInBounds_toArray,List.set_cons_succ,List.set_cons_zero]
     exact I
    case' inr.inr.inr.inr.inr.inl=>
     have e0:=av e0 (J.pre (fC.no (a:=13) (fC.no (a:=11) jx aF) aF))
    case' inr.inr.inr.inr.inr.inr.inr.inr.inr.inr.inl=>
     have e1:=av e1 (J.pre (fC.no (a:=13) (fC.no (a:=11) jx aF) aF))
    all_goals
     try simp only[M,d1,d2,Z,d4,X,d6,d7,d8,d9,d10,d11,v]
     refine wpOp_step rfl (λK9 r=> ?_);go_simp;refine r _ _ ?_
     skip
     have I:=hK _ _ (J.pure rfl cF cF);simp only[Nat.reduceAdd,Act.put,List.setIfInBounds_toArray,List.set_cons_succ,List.set_cons_zero]at I
     try simp only[M,d1,d2,Z,d4,X,d6,d7,d8,d9,d10,d11,v]at I
     try simp only[Act.put,List.setIfInBounds_toArray,List.set_cons_succ,List.set_cons_zero]
     exact I
   .intro Lf bu W cQ J a' ha
    simp only[cN,fV,List.setIfInBounds_toArray,List.set_cons_succ,List.set_cons_zero,Nat.reduceAdd,Nat.add_zero]at ha;subst ha;obtain⟨A5,c5,Ey,Wp,bp,o5,b5⟩:=J.post (cQ 13 aq);simp only[Ey];have O5:ak _:=⟨o5⟩;rw[<-ET.o]at O5;have B5:ak (az U W):=⟨BE.o.trans ((bp.mono BE.o.size).trans b5)⟩;clear bp o5 b5 Ey cQ J e0 e1;refine wpOp_step rfl (λK9 r=> ?_);go_simp;refine r _ _ ?_;go_wp2;have:=HG.o;go_roundg(q-i)
    case measure=>omega
    case rel=>exact⟨i+1,A5,c5,aq,aq,rfl,afj,O5,B5⟩
  obtain rfl:i=q:=aq;have i4:=cI i i;have SL:ak (GK prog 12 #[Pl l.T l.tn l.tc,ae aj (f:Int),ae aj (t:Int),Pl A1 i Q] wr (PRl wr S.length)):=⟨by
   have T:=Ro l.T l.tn l.tc ts f t A1 i Q (eQ L i) wr (P5.o.rT.ar B5r.o) (DZ aq (by simp[uq]) (λg hg=>by obtain⟨x,_,rfl⟩:=List.mem_map.1 hg;rfl) OO.o) (FL.o.fi i Cy).ct FL.o.ft.2 h40 Cy;rwa [HS.o]at T⟩
  have X1r:ak _:=⟨X1A.o.ar BE.o X1A.o.lt⟩;have X2r:ak _:=⟨X2A.o.ar BE.o X2A.o.lt⟩;have XPr:ak _:=⟨XPA.o.ar BE.o XPA.o.lt⟩;have BWr:ak (az w wr):=⟨B.o.trans (B5r.o.mono B.o.size)⟩;clear OO BE hg hi aG X1A X2A XPA B5r;have y5:wr.cell? ⟨g2,5,OJ⟩=OH (ae aj Y):=X2r.o.cell 5;have x5:wr.cell? ⟨g1,5,OJ⟩=OH (ae aj xv):=X1r.o.cell 5;have p4:wr.cell? ⟨w.heap.size+1,4,OJ⟩=OH (ae aj l.wd):=XPr.o.cell 4;have I:=HX.o;clear HX;by_cases T:l.wd<=Y
  .rw[if_pos (.inl T)]at I
   subst I;go_wp2_with fail;refine(fS _).mono ?_;rintro e U ⟨rfl,D⟩;go_wp2;go_ret;exact⟨rfl,BWr.o.trans (D.mono BWr.o.size)⟩
  have x0:wr.cell? ⟨g1,0,OJ⟩=OH (ae aj (f:Int)):=X1r.o.cell 0;have x1:wr.cell? ⟨g1,1,OJ⟩=OH (ae aj (t:Int)):=X1r.o.cell 1;have p0:wr.cell? ⟨w.heap.size+1,0,OJ⟩=OH (Pl l.T l.tn l.tc):=XPr.o.cell 0;have ME:ak _:=⟨I⟩;have H1:ak _:=⟨T⟩;clear I;go_wp2_with fail;refine SL.o.mono ?_;rintro e wB ⟨A9,c9,rfl,bB⟩;have ZO:ak (az w wB):=⟨BWr.o.trans (bB.mono BWr.o.size)⟩;have y5:=av y5 bB;have x5:=av x5 bB;have p4:=av p4 bB
  clear bB x0 x1 p0;by_cases h2:S.length=0
  .have I:=ME.o
   rw[if_pos (.inr h2)]at I;subst I;have h3:((S.length:Int)==0)=OX:=(by simp[h2]);clear ME;go_wp2_with fail;refine(fS _).mono ?_;rintro e U ⟨rfl,D⟩;go_wp2;go_ret;exact⟨rfl,ZO.o.trans (D.mono ZO.o.size)⟩
  .have I:=ME.o
   rw[if_neg (by have:=H1.o;omega)]at I;subst I;have h3:((S.length:Int)==0)=OZ:=(by simp[h2]);clear ME;go_wp2_with fail;refine(fS _).mono ?_;rintro e U ⟨rfl,D⟩;go_wp2;go_ret;exact⟨rfl,ZO.o.trans (D.mono ZO.o.size)⟩
