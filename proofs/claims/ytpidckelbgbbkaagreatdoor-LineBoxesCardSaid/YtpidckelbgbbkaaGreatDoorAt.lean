/- Part of LineBoxes. -/
import Derived.Test.YtpidckelbgbbkaaGreatDoorAn
import Derived.Lib.SmallJoins
import Derived.Deep.Slices
import Derived.SizedLaws
namespace Go.Proofs.YtpidckelbgbbkaaGreatDoor
open Go.ChangeShapes Go.WideShapes Go.ChangeAt Go.RowKit Go.Proofs.Tryz
open Go.Value renaming int → ae
open Go.IntKind renaming i64 → aj
set_option linter.all false
set_option maxRecDepth 100000
set_option maxHeartbeats 16000000
variable{B c g j k:Nat}{b d w:World}{A:aC}{a:List Value}{G:Prop}{cs:Array Value}{Q:aE->Prop}
section
open Go.Joins Go.Deep
inductive Ty where
 |num (k:IntKind)
 |Vo
 |str
 |arr (e:Ty)
 |two (x y:Ty)
def Ty.n:Ty->Nat
 | .num _=>1
 | .Vo=>1
 | .str=>1
 | .arr _=>1
 | .two x y=>x.n+y.n
def Ty.lb:Ty->Nat
 | .num .i64=>8
 | .num .i32=>4
 | .num _=>1
 | .Vo=>1
 | .str=>16
 | .arr _=>24
 | .two x y=>x.lb+y.lb
def Rd(w:World)(B:Nat):Ty->List Value->Prop
 | .num k,vs=>∃z,vs=[.int k z]/\(Lit.int k z).wf=true
 | .Vo,vs=>∃z,vs=[.bool z]
 | .str,vs=>∃z:ByteArray,vs=[.string z]/\z.size<=maxLen
 | .arr e,vs=>∃A n c,vs=[.slice A n c]/\n<=c/\c<=9223372036854775807/\n*e.lb<=140737488351232/\(0<n->∃f,A=some f/\f.block<B/\∀j,j<n->∃d,Rd w B e d/\∀q u,d[q]? =some u->w.cell? ((f.add (j*e.n)).add q)=some u)
 | .two a b,vs=>∃d g,vs=d++g/\Rd w B a d/\Rd w B b g
theorem Rd.len{w:World}:∀{t:Ty} {vs:List Value},Rd w B t vs->vs.length=t.n
 | .num _,_,⟨_,e,_⟩=>by rw[e];rfl
 | .Vo,_,⟨_,e⟩=>by rw[e];rfl
 | .str,_,⟨_,e,_⟩=>by rw[e];rfl
 | .arr _,_,⟨_,_,_,e,_⟩=>by rw[e];rfl
 | .two a b,_,⟨us,ws,e,h1,h2⟩=>by rw[e,List.length_append,h1.len,h2.len];rfl
theorem Rd.Z{w i:World}{B k:Nat}(d:Below B w i)(g:B<=k):∀{t:Ty} {vs:List Value},Rd w B t vs->Rd i k t vs
 | .num _,_,h=>h
 | .Vo,_,h=>h
 | .str,_,h=>h
 | .arr e,_,⟨A,n,c,hv,h1,h2,h9,h3⟩=>⟨A,n,c,hv,h1,h2,h9,fun l=>by
   obtain⟨o,v,aH,m⟩:=h3 l;refine⟨o,v,aq,fun j r=> ?_⟩;obtain⟨f,p,s⟩:=m j r;exact⟨f,Rd.Z d g p,fun q u e=>(d.cell aaJ).trans (s q u e)⟩⟩
 | .two a b,_,⟨f,ws,e,h1,h2⟩=>⟨f,ws,e,Rd.Z d g h1,Rd.Z d g h2⟩
section
variable {H : Type} {enc : TypeId × Value -> H} {P : Program} {w : World} {base : Nat} {held : Bool}
def Fits(P:Program)(t:TypeId)(d:DataW H):Prop:=∀m∈d.weights P t,m<=140737488351232
end
end
section
open Ty
abbrev ew:Ty:=num .i64
abbrev Ez:Ty:=two ew (two ew (two ew (arr ew)))
abbrev aad:Ty:=two (num .i32) ew
abbrev sS:Ty:=two ew ew
abbrev ug:Ty:=two ew (two ew ew)
abbrev wX:Ty:=two (arr ew) ew
abbrev AO:Ty:=two ew ew
abbrev Gl:Ty:=two ew (two ew (two ug ug))
abbrev Fm:Ty:=two ew (two Vo (two Vo (two sS sS)))
abbrev MX:Ty:=two ew (two ew sS)
abbrev ta:Ty:=two Vo sS
abbrev Fz:Ty:=two ew (arr (arr ta))
abbrev Tj:Ty:=two (arr ew) (two (arr (arr ew)) (two (arr (arr wX)) (two (arr (arr ew)) (two (arr (arr ew)) (two (arr (arr ew)) (two (arr AO) (two (arr ug) (two (arr Gl) (two (arr Fm) (two (arr MX) (arr Fz)))))))))))
abbrev zW:Ty:=two ew (two ew (two ew (arr Tj)))
abbrev Fi:Ty:=two str (two ew (arr ew))
abbrev wC:Ty:=two ew (two (arr Ez) (two (arr aad) (two (arr zW) (two (arr Fi) (arr (arr ew))))))
abbrev Cv:Ty:=two ew (two ew (two ew ew))
abbrev vu:Ty:=two ew (two ew ew)
abbrev aac:Ty:=two ew ew
end
section
open Ty
def cM(w:World)(B:Nat)(e:Ty)(A:aC)(n c:Nat):Prop:=
 n<=c/\c<=9223372036854775807/\n*e.lb<=140737488351232/\(0<n->∃a,A=some a/\a.block<B/\∀j,j<n->∃b,Rd w B e b/\∀q u,b[q]? =some u->w.cell? ((a.add (j*e.n)).add q)=some u)
theorem cM.Z{d:Nat}{e:Ty}{n:Nat}(h:cM w B e A n c)(f:Below B w b)(i:B<=d):cM b d e A n c:=by
 obtain⟨k,j,l,a,g⟩:=Rd.Z (t:= .arr e) (vs:=[.slice A n c]) f i ⟨A,n,c,rfl,h⟩;injection a with a
 injection a with e1 e2 e3
 subst e1;subst e2;subst e3
 exact g
theorem eQ(a:Addr):a.add 0=a:=Hn
structure db where
 em:Int
 G:aC
 gn:Nat
 gc:Nat
 M:aC
 mn:Nat
 mc:Nat
 L:aC
 ln:Nat
 lc:Nat
 F:aC
 fn:Nat
 fc:Nat
 S:aC
 sn:Nat
 sc:Nat
abbrev db.v(x:db):Value:= .agg #[ae aj x.em, .slice x.G x.gn x.gc, .slice x.M x.mn x.mc, .slice x.L x.ln x.lc, .slice x.F x.fn x.fc, .slice x.S x.sn x.sc]
structure ca(w:World)(B:Nat)(x:db):Prop where
 rG:cM w B Ez x.G x.gn x.gc
 rM:cM w B aad x.M x.mn x.mc
 rL:cM w B zW x.L x.ln x.lc
 rF:cM w B Fi x.F x.fn x.fc
 rS:cM w B (arr ew) x.S x.sn x.sc
theorem ca.Z{x:db}(h:ca w B x)(a:Below B w d)(b:B<=c):ca d c x:=⟨h.rG.Z a b,h.rM.Z a b,h.rL.Z a b,h.rF.Z a b,h.rS.Z a b⟩
theorem Ym(h:Rd w B wC a):∃x:db,a=[ae aj x.em, .slice x.G x.gn x.gc, .slice x.M x.mn x.mc, .slice x.L x.ln x.lc, .slice x.F x.fn x.fc, .slice x.S x.sn x.sc]/\ca w B x:=by
 obtain⟨_,_,rfl,⟨f,rfl,_⟩,⟨_,_,rfl,⟨n,e,d,rfl,r⟩,⟨_,_,rfl,⟨l,b,p,rfl,s⟩,⟨_,_,rfl,⟨i,g,o,rfl,m⟩,⟨_,_,rfl,⟨k,j,c4,rfl,t⟩,⟨u,q,c5,rfl,c⟩⟩⟩⟩⟩⟩:=h;exact⟨⟨f,n,e,d,l,b,p,i,g,o,k,j,c4,u,q,c5⟩,rfl,⟨r,s,m,t,c⟩⟩
theorem qd{n:Nat}(h:cM w B wC A n c)(k:j<n):∃(a:Addr) (x:db),A=some a/\ca w B x/\w.cell? (a.add (j*6))=some (ae aj x.em)/\w.cell? (bW (a.add (j*6)) 1)=some (.slice x.G x.gn x.gc)/\w.cell? (bW (a.add (j*6)) 2)=some (.slice x.M x.mn x.mc)/\w.cell? (bW (a.add (j*6)) 3)=some (.slice x.L x.ln x.lc)/\w.cell? (bW (a.add (j*6)) 4)=some (.slice x.F x.fn x.fc)/\w.cell? (bW (a.add (j*6)) 5)=some (.slice x.S x.sn x.sc):=by
 obtain⟨a,e,_,f⟩:=h.2.2.2 aq;obtain⟨l,g,b⟩:=f j k;obtain⟨x,rfl,i⟩:=Ym g;have d:=b 0 _ rfl;rw[eQ]at d;exact⟨a,x,e,i,d,b 1 _ rfl,b 2 _ rfl,b 3 _ rfl,b 4 _ rfl,b 5 _ rfl⟩
structure Lk where
 kind:Int
 flags:Int
 set:Int
 S:aC
 sn:Nat
 sc:Nat
abbrev Lk.v(x:Lk):Value:= .agg #[ae aj x.kind,ae aj x.flags,ae aj x.set, .slice x.S x.sn x.sc]
structure lS(w:World)(B:Nat)(x:Lk):Prop where
 rS:cM w B Tj x.S x.sn x.sc
theorem lS.Z{a:Nat}{x:Lk}(h:lS w B x)(c:Below B w b)(d:B<=a):lS b a x:=⟨h.rS.Z c d⟩
theorem mQ5(s:G:=by
 obtain⟨_,_,rfl,⟨x0,rfl,_⟩,⟨_,_,rfl,⟨x1,rfl,_⟩,⟨_,_,rfl,⟨x2,rfl,_⟩,⟨A3,n3,c3,rfl,h3⟩⟩⟩⟩:=h;exact⟨⟨x0,x1,x2,A3,n3,c3⟩,rfl,⟨h3⟩⟩):G:=s
theorem ab8(h:Rd w B zW a):∃x:Lk,a=[ae aj x.kind,ae aj x.flags,ae aj x.set, .slice x.S x.sn x.sc]/\lS w B x:=by
 exact mQ5
theorem rl{n:Nat}(h:cM w B zW A n c)(k:j<n):∃(a:Addr) (x:Lk),A=some a/\lS w B x/\w.cell? (a.add (j*4))=some (ae aj x.kind)/\w.cell? (bW (a.add (j*4)) 1)=some (ae aj x.flags)/\w.cell? (bW (a.add (j*4)) 2)=some (ae aj x.set)/\w.cell? (bW (a.add (j*4)) 3)=some (.slice x.S x.sn x.sc):=by
 obtain⟨a,e,_,f⟩:=h.2.2.2 aq;obtain⟨l,g,b⟩:=f j k;obtain⟨x,rfl,i⟩:=ab8 g;have d:=b 0 _ rfl;rw[eQ]at d;exact⟨a,x,e,i,d,b 1 _ rfl,b 2 _ rfl,b 3 _ rfl⟩
structure Sb where
 C:aC
 cn:Nat
 cc:Nat
 T:aC
 tn:Nat
 tc:Nat
 L:aC
 ln:Nat
 lc:Nat
 B:aC
 bn:Nat
 bc:Nat
 J:aC
 jn:Nat
 jc:Nat
 A:aC
 an:Nat
 ac:Nat
 N:aC
 nn:Nat
 nc:Nat
 V:aC
 vn:Nat
 vc:Nat
 P:aC
 pn:Nat
 pc:Nat
 U:aC
 un:Nat
 uc:Nat
 M:aC
 mn:Nat
 mc:Nat
 H:aC
 hn:Nat
 hc:Nat
abbrev Sb.v(x:Sb):Value:= .agg #[.slice x.C x.cn x.cc, .slice x.T x.tn x.tc, .slice x.L x.ln x.lc, .slice x.B x.bn x.bc, .slice x.J x.jn x.jc, .slice x.A x.an x.ac, .slice x.N x.nn x.nc, .slice x.V x.vn x.vc, .slice x.P x.pn x.pc, .slice x.U x.un x.uc, .slice x.M x.mn x.mc, .slice x.H x.hn x.hc]
structure nD(w:World)(B:Nat)(x:Sb):Prop where
 rC:cM w B ew x.C x.cn x.cc
 rT:cM w B (arr ew) x.T x.tn x.tc
 rL:cM w B (arr wX) x.L x.ln x.lc
 rB:cM w B (arr ew) x.B x.bn x.bc
 rJ:cM w B (arr ew) x.J x.jn x.jc
 rA:cM w B (arr ew) x.A x.an x.ac
 rN:cM w B AO x.N x.nn x.nc
 rV:cM w B ug x.V x.vn x.vc
 rP:cM w B Gl x.P x.pn x.pc
 rU:cM w B Fm x.U x.un x.uc
 rM:cM w B MX x.M x.mn x.mc
 rH:cM w B Fz x.H x.hn x.hc
theorem nD.Z{x:Sb}(h:nD w B x)(a:Below B w d)(b:B<=c):nD d c x:=⟨h.rC.Z a b,h.rT.Z a b,h.rL.Z a b,h.rB.Z a b,h.rJ.Z a b,h.rA.Z a b,h.rN.Z a b,h.rV.Z a b,h.rP.Z a b,h.rU.Z a b,h.rM.Z a b,h.rH.Z a b⟩
theorem acf{i:List Value}(h:Rd w B Tj i):∃x:Sb,i=[.slice x.C x.cn x.cc, .slice x.T x.tn x.tc, .slice x.L x.ln x.lc, .slice x.B x.bn x.bc, .slice x.J x.jn x.jc, .slice x.A x.an x.ac, .slice x.N x.nn x.nc, .slice x.V x.vn x.vc, .slice x.P x.pn x.pc, .slice x.U x.un x.uc, .slice x.M x.mn x.mc, .slice x.H x.hn x.hc]/\nD w B x:=by
 obtain⟨_,_,rfl,⟨H,I,c0,rfl,G⟩,⟨_,_,rfl,⟨L,m,F,rfl,P⟩,⟨_,_,rfl,⟨J,E,N,rfl,y⟩,⟨_,_,rfl,⟨p,n,t,rfl,K⟩,⟨_,_,rfl,⟨r,q,c4,rfl,R⟩,⟨_,_,rfl,⟨T,u,c5,rfl,l⟩,⟨_,_,rfl,⟨o,M,c6,rfl,v⟩,⟨_,_,rfl,⟨j,D,k,rfl,s⟩,⟨_,_,rfl,⟨C,Q,c8,rfl,S⟩,⟨_,_,rfl,⟨A,O,U,rfl,z⟩,⟨_,_,rfl,⟨d,g,yh,rfl,f⟩,⟨e,b,a,rfl,c⟩⟩⟩⟩⟩⟩⟩⟩⟩⟩⟩⟩:=h;exact⟨⟨H,I,c0,L,m,F,J,E,N,p,n,t,r,q,c4,T,u,c5,o,M,c6,j,D,k,C,Q,c8,A,O,U,d,g,yh,e,b,a⟩,rfl,⟨G,P,y,K,R,l,v,s,S,z,f,c⟩⟩
theorem jh{n:Nat}(h:cM w B Tj A n c)(k:j<n):∃(a:Addr) (x:Sb),A=some a/\nD w B x/\w.cell? (a.add (j*12))=some (.slice x.C x.cn x.cc)/\w.cell? (bW (a.add (j*12)) 1)=some (.slice x.T x.tn x.tc)/\w.cell? (bW (a.add (j*12)) 2)=some (.slice x.L x.ln x.lc)/\w.cell? (bW (a.add (j*12)) 3)=some (.slice x.B x.bn x.bc)/\w.cell? (bW (a.add (j*12)) 4)=some (.slice x.J x.jn x.jc)/\w.cell? (bW (a.add (j*12)) 5)=some (.slice x.A x.an x.ac)/\w.cell? (bW (a.add (j*12)) 6)=some (.slice x.N x.nn x.nc)/\w.cell? (bW (a.add (j*12)) 7)=some (.slice x.V x.vn x.vc)/\w.cell? (bW (a.add (j*12)) 8)=some (.slice x.P x.pn x.pc)/\w.cell? (bW (a.add (j*12)) 9)=some (.slice x.U x.un x.uc)/\w.cell? (bW (a.add (j*12)) 10)=some (.slice x.M x.mn x.mc)/\w.cell? (bW (a.add (j*12)) 11)=some (.slice x.H x.hn x.hc):=by
 obtain⟨a,e,_,f⟩:=h.2.2.2 aq;obtain⟨l,g,b⟩:=f j k;obtain⟨x,rfl,i⟩:=acf g;have d:=b 0 _ rfl;rw[eQ]at d;exact⟨a,x,e,i,d,b 1 _ rfl,b 2 _ rfl,b 3 _ rfl,b 4 _ rfl,b 5 _ rfl,b 6 _ rfl,b 7 _ rfl,b 8 _ rfl,b 9 _ rfl,b 10 _ rfl,b 11 _ rfl⟩
structure Lg where
 P:aC
 pn:Nat
 pc:Nat
 gl:Int
abbrev Lg.v(x:Lg):Value:= .agg #[.slice x.P x.pn x.pc,ae aj x.gl]
structure Z9(w:World)(B:Nat)(x:Lg):Prop where
 rP:cM w B ew x.P x.pn x.pc
theorem Z9.Z{a:Nat}{x:Lg}(h:Z9 w B x)(c:Below B w b)(d:B<=a):Z9 b a x:=⟨h.rP.Z c d⟩
theorem abc(h:Rd w B wX a):∃x:Lg,a=[.slice x.P x.pn x.pc,ae aj x.gl]/\Z9 w B x:=by
 obtain⟨_,_,rfl,⟨e,b,c0,rfl,d⟩,⟨c,rfl,_⟩⟩:=h;exact⟨⟨e,b,c0,c⟩,rfl,⟨d⟩⟩
theorem WW{n:Nat}(h:cM w B wX A n c)(k:j<n):∃(a:Addr) (x:Lg),A=some a/\Z9 w B x/\w.cell? (a.add (j*2))=some (.slice x.P x.pn x.pc)/\w.cell? (bW (a.add (j*2)) 1)=some (ae aj x.gl):=by
 obtain⟨a,e,_,f⟩:=h.2.2.2 aq;obtain⟨l,g,d⟩:=f j k;obtain⟨x,rfl,i⟩:=abc g;have b:=d 0 _ rfl;rw[eQ]at b;exact⟨a,x,e,i,b,d 1 _ rfl⟩
structure Nf where
 Yq:Int
 kind:Int
 att:Int
 K:aC
 kn:Nat
 kc:Nat
abbrev Nf.v(x:Nf):Value:= .agg #[ae aj x.Yq,ae aj x.kind,ae aj x.att, .slice x.K x.kn x.kc]
structure NfR(w:World)(B:Nat)(x:Nf):Prop where
 rK:cM w B ew x.K x.kn x.kc
theorem NfR.Z{a:Nat}{x:Nf}(h:NfR w B x)(c:Below B w b)(d:B<=a):NfR b a x:=⟨h.rK.Z c d⟩
theorem abW(h:Rd w B Ez a):∃x:Nf,a=[ae aj x.Yq,ae aj x.kind,ae aj x.att, .slice x.K x.kn x.kc]/\NfR w B x:=by
 exact mQ5
theorem Wg{n:Nat}(h:cM w B Ez A n c)(k:j<n):∃(a:Addr) (x:Nf),A=some a/\NfR w B x/\w.cell? (a.add (j*4))=some (ae aj x.Yq)/\w.cell? (bW (a.add (j*4)) 1)=some (ae aj x.kind)/\w.cell? (bW (a.add (j*4)) 2)=some (ae aj x.att)/\w.cell? (bW (a.add (j*4)) 3)=some (.slice x.K x.kn x.kc):=by
 obtain⟨a,e,_,f⟩:=h.2.2.2 aq;obtain⟨l,g,b⟩:=f j k;obtain⟨x,rfl,i⟩:=abW g;have d:=b 0 _ rfl;rw[eQ]at d;exact⟨a,x,e,i,d,b 1 _ rfl,b 2 _ rfl,b 3 _ rfl⟩
structure Hs where
 gl:Int
 S:aC
 sn:Nat
 sc:Nat
abbrev Hs.v(x:Hs):Value:= .agg #[ae aj x.gl, .slice x.S x.sn x.sc]
structure HsR(w:World)(B:Nat)(x:Hs):Prop where
 rS:cM w B (arr ta) x.S x.sn x.sc
theorem HsR.Z{a:Nat}{x:Hs}(h:HsR w B x)(c:Below B w b)(d:B<=a):HsR b a x:=⟨h.rS.Z c d⟩
theorem abX(h:Rd w B Fz a):∃x:Hs,a=[ae aj x.gl, .slice x.S x.sn x.sc]/\HsR w B x:=by
 obtain⟨_,_,rfl,⟨d,rfl,_⟩,⟨b,f,c,rfl,e⟩⟩:=h;exact⟨⟨d,b,f,c⟩,rfl,⟨e⟩⟩
theorem Kq{n:Nat}(h:cM w B Fz A n c)(k:j<n):∃(a:Addr) (x:Hs),A=some a/\HsR w B x/\w.cell? (a.add (j*2))=some (ae aj x.gl)/\w.cell? (bW (a.add (j*2)) 1)=some (.slice x.S x.sn x.sc):=by
 obtain⟨a,e,_,f⟩:=h.2.2.2 aq;obtain⟨l,g,d⟩:=f j k;obtain⟨x,rfl,i⟩:=abX g;have b:=d 0 _ rfl;rw[eQ]at b;exact⟨a,x,e,i,b,d 1 _ rfl⟩
structure cX where
 F:aC
 fn:Nat
 fc:Nat
 Y:aC
 yn:Nat
 yc:Nat
 P:aC
 pn:Nat
 pc:Nat
 ev:Int
 ld:Int
abbrev cX.v(x:cX):Value:= .agg #[.slice x.F x.fn x.fc, .slice x.Y x.yn x.yc, .slice x.P x.pn x.pc,ae aj x.ev,ae aj x.ld]
structure ix(w:World)(B:Nat)(x:cX):Prop where
 rF:cM w B wC x.F x.fn x.fc
 rY:cM w B Cv x.Y x.yn x.yc
 rP:cM w B str x.P x.pn x.pc
theorem ix.Z{x:cX}(h:ix w B x)(a:Below B w d)(b:B<=c):ix d c x:=⟨h.rF.Z a b,h.rY.Z a b,h.rP.Z a b⟩
theorem mQ3(s:G:=by
 obtain⟨ad,e,_,hc⟩:=h.2.2.2 aq;obtain⟨us,hu,hq⟩:=hc j hj;obtain⟨_,_,rfl,⟨x0,rfl,_⟩,⟨x1,rfl,_⟩⟩:=hu;have q0:=hq 0 _ rfl;rw[eQ]at q0;exact⟨ad,x0,x1,e,q0,hq 1 _ rfl⟩):G:=s
theorem yr{n:Nat}(h:cM w B aad A n c)(hj:j<n):∃(ad:Addr) (x0 x1:Int),A=some ad/\w.cell? (ad.add (j*2))=some (.int .i32 x0)/\w.cell? (bW (ad.add (j*2)) 1)=some (ae aj x1):=by
 exact mQ3
theorem yt{n:Nat}(h:cM w B AO A n c)(hj:j<n):∃(ad:Addr) (x0 x1:Int),A=some ad/\w.cell? (ad.add (j*2))=some (ae aj x0)/\w.cell? (bW (ad.add (j*2)) 1)=some (ae aj x1):=by
 exact mQ3
theorem mQ4(s:G:=by
 obtain⟨ad,e,_,hc⟩:=h.2.2.2 aq;obtain⟨us,hu,hq⟩:=hc j hj;obtain⟨_,_,rfl,⟨x0,rfl,_⟩,⟨_,_,rfl,⟨x1,rfl,_⟩,⟨x2,rfl,_⟩⟩⟩:=hu;have q0:=hq 0 _ rfl;rw[eQ]at q0;exact⟨ad,x0,x1,x2,e,q0,hq 1 _ rfl,hq 2 _ rfl⟩):G:=s
theorem Ly{n:Nat}(h:cM w B ug A n c)(hj:j<n):∃(ad:Addr) (x0 x1 x2:Int),A=some ad/\w.cell? (ad.add (j*3))=some (ae aj x0)/\w.cell? (bW (ad.add (j*3)) 1)=some (ae aj x1)/\w.cell? (bW (ad.add (j*3)) 2)=some (ae aj x2):=by
 exact mQ4
theorem kj{n:Nat}(h:cM w B vu A n c)(hj:j<n):∃(ad:Addr) (x0 x1 x2:Int),A=some ad/\w.cell? (ad.add (j*3))=some (ae aj x0)/\w.cell? (bW (ad.add (j*3)) 1)=some (ae aj x1)/\w.cell? (bW (ad.add (j*3)) 2)=some (ae aj x2):=by
 exact mQ4
theorem Mv{n:Nat}(h:cM w B aac A n c)(hj:j<n):∃(ad:Addr) (x0 x1:Int),A=some ad/\w.cell? (ad.add (j*2))=some (ae aj x0)/\w.cell? (bW (ad.add (j*2)) 1)=some (ae aj x1):=by
 exact mQ3
theorem zg{n:Nat}(h:cM w B Cv A n c)(o:j<n):∃(a:Addr) (f d i g:Int),A=some a/\w.cell? (a.add (j*4))=some (ae aj f)/\w.cell? (bW (a.add (j*4)) 1)=some (ae aj d)/\w.cell? (bW (a.add (j*4)) 2)=some (ae aj i)/\w.cell? (bW (a.add (j*4)) 3)=some (ae aj g):=by
 obtain⟨a,e,_,l⟩:=h.2.2.2 aq;obtain⟨p,m,b⟩:=l j o;obtain⟨_,_,rfl,⟨f,rfl,_⟩,⟨_,_,rfl,⟨d,rfl,_⟩,⟨_,_,rfl,⟨i,rfl,_⟩,⟨g,rfl,_⟩⟩⟩⟩:=m;have k:=b 0 _ rfl;rw[eQ]at k;exact⟨a,f,d,i,g,e,k,b 1 _ rfl,b 2 _ rfl,b 3 _ rfl⟩
theorem ie{n:Nat}(h:cM w B ew A n c)(i:j<n):∃(a:Addr) (b:Int),A=some a/\w.cell? (a.add j)=some (ae aj b):=by
 obtain⟨a,e,_,f⟩:=h.2.2.2 aq;obtain⟨l,g,k⟩:=f j i;obtain⟨b,rfl,_⟩:=g;have d:=k 0 _ rfl;rw[eQ]at d;rw[show ew.n=1 from rfl,Nat.mul_one]at d;exact⟨a,b,e,d⟩
theorem fi{n:Nat}{e:Ty}(h:cM w B (arr e) A n c)(l:j<n):∃(b:Addr) (d:aC) (a f:Nat),A=some b/\cM w B e d a f/\w.cell? (b.add j)=some (.slice d a f):=by
 obtain⟨b,p,_,i⟩:=h.2.2.2 aq;obtain⟨q,k,o⟩:=i j l;obtain⟨d,a,f,rfl,m⟩:=k;have g:=o 0 _ rfl;rw[eQ,show(arr e).n=1 from rfl,Nat.mul_one]at g;exact⟨b,d,a,f,p,m,g⟩
end
theorem wQ{p:Prop}(h:p:=by go_num):p:=h
theorem Po{p:Prop}(h:p:=by simp[results,results193,go_sem]):p:=h
theorem cM.rb{e:Ty}{n:Nat}(h:cM w B e A n c):n*e.lb<=140737488351232:=h.2.2.1
theorem cM.bd{e:Ty}{n:Nat}(h:cM w B e A n c):n<=9223372036854775807:=Nat.le_trans h.1 h.2.1
def PIn(w:World)(lo a:Int)(e:Ending)(b:World):Prop:=∃z:Int,e= .returned (ae aj z)/\lo<=z/\z<a/\aA w b
def PI(w:World)(e:Ending)(a:World):Prop:=∃z:Int,e= .returned (ae aj z)/\aA w a
def PB(w:World)(e:Ending)(a:World):Prop:=∃z:Bool,e= .returned (.bool z)/\aA w a
def PIB(w:World)(lo a:Int)(e:Ending)(c:World):Prop:=∃(z:Int) (b:Bool),e= .returned (.tuple #[ae aj z, .bool b])/\lo<=z/\(b=true->z<a)/\aA w c
abbrev db.row(x:db):Array Value:= #[ae aj x.em, .slice x.G x.gn x.gc, .slice x.M x.mn x.mc, .slice x.L x.ln x.lc, .slice x.F x.fn x.fc, .slice x.S x.sn x.sc]
def Bx(w:World)(b:Nat)(cs:Array Value):Prop:=∃t,w.heap[b]? =some (.cells cs t (0,0))
theorem Bx.cell{b:Nat}(h:Bx w b cs)(o:Nat):w.cell? ⟨b,o,none⟩=cs[o]? :=by obtain⟨t,h⟩:=h;exact cell_of_row _ _ _ _ _ _ h
theorem Bx.lt{b:Nat}(h:Bx w b cs):b<w.heap.size:=by obtain⟨t,h⟩:=h;exact(Array.getElem?_eq_some_iff.1 h).1
theorem Bx.ar{a:World}{b:Nat}(h:Bx w b cs)(c:Below B w a)(d:b<B):Bx a b cs:=by obtain⟨t,h⟩:=h;exact⟨t,(c.block b d).trans h⟩
theorem Bx.new(w:World)(cs:Array Value)(t:TypeId):Bx (w.alloc (.cells cs t)) w.heap.size cs:=⟨t,heap_alloc_new w _⟩
theorem Bx.jt(w:World)(cs:Array Value)(t:TypeId){N:Nat}(h:w.heap.size=N):Bx (w.alloc (.cells cs t)) N cs:=by subst h;exact Bx.new _ _ _
theorem box2(w:World)(cs:Array Value)(t:TypeId)(ds:Array Value)(u:TypeId):∃W,W=(w.alloc (.cells cs t)).alloc (.cells ds u)/\ak (aA w W)/\ak (Bx W w.heap.size cs)/\ak (Bx W (w.heap.size+1) ds):=
 ⟨_,rfl,⟨(av w _).alloc aD _⟩,⟨(Bx.new _ _ _).ar (av _ _) aD⟩,⟨Bx.jt _ _ _ aD⟩⟩
theorem box1(w:World)(cs:Array Value)(t:TypeId):∃W,W=w.alloc (.cells cs t)/\ak (aA w W)/\ak (Bx W w.heap.size cs):=⟨_,rfl,⟨av _ _⟩,⟨Bx.new _ _ _⟩⟩
theorem aej(f:db)(r:Int)(w:World)(h:ca w w.heap.size f):Calls prog 243 #[f.v, .int .i32 r] w (PIn w (-1) f.mn):=by
 have l:f.mn<=9223372036854775807:=h.rM.bd;obtain⟨d,a,b,e⟩:=box1 w f.row 82;have R:=sH (h.Z b.o b.o.size);clear h;go_enter func243,ntmps243;go_wp2;rw[<-a];clear a;have g:d.cell? ⟨w.heap.size,2,none⟩=some (.slice f.M f.mn f.mc):=e.o.cell 2;go_loopg [5] (f.mn+1) (fun gg j wr=>∃i:Nat,f.mn-i<gg/\i<=f.mn/\j=ae aj (i:Int)/\wr=d)
 ·exact⟨0,aq,aq,rfl,rfl⟩
 obtain⟨i,o,q,rfl,rfl⟩:=hrel;by_cases c:i<f.mn
 ·obtain⟨n,y,z,k,p,m⟩:=yr R.o.rM c
  rw[k]at g;go_wp2_with fail
  all_goals first
   |(go_ret;exact⟨_,rfl,aq,aq,b.o⟩)
   |(go_roundg (f.mn-i)<;>first|omega|exact⟨i+1,aq,aq,wQ,rfl⟩)
 ·go_wp2
  go_ret;exact⟨_,rfl,aq,aq,b.o⟩
theorem sG(f:db)(r:Int)(w:World)(h:ca w w.heap.size f):Calls prog 173 #[f.v, .int .i32 r] w (PI w):=by
 have s:f.mn<=9223372036854775807:=h.rM.bd;obtain⟨o,c,b,g⟩:=box1 w f.row 82;have R:=sH (h.Z b.o b.o.size);go_enter func173,ntmps173;go_wp2_with fail;rw[<-c];refine(aej f r o R.o).mono ?_;rintro e l ⟨z,rfl,n,k,a⟩;have d:=b.t a;have m:l.cell? ⟨w.heap.size,2,none⟩=some (.slice f.M f.mn f.mc):=(g.o.ar a g.o.lt).cell 2;by_cases q:z<0
 ·clear a
  go_wp2;go_ret;exact⟨_,rfl,d.o⟩
 ·obtain⟨i,rfl⟩:∃i:Nat,z=(i:Int):=⟨z.toNat,aq⟩
  obtain⟨u,y,x,p,v,t⟩:=yr (R.o.rM.Z a a.size) (j:=i) aq;rw[p]at m;go_wp2;go_ret;exact⟨_,rfl,d.o⟩
def ab2(w:World)(e:Ending)(d:World):Prop:=∃(a k t:Int) (K:aC) (b c:Nat),e= .returned (.agg #[ae aj a,ae aj k,ae aj t, .slice K b c])/\aA w d
theorem Df(f:db)(g:Int)(w:World)(h:ca w w.heap.size f):Calls prog 193 #[f.v,ae aj g] w (ab2 w):=by
 have D:f.gn<=9223372036854775807:=h.rG.bd;have b:ak (∀o,aA w ((w.alloc (.cells f.row 82)).alloc o)):=⟨fun o=>(av _ _).alloc aD _⟩;by_cases n:g<0
 ·go_enter func193,ntmps193
  go_wp2_with fail;exact bodyPost_ret (v:=Nf.v ⟨0,0,0,none,0,0⟩) Po rfl ⟨_,_,_,_,_,_,rfl,b.o _⟩
 ·obtain⟨i,rfl⟩:∃i:Nat,g=(i:Int):=⟨g.toNat,aq⟩
  obtain⟨y,G,e,m,M,q,J,L,C,A,F,I,E,S,r,z⟩:=f;simp only at*;by_cases c:i<e
  ·obtain⟨s,x,rfl,u,l,k,d,j⟩:=Wg (h.rG) c
   have B:=fun o1 a=>aJ (aJ l o1) a
   have H:=fun o1 a=>aJ (aJ k o1) a
   have t:=fun o1 a=>aJ (aJ d o1) a
   have p:=fun o1 a=>aJ (aJ j o1) a
   go_enter func193,ntmps193;go_wp2_with fail;exact bodyPost_ret (v:=x.v) Po rfl ⟨_,_,_,_,_,_,rfl,b.o _⟩
  ·clear h
   go_enter func193,ntmps193;go_wp2_with fail;exact bodyPost_ret (v:=Nf.v ⟨0,0,0,none,0,0⟩) Po rfl ⟨_,_,_,_,_,_,rfl,b.o _⟩
@[go_sem] theorem aaX(a k t : Int)(K : aC)(b c : Nat)(w : World) : (Instr.field 248 (.agg #[ae aj a,ae aj k,ae aj t, .slice K b c]) 0).run prog w = .ok (ae aj a) w := by kernel_rfl
@[go_sem] theorem aaW(a k t : Int)(K : aC)(b c : Nat)(w : World) : (Instr.field 248 (.agg #[ae aj a,ae aj k,ae aj t, .slice K b c]) 1).run prog w = .ok (ae aj k) w := by kernel_rfl
@[go_sem] theorem aaY(a k t : Int)(K : aC)(b c : Nat)(w : World) : (Instr.field 248 (.agg #[ae aj a,ae aj k,ae aj t, .slice K b c]) 2).run prog w = .ok (ae aj t) w := by kernel_rfl
theorem ub(f:db)(g:Int)(w:World)(h:ca w w.heap.size f):Calls prog 305 #[f.v,ae aj g] w (PI w):=by
 have j:f.gn<=9223372036854775807:=h.rG.bd;have a:ak (aA w (w.alloc (.cells f.row 82))):=⟨av _ _⟩;have C:ak _:=⟨Df f g (w.alloc (.cells f.row 82)) (h.Z a.o a.o.size)⟩;clear h;go_enter func305,ntmps305;go_wp2_with (go_at_call 193;refine C.o.mono ?_;rintro e k ⟨d,n,l,m,c,i,rfl,b⟩);go_ret;exact⟨_,rfl,a.o.trans (b.mono a.o.size)⟩
theorem Bb(f:db)(g:Int)(w:World)(h:ca w w.heap.size f):Calls prog 308 #[f.v,ae aj g] w (PI w):=by
 have j:f.gn<=9223372036854775807:=h.rG.bd;have a:ak (aA w (w.alloc (.cells f.row 82))):=⟨av _ _⟩;have C:ak _:=⟨Df f g (w.alloc (.cells f.row 82)) (h.Z a.o a.o.size)⟩;clear h;go_enter func308,ntmps308;go_wp2_with (go_at_call 193;refine C.o.mono ?_;rintro e k ⟨d,n,l,m,c,i,rfl,b⟩);go_ret;exact⟨_,rfl,a.o.trans (b.mono a.o.size)⟩
theorem abf(f:db)(g:Int)(w:World)(h:ca w w.heap.size f):Calls prog 116 #[f.v,ae aj g] w (PI w):=by
 have j:f.gn<=9223372036854775807:=h.rG.bd;have a:ak (aA w (w.alloc (.cells f.row 82))):=⟨av _ _⟩;have C:ak _:=⟨Df f g (w.alloc (.cells f.row 82)) (h.Z a.o a.o.size)⟩;clear h;go_enter func116,ntmps116;go_wp2_with (go_at_call 193;refine C.o.mono ?_;rintro e k ⟨d,n,l,m,c,i,rfl,b⟩);go_ret;exact⟨_,rfl,a.o.trans (b.mono a.o.size)⟩
theorem Rr(A:aC)(n c:Nat)(g:Int)(w:World)(h:cM w w.heap.size ew A n c):Calls prog 342 #[.slice A n c,ae aj g] w (PIB w 0 n):=by
 have d:n<=9223372036854775807:=h.bd;have R:=sH h;go_enter func342,ntmps342;go_wp2;go_loopg [6] (n+1) (fun gg b wr=>∃i:Nat,n-i<gg/\i<=n/\b=ae aj (i:Int)/\wr=w)
 ·exact⟨0,aq,aq,rfl,rfl⟩
 obtain⟨i,f,k,rfl,rfl⟩:=hrel;by_cases a:i<n
 ·obtain⟨e,y,rfl,j⟩:=ie R.o a
  go_wp2_with fail
  all_goals first
   |(go_ret2;exact⟨_,_,rfl,aq,aq,Below.refl _ _⟩)
   |(go_roundg (n-i)<;>first|omega|exact⟨i+1,aq,aq,wQ,rfl⟩)
 ·go_wp2
  go_ret2;exact⟨_,_,rfl,aq,aD,Below.refl _ _⟩
abbrev Lk.row(x:Lk):Array Value:= #[ae aj x.kind,ae aj x.flags,ae aj x.set, .slice x.S x.sn x.sc]
theorem Zg(A:aC)(n c:Nat)(g:Int)(w:World)(h:cM w w.heap.size ew A n c):Calls prog 306 #[.slice A n c,ae aj g] w (PB w):=by
 have d:n<=9223372036854775807:=h.bd;have R:=sH h;go_enter func306,ntmps306;go_wp2;go_loopg [5] (n+1) (fun gg b wr=>∃i:Nat,n-i<gg/\i<=n/\b=ae aj (i:Int)/\wr=w)
 ·exact⟨0,aq,aq,rfl,rfl⟩
 obtain⟨i,f,k,rfl,rfl⟩:=hrel;by_cases a:i<n
 ·obtain⟨e,y,rfl,j⟩:=ie R.o a
  go_wp2_with fail
  all_goals first
   |(go_ret;exact⟨_,rfl,Below.refl _ _⟩)
   |(go_roundg (n-i)<;>first|omega|exact⟨i+1,aq,aq,wQ,rfl⟩)
 ·go_wp2
  go_ret;exact⟨_,rfl,Below.refl _ _⟩
def PRd(w:World)(e:Ty)(r:Ending)(a:World):Prop:=∃(A:aC) (n c:Nat),r= .returned (.slice A n c)/\cM a a.heap.size e A n c/\aA w a
theorem cM.nil(w:World)(B:Nat)(e:Ty):cM w B e none 0 0:=⟨aq,aq,aD,fun h=>absurd h aq⟩
theorem abv(f:db)(k:Lk)(w:World)(h:ca w w.heap.size f):Calls prog 307 #[f.v,k.v] w (PRd w ew):=by
 have a:ak (aA w ((w.alloc (.cells f.row 82)).alloc (.cells k.row 132))):=⟨(av _ _).alloc aD _⟩;obtain⟨s,G,y,o,M,q,H,L,x,u,F,D,B,S,d,e⟩:=f;obtain⟨kind,flags,set,Z,I,t⟩:=k;have R:=sH h;by_cases p:set<0
 ·go_enter func307,ntmps307
  go_wp2;go_ret;exact⟨_,_,_,rfl,cM.nil _ _ _,a.o⟩
 ·obtain⟨i,rfl⟩:∃i:Nat,set=(i:Int):=⟨set.toNat,aq⟩
  by_cases b:i<d
  ·obtain⟨r,C,z,E,rfl,g,l⟩:=fi (A:=S) (n:=d) (c:=e) R.o.rS b
   have v:=fun o1 j=>aJ (aJ l o1) j
   have m:=sH (g.Z a.o a.o.size);go_enter func307,ntmps307;go_wp2;go_ret;exact⟨_,_,_,rfl,m.o,a.o⟩
  ·go_enter func307,ntmps307
   go_wp2;go_ret;exact⟨_,_,_,rfl,cM.nil _ _ _,a.o⟩
theorem Bx.f6{b:Nat}{x:db}(h:Bx w b x.row):w.cell? ⟨b,0,none⟩=some (ae aj x.em)/\w.cell? ⟨b,1,none⟩=some (.slice x.G x.gn x.gc)/\w.cell? ⟨b,2,none⟩=some (.slice x.M x.mn x.mc)/\w.cell? ⟨b,3,none⟩=some (.slice x.L x.ln x.lc)/\w.cell? ⟨b,4,none⟩=some (.slice x.F x.fn x.fc)/\w.cell? ⟨b,5,none⟩=some (.slice x.S x.sn x.sc):=⟨h.cell 0,h.cell 1,h.cell 2,h.cell 3,h.cell 4,h.cell 5⟩
theorem Bx.k4{b:Nat}{x:Lk}(h:Bx w b x.row):w.cell? ⟨b,0,none⟩=some (ae aj x.kind)/\w.cell? ⟨b,1,none⟩=some (ae aj x.flags)/\w.cell? ⟨b,2,none⟩=some (ae aj x.set)/\w.cell? ⟨b,3,none⟩=some (.slice x.S x.sn x.sc):=⟨h.cell 0,h.cell 1,h.cell 2,h.cell 3⟩
theorem pv(f:db)(k:Lk)(g:Int)(w:World)(h:ca w w.heap.size f):Calls prog 287 #[f.v,k.v,ae aj g] w (PB w):=by
 obtain⟨j,aP⟩:=eX ((w.alloc (.cells f.row 82)).alloc (.cells k.row 132));have l:ak (aA w j):=⟨Xv⟩;have R:=sH (h.Z l.o l.o.size);have r:ak (Bx j w.heap.size f.row):=⟨by rw[aP];exact(Bx.new _ _ _).ar ((Below.refl (w.heap.size+1) _).alloc (by simp) _) (by simp)⟩;have p:ak (Bx j (w.heap.size+1) k.row):=⟨by rw[aP];exact Bx.jt _ _ _ (by simp)⟩;go_enter func287,ntmps287;go_wp2_with fail
 all_goals
  rw[<-aP];refine(ub f g j R.o).mono ?_;rintro e s ⟨z,rfl,B⟩;have d:=sH B;have n:=sH (r.o.ar d.o r.o.lt);have x:=sH (p.o.ar d.o p.o.lt);obtain⟨c0,D,G,v,c4,c5⟩:=n.o.f6;obtain⟨L,K,I,J⟩:=x.o.k4;have o:=sH (R.o.Z d.o d.o.size);have i:=l.t d.o;go_wp2_with (first
   |(go_at_call 308;refine(Bb f g s o.o).mono ?_;rintro e m ⟨y,rfl,a⟩)
   |(go_at_call 308;refine(Bb f g E t.o).mono ?_;rintro e m ⟨H,rfl,a⟩;have b:=b.trans (a.mono b.size);clear a)
   |(go_at_call 307;refine(abv f k s o.o).mono ?_;rintro e m ⟨F,C,u,rfl,A,a⟩)
   |(go_at_call 306;refine(Zg F C u g m A).mono ?_;rintro e E ⟨y,rfl,c⟩;have b:=a.trans (c.mono a.size);have q:=n.o.ar b n.o.lt;obtain⟨c0,D,G,v,c4,c5⟩:=q.f6;have t:=sH (o.o.Z b b.size);clear a c q))
  all_goals first
   |(go_ret;exact⟨_,rfl,i.o⟩)
   |(go_ret;exact⟨_,rfl,i.o.trans (a.mono i.o.size)⟩)
   |(go_ret;exact⟨_,rfl,i.o.trans (b.mono i.o.size)⟩)
abbrev gi(w:World)(Q:aE->Prop)(A:aC)(n:Nat):Prop:=Rq w w.heap.size 10 Q A n
theorem Rq.ba{n:Nat}(h:Rq w B 10 Q A n){j:Nat}(u:j<n):∃(a:Addr) (i d p k o c f q m l:Int),A=some a/\Q [i,d,p,k,o,c,f,q,m,l]/\w.cell? (a.add (j*10))=some (ae aj i)/\
 w.cell? (bW (a.add (j*10)) 1)=some (ae aj d)/\w.cell? (bW (a.add (j*10)) 2)=some (ae aj p)/\w.cell? (bW (a.add (j*10)) 3)=some (ae aj k)/\
 w.cell? (bW (a.add (j*10)) 4)=some (ae aj o)/\w.cell? (bW (a.add (j*10)) 5)=some (ae aj c)/\w.cell? (bW (a.add (j*10)) 6)=some (ae aj f)/\
 w.cell? (bW (a.add (j*10)) 7)=some (ae aj q)/\w.cell? (bW (a.add (j*10)) 8)=some (ae aj m)/\w.cell? (bW (a.add (j*10)) 9)=some (ae aj l):=by
 obtain⟨a,e,_,t⟩:=h aq;obtain⟨g,s,v,b⟩:=t j u
 match g,s with
 |[i,d,p,k,o,c,f,q,m,l],_=>
  have r:=b 0 _ rfl;rw[eQ]at r;exact⟨a,i,d,p,k,o,c,f,q,m,l,e,v,r,b 1 _ rfl,b 2 _ rfl,b 3 _ rfl,b 4 _ rfl,b 5 _ rfl,b 6 _ rfl,b 7 _ rfl,b 8 _ rfl,b 9 _ rfl⟩
theorem fD{f:db}{k:Lk}{a:World}(h:a=(w.alloc (.cells f.row 82)).alloc (.cells k.row 132)):aA w a/\Bx a w.heap.size f.row/\Bx a (w.heap.size+1) k.row:=
 ⟨Xp,by rw[h];exact(Bx.new _ _ _).ar ((Below.refl (w.heap.size+1) _).alloc (by simp) _) (by simp),by rw[h];exact Bx.jt _ _ _ (by simp)⟩
theorem bj{w0:World}{n:aI w0}{P:Program}{f:FuncId}{args:Array Value}(h:Calls P f args n.1 (PB n.1)):Calls P f args n.1 fun e a=>∃v,e= .returned v/\SB v/\∃m:aI w0,a=m.1:=
 h.mono fun e a ⟨b,d,c⟩=>⟨_,d,⟨b,rfl⟩,⟨a,n.2.trans (c.mono n.2.size)⟩,rfl⟩
def PNx(w:World)(at_ n:Nat)(e:Ending)(a:World):Prop:=∃z:Int,e= .returned (ae aj z)/\(z= -1∨((at_:Int)<z/\z<n))/\aA w a
theorem xN(f:db)(k:Lk)(Q:aE->Prop)(A:aC)(n c at_:Nat)(w:World)(h:ca w w.heap.size f)(H:gi w Q A n)(U:n<=100000)(Z:at_<n):Calls prog 326 #[f.v,k.v, .slice A n c,ae aj (at_:Int)] w (PNx w at_ n):=by
 obtain⟨y,e⟩:=eX ((w.alloc (.cells f.row 82)).alloc (.cells k.row 132));have l:=fD e;have d:=sH l.1;have q:=sH l.2.1;have p:=sH l.2.2;have R:=sH (h.Z d.o d.o.size);have F:=sH (H.Z d.o d.o.size);have hm:¬((at_:Int)< -1):=aq;have i3:=aR at_ n;go_enter func326,ntmps326;go_wp2;rw[<-e];go_loopg [9] (n+1) (fun gg x wr=>∃i:Nat,n-i<gg/\i<=n/\at_<i/\x=ae aj (i:Int)/\ak (aA y wr))
 ·exact⟨at_+1,aq,aq,aq,wQ,cB⟩
 obtain⟨i,hg,X,s,rfl,a⟩:=hrel;obtain⟨c0,I,L,v,c4,c5⟩:=(q.o.ar a.o q.o.lt).f6;obtain⟨C,B,z,J⟩:=(p.o.ar a.o p.o.lt).k4;have K:=d.t a.o;by_cases m:i<n
 ·obtain⟨N,t,M,x2,V,x4,x5,x6,T,Y,x9,rfl,P,G,_⟩:=(F.o.Z a.o a.o.size).ba m
  have D:=sH (R.o.Z a.o a.o.size);have i1:=aR i n;go_wp2;obtain⟨L0,L1,L2,L3,W,S,M0,M1⟩:=lc8 c0 I L v c4 c5 C B;obtain⟨M2,O,E0⟩:=lc3 z J G;refine aG (mj 32 SB) aF aF ?_
  repeat(refine du aK aK aK ?_;intro E j;go_big_quiet_op;go_big_quiet_on)
  refine lsA SB (fun g=> ?_) (fun v9 o=> ?_)
  ·go_simp
   exact bj (pv f k t g.1 (D.o.Z g.2 g.2.size))
  obtain⟨b,rfl⟩:=o;simp[Act.put]
  repeat(refine du aK aK aK ?_;intro E j;go_big_quiet_op;go_big_quiet_on)
  intro g;have r:=a.t g.2;have u:=d.t r.o;cases b
  ·go_wp2
   go_ret;exact⟨_,rfl, .inr ⟨aq,aq⟩,u.o⟩
  ·go_wp2
   go_roundg (n-i)
   ·exact⟨i+1,aq,aq,aq,wQ,r⟩
   omega
 ·go_wp2
  go_ret;exact⟨_,rfl, .inl rfl,K.o⟩
theorem yp(f:db)(k:Lk)(Q:aE->Prop)(A:aC)(n c at_:Nat)(w:World)(h:ca w w.heap.size f)(G:gi w Q A n)(V:n<=100000)(ha:at_<n):Calls prog 340 #[f.v,k.v, .slice A n c,ae aj (at_:Int)] w (PIn w (-1) at_):=by
 obtain⟨x,e⟩:=eX ((w.alloc (.cells f.row 82)).alloc (.cells k.row 132));have l:=fD e;have d:=sH l.1;have q:=sH l.2.1;have p:=sH l.2.2;have R:=sH (h.Z d.o d.o.size);have E:=sH (G.Z d.o d.o.size);have hm:¬((n:Int)<(at_:Int)):=aq;have i3:=aR at_ n;go_enter func340,ntmps340;go_wp2;rw[<-e];go_loopg [9] (n+1) (fun gg v wr=>∃i:Nat,i<gg/\i<=at_/\v=ae aj ((i:Int)-1)/\ak (aA x wr))
 ·exact⟨at_,aq,aq,wQ,cB⟩
 obtain⟨i,hg,Y,rfl,a⟩:=hrel;obtain⟨c0,H,L,u,c4,c5⟩:=(q.o.ar a.o q.o.lt).f6;obtain⟨B,z,y,I⟩:=(p.o.ar a.o p.o.lt).k4;have K:=d.t a.o;rcases i with _|i
 rotate_left
 ·have J:(((i+1:Nat):Int)-1)=(i:Int):=by omega
  rw[J];have m:i<n:=aq;have i8:=aR 0 at_;have N:=jB i;obtain⟨O,s,M,x2,W,x4,x5,x6,U,Z,x9,rfl,S,F,_⟩:=(E.o.Z a.o a.o.size).ba m;have C:=sH (R.o.Z a.o a.o.size);have i1:=aR i n;go_wp2;obtain⟨L0,L1,L2,L3,X,T,M0,M1⟩:=lc8 c0 H L u c4 c5 B z;obtain⟨M2,P,E0⟩:=lc3 y I F;refine aG (mj 30 SB) aF aF ?_
  repeat(refine du aK aK aK ?_;intro D j;go_big_quiet_op;go_big_quiet_on)
  refine lsA SB (fun g=> ?_) (fun v9 o=> ?_)
  ·go_simp
   exact bj (pv f k s g.1 (C.o.Z g.2 g.2.size))
  obtain⟨b,rfl⟩:=o;simp[Act.put]
  repeat(refine du aK aK aK ?_;intro D j;go_big_quiet_op;go_big_quiet_on)
  intro g;have r:=a.t g.2;have t:=d.t r.o;cases b
  ·go_wp2
   go_ret;exact⟨_,rfl,aq,aq,t.o⟩
  ·go_wp2
   go_roundg (i+1)
   ·exact⟨i,aq,aq,wQ,r⟩
   omega
 ·go_wp2
  go_ret;exact⟨_,rfl,aq,aq,K.o⟩
def U0(w:World)(n:Nat)(e:Ending)(a:World):Prop:=∃(A:aC) (m c:Nat) (b:Bool),e= .returned (.tuple #[.slice A m c, .bool b])/\(b=true->m<=n/\∃xs,Own a w.heap.size 3 .i64 A m c xs/\∀x∈xs,0<=x/\x<n)/\aA w a
theorem mQ7(s:G:=by
 obtain⟨j,rfl⟩:∃j:Nat,z=(j:Int):=⟨z.toNat,aq⟩
 have hj:j<n:=aq;obtain⟨sd,A3,n3,c3,rfl,r3,s0⟩:=fi (RS.o.Z BN.o BN.o.size) aH;obtain⟨ad,x0,x1,x2,x3,x4,x5,x6,x7,x8,x9,rfl,hQ,e0,_⟩:=(GL.o.Z BN.o BN.o.size).ba hj;clear hQ;have R3:ak (cM w1 w1.heap.size ew A3 n3 c3):=⟨r3⟩;clear r3;have i2:=aR j n;have i4:((j:Int)== -1)=false:=ij;go_wp2;obtain⟨S0,E0⟩:=lc2 s0 e0;clear s0 e0;refine aG (mj 45 SB) aF aF ?_
 repeat(refine du aK aK aK ?_;intro K9 cg;go_big_quiet_op;go_big_quiet_on)
 refine iW SB aK aK (fun w9 cv=> ?_) (fun v9 aV=> ?_)
 ·obtain⟨nq,rfl⟩:=cv
  go_simp;exact bj (Zg A3 n3 c3 x0 nq.1 (R3.o.Z nq.2 nq.2.size))
 obtain⟨b,rfl⟩:=aV;simp[Act.put]
 repeat(refine du aK aK aK ?_;intro K9 cg;go_big_quiet_op;go_big_quiet_on)
 intro nq;obtain⟨w5,b5⟩:=nq;have B5:ak (aA w1 w5):=⟨b5⟩;dsimp only;clear b5 S0 E0;have OX5:ak (Own w5 W1.heap.size 3 .i64 A2 i c2 xs):=⟨OX1.o.ar B5.o⟩;have BN5:ak (aA W1 w5):=⟨BN.o.trans (B5.o.mono BN.o.size)⟩;have sM:=BN5.o.size;cases b
 ·go_wp2
  go_ret2;exact⟨_,_,_,_,rfl,aD,B1.o.trans (BN5.o.mono B1.o.size)⟩
 ·go_wp2_with (at_builtin;refine dD IW rfl (.tmp 48) (.tmp 50) rfl rfl (OX5.o.alloc _) rfl (y:=(j:Int)) (fF _ _ _ _ aD) aq cA ?_;intro A4 c4 w4 o4 b4;have O4:ak _:=⟨o4⟩;have X4:ak (aA W1 w4):=⟨(BN5.o.alloc aq _).trans b4⟩;clear o4 b4)
  go_roundg (sn-i)
  case measure=>omega
  case rel=>exact⟨i+1,j,A4,c4,_,aq,aq,hj,ij,rfl,rfl,wQ,O4,⟨fun x hx=>by
   rw[List.mem_append]at hx;rcases hx with hx|hx
   ·exact HX.o x hx
   ·simp at hx;omega⟩,X4⟩):G:=s
theorem mQ8(s:G:=by
 go_wp2
 go_quiet (fail);go_wp2;go_ret2;exact⟨_,_,_,_,rfl,aD,aM BM.o _⟩):G:=s
theorem Xg(f:db)(k:Lk)(Q:aE->Prop)(A:aC)(n c at_:Nat)(J:aC)(sn H:Nat)(back:Bool)(w:World)(h:ca w w.heap.size f)(U:gi w Q A n)(N:cM w w.heap.size (.arr ew) J sn H)(P:n<=100000)(W:at_<n):
 Calls prog 338 #[f.v,k.v, .slice A n c,ae aj (at_:Int), .slice J sn H, .bool back] w (U0 w n):=by
 obtain⟨W1,m⟩:=eX ((w.alloc (.cells f.row 82)).alloc (.cells k.row 132));have F:=fD m;have B1:ak (aA w W1):=⟨F.1⟩;have q:ak (Bx W1 w.heap.size f.row):=⟨F.2.1⟩;have p:ak (Bx W1 (w.heap.size+1) k.row):=⟨F.2.2⟩;have R:ak (ca W1 W1.heap.size f):=⟨h.Z B1.o B1.o.size⟩;have GL:ak (gi W1 Q A n):=⟨U.Z B1.o B1.o.size⟩;have RS:ak (cM W1 W1.heap.size (.arr ew) J sn H):=⟨N.Z B1.o B1.o.size⟩;have V:=N.bd;clear h U F N;go_enter func338,ntmps338;go_wp2;rw[<-m];clear m;go_loopg [3,14,15] (sn+1) (fun gg v3 L O wr=>∃(i a:Nat) (A2:aC) (c2:Nat) (xs:aE),sn-i<gg/\i<=sn/\a<n/\(if back then a+i<n else i<=a)/\v3=ae aj (a:Int)/\L= .slice A2 i c2/\O=ae aj (i:Int)/\ak (Own wr W1.heap.size 3 .i64 A2 i c2 xs)/\ak (∀x∈xs,0<=x/\x<n)/\ak (aA W1 wr))
 ·exact⟨0,at_,none,0,[],aq,aq,W,by split<;>omega,rfl,rfl,rfl,⟨Own.nil _ _ _ _⟩,⟨aD⟩,cB⟩
 obtain⟨i,a,A2,c2,xs,hg,Z,C,l,rfl,rfl,rfl,D,HX,d⟩:=hrel;obtain⟨c0,u,g,c3,c4,c5⟩:=(q.o.ar d.o q.o.lt).f6;obtain⟨t,s,r,v⟩:=(p.o.ar d.o p.o.lt).k4;have Y:ak (aA w wr):=⟨B1.o.trans (d.o.mono B1.o.size)⟩;by_cases aH:i<sn
 ·have T:ak (ca wr wr.heap.size f):=⟨R.o.Z d.o d.o.size⟩
  have S:ak (gi wr Q A n):=⟨GL.o.Z d.o d.o.size⟩;have i1:=aR i sn;have I:ak _:=⟨yp f k Q A n c a wr T.o S.o P C⟩;have K:ak _:=⟨xN f k Q A n c a wr T.o S.o P C⟩;cases back
  ·simp only[Bool.false_eq_true,if_false,if_true]at l
   clear c0 u g c3 c4 c5 t s r v;obtain⟨c0,u,g,c3,c4,c5⟩:=(q.o.ar d.o q.o.lt).f6;obtain⟨t,s,r,v⟩:=(p.o.ar d.o p.o.lt).k4;go_wp2_with fail;refine(K.o).mono ?_;rintro e w1 ⟨z,rfl,X,o⟩;have M:z= -1∨(0<=z/\z<n/\(a:Int)<z):=aq;clear c0 u g c3 c4 c5 t s r v I K;have BN:ak (aA W1 w1):=⟨d.o.trans (o.mono d.o.size)⟩;have OX1:ak (Own w1 W1.heap.size 3 .i64 A2 i c2 xs):=⟨D.o.ar o⟩;have BM:ak (aA w w1):=⟨B1.o.trans (BN.o.mono B1.o.size)⟩;clear o D;rcases M with rfl|⟨E,B,G⟩
   ·exact mQ8
   ·exact mQ7
  ·simp only[Bool.false_eq_true,if_false,if_true]at l
   clear c0 u g c3 c4 c5 t s r v;obtain⟨c0,u,g,c3,c4,c5⟩:=(q.o.ar d.o q.o.lt).f6;obtain⟨t,s,r,v⟩:=(p.o.ar d.o p.o.lt).k4;go_wp2_with fail;refine(I.o).mono ?_;rintro e w1 ⟨z,rfl,E,B,o⟩;have M:z= -1∨(0<=z/\z<n/\z<a):=aq;clear c0 u g c3 c4 c5 t s r v I K;have BN:ak (aA W1 w1):=⟨d.o.trans (o.mono d.o.size)⟩;have OX1:ak (Own w1 W1.heap.size 3 .i64 A2 i c2 xs):=⟨D.o.ar o⟩;have BM:ak (aA w w1):=⟨B1.o.trans (BN.o.mono B1.o.size)⟩;clear o D;rcases M with rfl|⟨E,B,G⟩
   ·exact mQ8
   ·exact mQ7
 ·go_wp2
  go_ret2;exact⟨_,_,_,_,rfl,fun _=>⟨by split at l<;>omega,xs,(D.o.dU B1.o.size),HX.o⟩,Y.o⟩
theorem Kj(f:db)(k:Lk)(Q:aE->Prop)(A:aC)(n c at_:Nat)(l:aC)(i j:Nat)(w:World)(h:ca w w.heap.size f)(r:gi w Q A n)(o:cM w w.heap.size (.arr ew) l i j)(s:n<=100000)(x:at_<n):
 Calls prog 322 #[f.v,k.v, .slice A n c,ae aj (at_:Int), .slice l i j] w (U0 w n):=by
 obtain⟨p,d⟩:=eX ((w.alloc (.cells f.row 82)).alloc (.cells k.row 132));have t:=fD d;have a:=sH t.1;have C:=sH (Xg f k Q A n c at_ l i j false p (h.Z a.o a.o.size) (r.Z a.o a.o.size) (o.Z a.o a.o.size) s x);go_enter func322,ntmps322;go_wp2_with fail;rw[<-d];refine C.o.mono ?_;rintro e y ⟨u,m,v,b,rfl,g,q⟩;go_wp2;go_ret2;exact⟨u,m,v,b,rfl,fun e=>⟨(g e).1,(g e).2.choose,(g e).2.choose_spec.1.dU a.o.size,(g e).2.choose_spec.2⟩,a.o.trans (q.mono a.o.size)⟩
theorem Np(f:db)(k:Lk)(Q:aE->Prop)(A:aC)(n c at_:Nat)(l:aC)(i j:Nat)(w:World)(h:ca w w.heap.size f)(r:gi w Q A n)(o:cM w w.heap.size (.arr ew) l i j)(s:n<=100000)(x:at_<n):
 Calls prog 323 #[f.v,k.v, .slice A n c,ae aj (at_:Int), .slice l i j] w (U0 w n):=by
 obtain⟨p,d⟩:=eX ((w.alloc (.cells f.row 82)).alloc (.cells k.row 132));have t:=fD d;have a:=sH t.1;have C:=sH (Xg f k Q A n c at_ l i j true p (h.Z a.o a.o.size) (r.Z a.o a.o.size) (o.Z a.o a.o.size) s x);go_enter func323,ntmps323;go_wp2_with fail;rw[<-d];refine C.o.mono ?_;rintro e y ⟨u,m,v,b,rfl,g,q⟩;go_wp2;go_ret2;exact⟨u,m,v,b,rfl,fun e=>⟨(g e).1,(g e).2.choose,(g e).2.choose_spec.1.dU a.o.size,(g e).2.choose_spec.2⟩,a.o.trans (q.mono a.o.size)⟩
theorem mf:aS prog 61 108 10 80:=bD underlying61 (z:= .agg #[ae aj 0,ae aj 0,ae aj 0,ae aj 0,ae aj 0,ae aj 0,ae aj 0,ae aj 0,ae aj 0,ae aj 0]) aF rfl aq aq
abbrev fM(w:World)(B:Nat)(Q:aE->Prop)(A:aC)(n c:Nat):Prop:=Oq w B 108 10 Q A n c
abbrev Qz(w:World)(Q:aE->Prop)(n:Nat)(r:Ending)(a:World):Prop:=Nq w 108 10 Q n r a
theorem AU(Q:aE->Prop)(A:aC)(n c:Nat)(w:World)(h:gi w Q A n)(i:n<=100000):Calls prog 333 #[.slice A n c] w (Qz w Q n):=by
 have R:=sH h;go_enter func333,ntmps333;go_wp2_with (at_builtin;refine cw mf rfl (.tmp 4) (.tmp 5) rfl rfl (Oq.nil w w.heap.size _ _ Q) rfl R.o aq cr ?_;intro d g j b a;have e:=sH b;have f:=sH a;clear b a);go_ret;rw[Nat.zero_add]at*;exact⟨d,g,rfl,e.o,f.o⟩
theorem FJ(Q:aE->Prop)(P:Int->Prop)(m:∀k a s p r g j o q l,Q [k,a,s,p,r,g,j,o,q,l]->P a)(A:aC)(n c:Nat)(w:World)(h:gi w Q A n)(O:n<=100000)(F:0<n):
 Calls prog 334 #[.slice A n c] w (fun e v=>∃z:Int,e= .returned (ae aj z)/\P z/\v=w):=by
 have R:=sH h;have t:=sH m;obtain⟨x,k,a,s,p,r,g,j,o,q,l,rfl,d,C,G,_⟩:=h.ba F;rw[Nat.zero_mul,eQ]at G;have y:=sH (m _ _ _ _ _ _ _ _ _ _ d);go_enter func334,ntmps334;go_wp2;go_loopg [3,4] (n+1) (fun gg v3 v4 wr=>∃(i:Nat) (z:Int),n-i<gg/\i<=n/\v3=ae aj z/\v4=ae aj (i:Int)/\ak (P z)/\wr=w)
 ·exact⟨1,_,aq,aq,rfl,rfl,y,rfl⟩
 obtain⟨i,z,K,U,rfl,rfl,PZ,rfl⟩:=hrel;by_cases b:i<n
 ·obtain⟨f,S,B,L,T,V,H,J,N,W,M,E,d,C,D,_⟩:=R.o.ba b
  obtain rfl:x=f:=by injection E
  have u:=sH (t.o _ _ _ _ _ _ _ _ _ _ d);have I:=aR i n;by_cases X:B<z
  ·go_wp2
   go_roundg (n-i)
   ·exact⟨i+1,_,aq,aq,rfl,wQ,u,rfl⟩
   omega
  ·go_wp2
   go_roundg (n-i)
   ·exact⟨i+1,_,aq,aq,rfl,wQ,PZ,rfl⟩
   omega
 ·go_wp2
  go_ret;exact⟨_,rfl,PZ.o,rfl⟩
theorem sQ(a b:Int)(w:World):Calls prog 250 #[ae aj a,ae aj b] w fun e c=>e= .returned (.agg #[ae aj a,ae aj b,ae aj 0,ae aj 0,ae aj 0,ae aj (-1),ae aj (-1),ae aj 0,ae aj 0,ae aj 0])/\aA w c:=by
 go_enter func250,ntmps250;go_wp2_with fail;exact bodyPost_ret (v:= .agg #[ae aj a,ae aj b,ae aj 0,ae aj 0,ae aj 0,ae aj (-1),ae aj (-1),ae aj 0,ae aj 0,ae aj 0]) (by simp[results,results250,go_sem]) rfl ⟨rfl,av _ _⟩
def bV(lo a:Int)(g:aE):Prop:=lo<=nth g 1/\nth g 1<a
theorem sU{lo a z:Int}{x:aE}(b:x.length=10)(h:lo<=z/\z<a):bV lo a (x.set 1 z):=by
 unfold bV nth;simp[List.getElem?_set,b,h]
theorem cL{lo a z:Int}{x:aE}{q:Nat}(b:q≠1)(h:bV lo a x):bV lo a (x.set q z):=by
 unfold bV nth at*;simpa[List.getElem?_set,b]using h
def ad5(w:World)(Q:aE->Prop)(N:Nat)(e:Ending)(a:World):Prop:=∃q,q<=N/\Qz w Q q e a
theorem Oq.alloc{n:Nat}{e:TypeId}(h:Oq w B e k Q A n c)(o:Obj):Oq (w.alloc o) B e k Q A n c:=h.ar ((Below.refl _ _).alloc cr o)
theorem cJ(g:aE)(w:World)(t:TypeId)(cs:Array Value)(N:Nat)(c:w.heap.size=N)(a:cs.toList=dZ g):∀j u,(dZ g)[j]? =some u->(w.alloc (.cells cs t)).cell? ⟨N,j,none⟩=some u:=fun j u b=>by
 subst c;rw[cell_of_row _ _ _ _ _ _ (heap_alloc_new w _),<-b,<-a];simp
theorem Oq.ba{n:Nat}{e:TypeId}(h:Oq w B e 10 Q (some ⟨g,0,none⟩) n c){j:Nat}(z:j<n):∃f b p l o a d k m i:Int,Q [f,b,p,l,o,a,d,k,m,i]/\w.cell? ⟨g,j*10,none⟩=some (ae aj f)/\
 w.cell? ⟨g,j*10+1,none⟩=some (ae aj b)/\w.cell? ⟨g,j*10+2,none⟩=some (ae aj p)/\w.cell? ⟨g,j*10+3,none⟩=some (ae aj l)/\w.cell? ⟨g,j*10+4,none⟩=some (ae aj o)/\w.cell? ⟨g,j*10+5,none⟩=some (ae aj a)/\
 w.cell? ⟨g,j*10+6,none⟩=some (ae aj d)/\w.cell? ⟨g,j*10+7,none⟩=some (ae aj k)/\w.cell? ⟨g,j*10+8,none⟩=some (ae aj m)/\w.cell? ⟨g,j*10+9,none⟩=some (ae aj i):=by
 obtain⟨t,e,_,s⟩:=h.rq aq aq;obtain rfl:(⟨g,0,none⟩:Addr)=t:=Bm;obtain⟨r,y,v,A⟩:=s j z;have key:∀q x,r[q]? =some x->w.cell? ⟨g,j*10+q,none⟩=some (ae aj x):=fun q x u=>by
  have:=A q x u;rwa [bm,bB]at this
 match r,y with
 |[f,b,p,l,o,a,d,k,m,i],_=>exact⟨f,b,p,l,o,a,d,k,m,i,v,key 0 _ rfl,key 1 _ rfl,key 2 _ rfl,key 3 _ rfl,key 4 _ rfl,key 5 _ rfl,key 6 _ rfl,key 7 _ rfl,key 8 _ rfl,key 9 _ rfl⟩
theorem Oq.fz{n:Nat}{e:TypeId}(h:Oq w B e k Q (some ⟨g,0,none⟩) n c)(j:Nat):w.frozen? ⟨g,j,none⟩=false:=by
 obtain⟨gs,b,d,a⟩:=h;exact aB.frozenAt a j
theorem Oq.lt{n:Nat}{e:TypeId}(h:Oq w B e k Q (some ⟨g,0,none⟩) n c):B<=g/\g<w.heap.size:=by
 obtain⟨gs,b,d,a⟩:=h;exact aB.sY a
theorem II(lo s:Int)(A:aC)(n c at_:Nat)(I:aC)(m d:Nat)(w:World)(h:gi w (bV lo s) A n)(D:cM w w.heap.size ew I m d)(hn:n<=50000)(hm:m<=1000)(ha:at_<n)(V:n<=c):
 Calls prog 315 #[.slice A n c,ae aj (at_:Int),ae aj 1, .slice I m d] w (ad5 w (bV lo s) (n+m)):=by
 have R:ak _:=⟨h⟩;have RI:ak _:=⟨D⟩;obtain⟨A2,c2,S⟩:=Fk mf A n c at_ (at_+1) aq aq V (at_:Int) ((at_:Int)+1) rfl aD;obtain⟨A3,c3,T⟩:=KE mf A n c at_ aq V (at_:Int) rfl;obtain⟨A4,c4,W⟩:=La mf A n c (at_+1) aq V ((at_:Int)+1) aD;have r2:=S.run;have r3:=T.run;have r4:=W.run;have M:ak _:=⟨S.rq h⟩;have G3:ak _:=⟨T.rq h⟩;have G4:ak _:=⟨W.rq h⟩;obtain⟨t,P⟩:at_+1-at_=1/\True:=⟨aq,trivial⟩;rw[t]at r2 M;clear h D S T W t P;have b1:¬((n:Int)<(at_:Int)):=aq;have b2:¬((n:Int)-(at_:Int)<1):=aq;go_enter func315,ntmps315;go_wp2_with fail;refine(FJ (bV lo s) (fun z=>lo<=z/\z<s) (fun _ _ _ _ _ _ _ _ _ _ h=>h) A2 1 c2 w M.o aq aq).mono ?_;rintro e b ⟨z,rfl,pz,rfl⟩;have PZ:ak _:=⟨pz⟩;clear pz r2 M;go_wp2_with fail;refine(AU (bV lo s) A3 at_ c3 b G3.o aq).mono ?_;rintro e w2 ⟨A5,c5,rfl,Y,b5⟩;have O5:ak _:=⟨Y⟩;have B5:ak _:=⟨b5⟩;clear Y b5 r3 G3;go_wp2;go_loopg [10,11,12] (m+1) (fun gg v10 U _ wr=>∃(i:Nat) (O:aC) (c6:Nat),m-i<gg/\i<=m/\v10= .slice O (at_+i) c6/\U=ae aj (i:Int)/\ak (fM wr b.heap.size (bV lo s) O (at_+i) c6)/\ak (aA b wr))
 ·exact⟨0,A5,c5,aq,aq,rfl,rfl,O5,B5⟩
 obtain⟨i,O,c6,hg,DI,rfl,rfl,G,l⟩:=hrel;clear O5 B5;by_cases B:i<m
 ·obtain⟨ai,y,rfl,d0⟩:=ie (RI.o.Z l.o l.o.size) B
  go_wp2_with fail;refine(sQ y z wr).mono ?_;rintro e w7 ⟨rfl,H⟩;have E:ak (aA b w7):=⟨l.o.trans (H.mono l.o.size)⟩;have O7:ak _:=⟨G.o.ar H⟩;clear H d0;obtain⟨ad,x0,x1,x2,x3,x4,x5,x6,x7,x8,x9,rfl,hQ,e0,t,P,e3,e4,e5,e6,e7,Z,e9⟩:=(R.o.Z E.o E.o.size).ba ha;have f7:=fun o=>aJ e7 o
  have f8:=fun o=>aJ Z o
  have f9:=fun o=>aJ e9 o
  have h7:=E.o.size;clear hQ e0 t P e3 e4 e5 e6 e7 Z e9;have a1:=aR at_ n;go_wp2_with (at_builtin;refine bU mf rfl (.tmp 78) (.tmp 80) rfl rfl ((O7.o.alloc _).alloc _) rfl [y,z,0,0,0,-1,-1,x7,x8,x9] rfl (cJ _ _ _ _ _ aD rfl) PZ.o aq cA ?_;intro F c8 u a j;have f:ak _:=⟨a⟩;have r:ak (aA b u):=⟨((E.o.alloc aq _).alloc cA _).trans j⟩;clear a j);go_roundg (m-i)
  ·exact⟨i+1,F,c8,aq,aq,rfl,wQ,f,r⟩
  omega
 ·obtain rfl:i=m:=by omega
  clear B;have L:ak _:=⟨G4.o.Z l.o l.o.size⟩;have h6:=l.o.size;obtain⟨N,q⟩:=eX (at_+i+(n-(at_+1)));have Q:N<=n+i:=aq;by_cases K:i=0
  ·have hN3:N+1=n:=by omega
   subst K;by_cases hk:at_<N
   ·go_wp2_with (at_builtin;refine cw mf rfl (.tmp 84) (.tmp 89) rfl rfl G.o rfl L.o aq aq ?_;intro F c8 u a j;rw[<-q]at a;rw[<-q];have f:ak _:=⟨a⟩;have r:ak (aA b u):=⟨l.o.trans j⟩;clear a j q;obtain⟨g,rfl,_,_⟩:=f.o.form aq;obtain⟨x0,x1,x2,x3,x4,x5,x6,x7,x8,x9,_,_,t,_⟩:=f.o.ba hk)
    rotate_left
    ·go_ret
     exact⟨N,aq,_,_,rfl,f.o,r.o⟩
    ·clear t
     go_loopg [13] (N+1) (fun gg J wr=>∃k:Nat,N-k<gg/\k<=N/\J=ae aj (k:Int)/\ak (fM wr b.heap.size (bV lo s) (some ⟨g,0,none⟩) N c8)/\ak (aA b wr))
     ·exact⟨at_,aq,aq,rfl,f,r⟩
     obtain⟨k,Bt,hkN,rfl,v,X⟩:=hrel;clear f r;by_cases C:k<N
     ·obtain⟨y0,y1,y2,y3,y4,y5,y6,y7,y8,y9,_,_,t,_⟩:=v.o.ba C
      have f1:=v.o.fz (k*10+1);have k1:=aR k N;go_wp2_with fail
      ·have OS:ak (fM (wr.setCell ⟨g,k*10+1,none⟩ (ae aj z)) b.heap.size (bV lo s) (some ⟨g,0,none⟩) N c8):=⟨v.o.set C aq z fun x hl _=>sU hl PZ.o⟩
       have BS:ak (aA b (wr.setCell ⟨g,k*10+1,none⟩ (ae aj z))):=⟨Below.setCell X.o (p:=⟨g,k*10+1,none⟩) v.o.lt.1 _⟩;go_roundg (N-k)
       ·exact⟨k+1,aq,aq,wQ,OS,BS⟩
       omega
      ·go_ret
       exact⟨N,aq,_,_,rfl,v.o,X.o⟩
     ·go_wp2
      go_ret;exact⟨N,aq,_,_,rfl,v.o,X.o⟩
   ·go_wp2_with (at_builtin;refine cw mf rfl (.tmp 84) (.tmp 89) rfl rfl G.o rfl L.o aq aq ?_;intro F c8 u a j;rw[<-q]at a;rw[<-q];have f:ak _:=⟨a⟩;have r:ak (aA b u):=⟨l.o.trans j⟩;clear a j q)
    go_ret;exact⟨N,aq,_,_,rfl,f.o,r.o⟩
  ·have i0:((i:Int)==0)=false:=pM
   go_wp2_with (at_builtin;refine cw mf rfl (.tmp 84) (.tmp 89) rfl rfl G.o rfl L.o aq aq ?_;intro F c8 u a j;rw[<-q]at a;rw[<-q];have f:ak _:=⟨a⟩;have r:ak (aA b u):=⟨l.o.trans j⟩;clear a j q);go_ret;exact⟨N,Q,_,_,rfl,f.o,r.o⟩
theorem ke{p:Prop}(h:p:=by first|rfl|go_num):p:=h
theorem mQ9(s:G:=by
 obtain⟨g,rfl,_,_⟩:=OK.o.form aq
 obtain⟨p0,p1,p2,p3,p4,p5,p6,p7,p8,p9,_,_,q1,_⟩:=OK.o.ba (j:=i) aq;have f1:=OK.o.fz (i*10+1);have i6:=aR i n;have OS:ak (fM (wr.setCell ⟨g,i*10+1,none⟩ (ae aj z)) w.heap.size (bV lo hi) (some ⟨g,0,none⟩) n c5):=⟨OK.o.set aq aq z fun x hl _=>sU hl PZ.o⟩;have BS:ak (aA w (wr.setCell ⟨g,i*10+1,none⟩ (ae aj z))):=⟨Below.setCell BK.o (p:=⟨g,i*10+1,none⟩) OK.o.lt.1 _⟩;go_wp2;go_roundg (n-i)
 ·exact⟨i+1,aq,aq,wQ,OS,BS⟩
 omega):G:=s
theorem ada(s:G:=by
 obtain⟨g,rfl,_,_⟩:=OK.o.form aq
 obtain⟨p0,p1,p2,p3,p4,p5,p6,p7,p8,p9,_,_,q1,_⟩:=OK.o.ba (j:=i) aq;have f1:=OK.o.fz (i*10+1);have i6:=aR i b;have OS:ak (fM (wr.setCell ⟨g,i*10+1,none⟩ (ae aj z)) w.heap.size (bV lo hi) (some ⟨g,0,none⟩) b c5):=⟨OK.o.set aq aq z fun x hl _=>sU hl PZ.o⟩;have BS:ak (aA w (wr.setCell ⟨g,i*10+1,none⟩ (ae aj z))):=⟨Below.setCell BK.o (p:=⟨g,i*10+1,none⟩) OK.o.lt.1 _⟩;go_wp2;go_roundg (b-i)
 ·exact⟨i+1,aq,aq,wQ,OS,BS⟩
 omega):G:=s
theorem V0(s:G:=by
 go_wp2
 go_ret;exact⟨_,_,rfl,OK.o,BK.o⟩):G:=s
theorem Uv(lo hi:Int)(A:aC)(n c l t:Nat)(w:World)(h:gi w (bV lo hi) A n)(V:n<=100000)(U:l<t+1)(G:t+1<=n)(hc:n<=c):
 Calls prog 317 #[.slice A n c,ae aj (l:Int),ae aj ((t:Int)+1)] w (Qz w (bV lo hi) n):=by
 have R:ak _:=⟨h⟩;have Q:ak _:=⟨AU (bV lo hi) A n c w h V⟩;obtain⟨A2,c2,F⟩:=Fk mf A n c l (t+1) aq G hc (l:Int) ((t:Int)+1) rfl aD;have T:=F.run;have M:ak _:=⟨F.rq h⟩;clear h F;have b1:¬((t:Int)+1<=(l:Int)):=aq;have b2:¬((n:Int)<(t:Int)+1):=aq;have b3:¬((l:Int)<0):=aq;go_enter func317,ntmps317;go_wp2_with fail;refine Q.o.mono ?_;rintro e w1 ⟨y,c5,rfl,K,N⟩;have L:ak _:=⟨K⟩;have q:ak _:=⟨N⟩;clear K N Q;go_wp2_with fail;refine(FJ (bV lo hi) (fun z=>lo<=z/\z<hi) (fun _ _ _ _ _ _ _ _ _ _ h=>h) A2 (t+1-l) c2 w1 (M.o.Z q.o q.o.size) aq aq).mono ?_;rintro e H ⟨z,rfl,O,rfl⟩;have PZ:ak _:=⟨O⟩;clear O T M;obtain⟨D,x0,x1,x2,x3,x4,x5,x6,x7,x8,x9,rfl,_,_,W,_⟩:=(R.o.Z q.o q.o.size).ba (j:=l) aq;obtain⟨d,y0,y1,y2,y3,y4,y5,y6,y7,y8,y9,s,_,_,o,_⟩:=(R.o.Z q.o q.o.size).ba (j:=t) aq;obtain rfl:D=d:=by injection s
 have i1:=aR l n;have i2:=aR t n;go_wp2;go_quiet (fail);have m:ak (aA w (H.drewN nq)):=⟨aM q.o _⟩;have C:ak (fM (H.drewN nq) w.heap.size (bV lo hi) y n c5):=⟨L.o.ar (aM (Below.refl _ _) _)⟩;clear q L W o;generalize H.drewN nq=X at*;go_wp2;go_loopg [1] (l+1) (fun gg Z wr=>∃a:Nat,a<gg/\a<=l/\Z=ae aj (a:Int)/\wr=X)
 ·exact⟨l,aq,aq,rfl,rfl⟩
 obtain⟨a,S,Y,rfl,B⟩:=hrel;subst B;obtain⟨P,k⟩:=eX wr;rw[<-k]at m C;rcases a with _|a
 ·go_wp2
  rw[<-k];clear k;go_loopg [2] (n+1) (fun gg v2 wr=>∃b:Nat,n-b<gg/\b<=n/\v2=ae aj (b:Int)/\wr=P)
  ·exact⟨t+1,aq,aq,wQ,rfl⟩
  obtain⟨b,E,J,rfl,B⟩:=hrel;subst B;by_cases I:b<n
  ·obtain⟨d,u0,u1,u2,u3,u4,u5,u6,u7,u8,u9,s,_,_,o,_⟩:=(R.o.Z m.o m.o.size).ba (j:=b) aq
   obtain rfl:D=d:=(by injection s);have i5:=aR b n;go_wp2_with fail
   ·go_roundg (n-b)
    case measure=>omega
    case rel=>exact⟨b+1,aq,aq,wQ,rfl⟩
   ·clear o
    go_loopg [11] (n+1) (fun gg f wr=>∃i:Nat,n-i<gg/\i<=n/\f=ae aj (i:Int)/\ak (fM wr w.heap.size (bV lo hi) y n c5)/\ak (aA w wr))
    ·exact⟨0,aq,aq,ke,C,m⟩
    obtain⟨i,v,u,rfl,OK,BK⟩:=hrel;by_cases r:i<b
    ·exact mQ9
    ·exact V0
  ·obtain rfl:b=n:=by omega
   go_wp2;go_loopg [11] (b+1) (fun gg f wr=>∃i:Nat,b-i<gg/\i<=b/\f=ae aj (i:Int)/\ak (fM wr w.heap.size (bV lo hi) y b c5)/\ak (aA w wr))
   ·exact⟨0,aq,aq,ke,C,m⟩
   obtain⟨i,v,u,rfl,OK,BK⟩:=hrel;by_cases r:i<b
   ·exact ada
   ·exact V0
 ·obtain⟨d,u0,u1,u2,u3,u4,u5,u6,u7,u8,u9,s,_,_,o,_⟩:=(R.o.Z m.o m.o.size).ba (j:=a) aq
  obtain rfl:D=d:=by injection s
  have i4:=aR a n;rw[k]at o;go_wp2_with fail
  ·go_roundg (a+1)
   case measure=>omega
   case rel=>exact⟨a,aq,aq,wQ,rfl⟩
  ·rw[<-k]
   clear k o;go_loopg [2] (n+1) (fun gg v2 wr=>∃b:Nat,n-b<gg/\b<=n/\v2=ae aj (b:Int)/\wr=P)
   ·exact⟨t+1,aq,aq,wQ,rfl⟩
   obtain⟨b,E,J,rfl,B⟩:=hrel;subst B;by_cases I:b<n
   ·obtain⟨d,u0,u1,u2,u3,u4,u5,u6,u7,u8,u9,s,_,_,o,_⟩:=(R.o.Z m.o m.o.size).ba (j:=b) aq
    obtain rfl:D=d:=(by injection s);have i5:=aR b n;go_wp2_with fail
    ·go_roundg (n-b)
     case measure=>omega
     case rel=>exact⟨b+1,aq,aq,wQ,rfl⟩
    ·clear o
     go_loopg [11] (n+1) (fun gg f wr=>∃i:Nat,n-i<gg/\i<=n/\f=ae aj (i:Int)/\ak (fM wr w.heap.size (bV lo hi) y n c5)/\ak (aA w wr))
     ·exact⟨(a+1),aq,aq,ke,C,m⟩
     obtain⟨i,v,u,rfl,OK,BK⟩:=hrel;by_cases r:i<b
     ·exact mQ9
     ·exact V0
   ·obtain rfl:b=n:=by omega
    go_wp2;go_loopg [11] (b+1) (fun gg f wr=>∃i:Nat,b-i<gg/\i<=b/\f=ae aj (i:Int)/\ak (fM wr w.heap.size (bV lo hi) y b c5)/\ak (aA w wr))
    ·exact⟨(a+1),aq,aq,ke,C,m⟩
    obtain⟨i,v,u,rfl,OK,BK⟩:=hrel;by_cases r:i<b
    ·exact ada
    ·exact V0
end Go.Proofs.YtpidckelbgbbkaaGreatDoor
