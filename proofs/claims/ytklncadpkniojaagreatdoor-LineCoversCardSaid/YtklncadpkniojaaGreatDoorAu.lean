/- Part of LineCovers. -/
import Derived.Test.YtklncadpkniojaaGreatDoorAo
import Derived.Lib.SmallJoins
import Derived.Deep.Slices
import Derived.SizedLaws
namespace Go.Proofs.YtklncadpkniojaaGreatDoor
open Go.ChangeShapes Go.WideShapes Go.ChangeAt Go.RowKit Go.Proofs.Tryz
open Go renaming World->ahh,Value->ahj,Calls->ahk,TypeId->ahm,Ending->ahn,Program->aho
open Go.RowKit renaming Below->ahi
open Go.Value renaming int->ae
open Go.IntKind renaming i64->aj
set_option linter.all false
set_option maxRecDepth 100000
set_option maxHeartbeats 16000000
variable{B b c j:Nat}{d w:ahh}{A:aA}{a:List ahj}{G:Prop}{cs:aC}{Q:aC->Prop}{lo:Int}
section
open Go.Joins Go.Deep
inductive Ty where
 |num (k:IntKind)
 |Ji
 |str
 |arr (e:Ty)
 |two (x y:Ty)
def Ty.n:Ty->Nat
 | .num _=>1
 | .Ji=>1
 | .str=>1
 | .arr _=>1
 | .two x y=>x.n+y.n
def Ty.lb:Ty->Nat
 | .num .i64=>8
 | .num .i32=>4
 | .num _=>1
 | .Ji=>1
 | .str=>16
 | .arr _=>24
 | .two x y=>x.lb+y.lb
def Rd(w:ahh)(B:Nat):Ty->List ahj->Prop
 | .num k,vs=>∃z,vs=[.int k z]/\(Lit.int k z).wf=true
 | .Ji,vs=>∃z,vs=[.bool z]
 | .str,vs=>∃z:ByteArray,vs=[.string z]/\z.size<=maxLen
 | .arr e,vs=>∃A n c,vs=[.slice A n c]/\n<=c/\c<=9223372036854775807/\n*e.lb<=140737488351232/\(0<n->∃f,A=some f/\f.block<B/\∀j,j<n->∃d,Rd w B e d/\∀q u,d[q]? =some u->w.cell? ((f.add (j*e.n)).add q)=some u)
 | .two a b,vs=>∃d g,vs=d++g/\Rd w B a d/\Rd w B b g
theorem Rd.len{w:ahh}:∀{t:Ty} {vs:List ahj},Rd w B t vs->vs.length=t.n
 | .num _,_,⟨_,e,_⟩=>by rw[e];rfl
 | .Ji,_,⟨_,e⟩=>by rw[e];rfl
 | .str,_,⟨_,e,_⟩=>by rw[e];rfl
 | .arr _,_,⟨_,_,_,e,_⟩=>by rw[e];rfl
 | .two a b,_,⟨us,ws,e,h1,h2⟩=>by rw[e,List.length_append,h1.len,h2.len];rfl
theorem Rd.Z{w k:ahh}{B i:Nat}(d:ahi B w k)(g:B<=i):∀{t:Ty} {vs:List ahj},Rd w B t vs->Rd k i t vs
 | .num _,_,h=>h
 | .Ji,_,h=>h
 | .str,_,h=>h
 | .arr e,_,⟨A,n,c,hv,h1,h2,h9,h3⟩=>⟨A,n,c,hv,h1,h2,h9,fun p=>by
   obtain⟨m,v,aK,r⟩:=h3 p;refine⟨m,v,ak,fun j o=> ?_⟩;obtain⟨f,s,l⟩:=r j o;exact⟨f,Rd.Z d g s,fun q u e=>(d.cell abF).trans (l q u e)⟩⟩
 | .two a b,_,⟨f,ws,e,h1,h2⟩=>⟨f,ws,e,Rd.Z d g h1,Rd.Z d g h2⟩
def uo(P:aho)(r:ahm->Ty->Bool):List Field->Ty->Nat->Bool
 |[],_,_=>false
 |[x],T,off=>decide (x.offset=off)&&decide (P.cellsOf x.type=T.n)&&r x.type T
 |x::y::fs,.two a b,off=>decide (x.offset=off)&&decide (P.cellsOf x.type=a.n)&&r x.type a&&uo P r (y::fs) b (off+a.n)
 |_::_::_,_,_=>false
def yF(P:aho):Nat->ahm->Ty->Bool
 |0,_,_=>false
 |f+1,t,T=>match P.underlying t,T with
  |some (.int k),.num k'=>decide (k=k')
  |some .bool,.Ji=>true
  |some .string,.str=>true
  |some (.slice e),.arr T=>yF P f e T&&decide (P.cellsOf e=T.n)&&decide (T.lb<=P.bytesOf e)
  |some (.struct fs),T=>uo P (yF P f) fs.toList T 0&&decide (P.cellsOf t=T.n)
  |_,_=>false
section
variable{H:Type}{enc:ahm × ahj -> H}{P:aho}{w:ahh}{base:Nat}{held:Bool}
theorem rQ{e:ahm}:∀(l:List (DataW H)) (d:DataW H),d∈l->∀m∈d.weights P e,m∈DataW.weightsAll P e l
 |[],d,h,_,_=>by cases h
 |x::l,d,h,m,hm=>by
  simp only[DataW.weightsAll,List.mem_append];rcases List.mem_cons.1 h with rfl|h
  .exact .inl hm
  .exact .inr (rQ l d h m hm)
def Fits(P:aho)(t:ahm)(d:DataW H):Prop:=∀m∈d.weights P t,m<=140737488351232
theorem Yn(f:Nat)(ih:∀(t:ahm) (T:Ty) (fuel:Nat) (cs:List ahj) (y:DataW H×List MemPlace),yF P f t T=true->Fits P t y.1->DataW.trod enc P w base (fun _=>true) held fuel t cs=some y->Rd w w.heap.size T cs)
 (cs:List ahj) (fuel:Nat):∀(c:List Field) (T:Ty) (off:Nat),uo P (yF P f) c T off=true->(∀x∈c,∃y,Fits P x.type y.1/\DataW.trod enc P w base (fun _=>true) held fuel x.type ((cs.drop x.offset).take (P.cellsOf x.type))=some y)->Rd w w.heap.size T ((cs.drop off).take T.n)
 |[],_,_,h,_=>by simp[uo]at h
 |[x],T,off,h,hx=>by
  simp only[uo,Bool.and_eq_true,decide_eq_true_eq]at h;obtain⟨y,d,g⟩:=hx x aQ;rw[h.1.1,h.1.2]at g;exact ih _ _ _ _ _ h.2 d g
 |x::y::c,.two a b,off,h,hx=>by
  simp only[uo,Bool.and_eq_true,decide_eq_true_eq]at h;obtain⟨z,d,i⟩:=hx x aQ;rw[h.1.1.1,h.1.1.2]at i;have j:=ih _ _ _ _ _ h.1.2 d i;have k:=Yn f ih cs fuel (y::c) b (off+a.n) h.2 (fun q e=>hx q (by simp at e⊢;exact .inr e));refine⟨_,_, ?_,j,k⟩;rw[show(Ty.two a b).n=a.n+b.n from rfl,List.take_add,List.drop_drop]
 |_::_::_,.num _,_,h,_=>by simp[uo]at h
 |_::_::_,.Ji,_,h,_=>by simp[uo]at h
 |_::_::_,.str,_,h,_=>by simp[uo]at h
 |_::_::_,.arr _,_,h,_=>by simp[uo]at h
theorem Hh:∀(f:Nat) (t:ahm) (T:Ty) (fuel:Nat) (cs:List ahj) (y:DataW H×List MemPlace),yF P f t T=true->Fits P t y.1->DataW.trod enc P w base (fun _=>true) held fuel t cs=some y->Rd w w.heap.size T cs
 |0,_,_,_,_,_,h,_,_=>by simp[yF]at h
 |f+1,t,T,fuel,cs,y,h,hfit,hy=>by
  cases b:P.underlying t with
  |none=>simp[yF,b]at h
  |some u=>
   cases u with
   |int k=>
    cases T with
    |num k'=>
     simp[yF,b]at h;subst h;obtain⟨z,e,_,R⟩:=DataW.trod_int b hy;exact⟨z,e,R⟩
    |_=>simp[yF,b]at h
   |bool=>
    cases T with
    |Ji=>
     obtain⟨z,e,_⟩:=DataW.trod_bool b hy;exact⟨z,e⟩
    |_=>simp[yF,b]at h
   |string=>
    cases T with
    |str=>
     obtain⟨z,e,_,U⟩:=DataW.trod_string b hy;exact⟨z,e,U⟩
    |_=>simp[yF,b]at h
   |slice e=>
    cases T with
    |arr E=>
     simp[yF,b]at h;rcases open_slice b hy with⟨h1,_⟩|⟨a,len,cap,m,n,D,Pl,h1,_,Q,l,s,c,g⟩
     .exact⟨none,0,0,h1,ak,ak,aQ,fun h=>absurd h ak⟩
     .simp only[if_true]at s
      have each:∀j,j<len->∃r,Rd w w.heap.size E r/\∀q u,r[q]? =some u->w.cell? ((a.add (j*E.n)).add q)=some u:=by
       intro j W;obtain⟨v,p,o⟩:=g j ak;rw[h.1.2]at p;obtain⟨_,hlen,d⟩:=World.cells?_some p;have S:D j∈(List.range len).map D:=List.mem_map.2 ⟨j,List.mem_range.2 W,rfl⟩;refine⟨v,Hh f e E _ _ _ h.1.1 (fun m l=>hfit m (by rw[c];simp only[DataW.weights,b,List.mem_cons,List.mem_append];exact .inr (.inl (rQ _ _ S m l)))) o,fun q u M=> ?_⟩;have C:=(List.getElem?_eq_some_iff.1 M).1;rw[d q (by rw[<-hlen];exact C),M]
      have V:len*E.lb<=140737488351232:=by
       have N:=hfit ((((List.range len).map D).length+((List.range (m-len)).map fun j=>D (len+j)).length)*P.bytesOf e) (by rw[c];simp[DataW.weights,b]);simp only[List.length_map,List.length_range]at N;exact Nat.le_trans (Nat.mul_le_mul ak h.2) N
      refine⟨some a,len,cap,h1,Q,by unfold maxLen at l;omega,V,fun Y=>⟨a,rfl, ?_,each⟩⟩;obtain⟨r,B,G⟩:=each 0 Y;have J:0<E.n:=by
       have:∀T:Ty,0<T.n:=by intro T;induction T<;>simp[Ty.n]<;>omega
       exact this E
      have hlen:=B.len;have:=block_lt_of_cell (G 0 r[0] (List.getElem?_eq_getElem ak));rwa [aO,aO]at this
    |_=>simp[yF,b]at h
   |struct fs=>
    have K:uo P (yF P f) fs.toList T 0=true/\P.cellsOf t=T.n:=by
     cases T<;>simpa[yF,b]using h
    obtain⟨xs,n,_,c,hlen,I,O⟩:=DataW.trod_struct b hy;have A:=Yn (H:=H) (enc:=enc) (w:=w) (base:=base) (held:=held) f (Hh f) cs n fs.toList T 0 K.1 (fun x X=>by
     obtain⟨i,L,e⟩:=List.getElem_of_mem X;have h1:fs[i]? =some x:=by rw[<-e];simp at L⊢
     have p:=O i x h1;have o:i<xs.length:=by rw[I];simpa using L
     exact⟨xs[i],fun m l=>hfit m (by
      rw[c];simp only[DataW.weights,b];exact DataW.weights_mem_each (j:=i) nd (by simp[List.getElem?_eq_getElem o]) m l),by rw[p,List.getElem?_eq_getElem o]⟩)
    have F:=A.len;rw[List.drop_zero]at A F;have Z:cs.length=T.n:=hlen.trans K.2;rwa [List.take_of_length_le ak]at A
   |_=>cases T<;>simp[yF,b]at h
end
end
section
open Ty
abbrev dR:Ty:=num .i64
abbrev Hn:Ty:=two dR (two dR (two dR (arr dR)))
abbrev aan:Ty:=two (num .i32) dR
abbrev s':Ty:=two dR dR
abbrev tP:Ty:=two dR (two dR dR)
abbrev yk:Ty:=two (arr dR) dR
abbrev zF:Ty:=two dR dR
abbrev GR:Ty:=two dR (two dR (two tP tP))
abbrev GJ:Ty:=two dR (two Ji (two Ji (two s' s')))
abbrev Oo:Ty:=two dR (two dR s')
abbrev ua:Ty:=two Ji s'
abbrev Hk:Ty:=two dR (arr (arr ua))
abbrev Wj:Ty:=two (arr dR) (two (arr (arr dR)) (two (arr (arr yk)) (two (arr (arr dR)) (two (arr (arr dR)) (two (arr (arr dR)) (two (arr zF) (two (arr tP) (two (arr GR) (two (arr GJ) (two (arr Oo) (arr Hk)))))))))))
abbrev Az:Ty:=two dR (two dR (two dR (arr Wj)))
abbrev FR:Ty:=two str (two dR (arr dR))
abbrev tO:Ty:=two dR (two (arr Hn) (two (arr aan) (two (arr Az) (two (arr FR) (arr (arr dR))))))
abbrev xE:Ty:=two dR (two dR (two dR dR))
abbrev tz:Ty:=two dR (two dR dR)
abbrev Tt:Ty:=two dR dR
abbrev Yu:Ty:=two (arr tO) (two (arr xE) (two (arr str) (two dR dR)))
abbrev YV:Ty:=two (arr (num .i32)) (two (arr tz) (two (arr Tt) (two dR (two dR (two dR (two dR Ji))))))
theorem abX:yF prog 20 26 Yu=true:=by kernel_rfl
theorem abV:yF prog 9 31 YV=true:=by kernel_rfl
end
section
open Ty
def cK(w:ahh)(B:Nat)(e:Ty)(A:aA)(n c:Nat):Prop:=
 n<=c/\c<=9223372036854775807/\n*e.lb<=140737488351232/\(0<n->∃a,A=some a/\a.block<B/\∀j,j<n->∃b,Rd w B e b/\∀q u,b[q]? =some u->w.cell? ((a.add (j*e.n)).add q)=some u)
theorem cK.Z{e:Ty}{n:Nat}(h:cK w B e A n c)(g:ahi B w d)(f:B<=b):cK d b e A n c:=by
 obtain⟨j,k,l,a,i⟩:=Rd.Z (t:=.arr e) (vs:=[.slice A n c]) g f ⟨A,n,c,rfl,h⟩;injection a with a
 injection a with e1 e2 e3
 subst e1;subst e2;subst e3
 exact i
theorem ew(a:Addr):a.add 0=a:=H5
structure cY where
 em:Int
 G:aA
 gn:Nat
 gc:Nat
 M:aA
 mn:Nat
 mc:Nat
 L:aA
 ln:Nat
 lc:Nat
 F:aA
 fn:Nat
 fc:Nat
 S:aA
 sn:Nat
 sc:Nat
abbrev cY.v(x:cY):ahj:=.agg #[ae aj x.em,.slice x.G x.gn x.gc,.slice x.M x.mn x.mc,.slice x.L x.ln x.lc,.slice x.F x.fn x.fc,.slice x.S x.sn x.sc]
structure bZ(w:ahh)(B:Nat)(x:cY):Prop where
 rG:cK w B Hn x.G x.gn x.gc
 rM:cK w B aan x.M x.mn x.mc
 rL:cK w B Az x.L x.ln x.lc
 rF:cK w B FR x.F x.fn x.fc
 rS:cK w B (arr dR) x.S x.sn x.sc
theorem bZ.Z{x:cY}(h:bZ w B x)(b:ahi B w d)(a:B<=c):bZ d c x:=⟨h.rG.Z b a,h.rM.Z b a,h.rL.Z b a,h.rF.Z b a,h.rS.Z b a⟩
theorem Z8(h:Rd w B tO a):∃x:cY,a=[ae aj x.em,.slice x.G x.gn x.gc,.slice x.M x.mn x.mc,.slice x.L x.ln x.lc,.slice x.F x.fn x.fc,.slice x.S x.sn x.sc]/\bZ w B x:=by
 obtain⟨_,_,rfl,⟨g,rfl,_⟩,⟨_,_,rfl,⟨r,l,s,rfl,e⟩,⟨_,_,rfl,⟨c,f,j,rfl,t⟩,⟨_,_,rfl,⟨o,n,d,rfl,i⟩,⟨_,_,rfl,⟨b,u,c4,rfl,q⟩,⟨p,k,c5,rfl,m⟩⟩⟩⟩⟩⟩:=h;exact⟨⟨g,r,l,s,c,f,j,o,n,d,b,u,c4,p,k,c5⟩,rfl,⟨e,t,i,q,m⟩⟩
theorem qI{n:Nat}(h:cK w B tO A n c)(f:j<n):∃(a:Addr) (x:cY),A=some a/\bZ w B x/\w.cell? (a.add (j*6))=some (ae aj x.em)/\w.cell? (bP (a.add (j*6)) 1)=some (.slice x.G x.gn x.gc)/\w.cell? (bP (a.add (j*6)) 2)=some (.slice x.M x.mn x.mc)/\w.cell? (bP (a.add (j*6)) 3)=some (.slice x.L x.ln x.lc)/\w.cell? (bP (a.add (j*6)) 4)=some (.slice x.F x.fn x.fc)/\w.cell? (bP (a.add (j*6)) 5)=some (.slice x.S x.sn x.sc):=by
 obtain⟨a,e,_,g⟩:=h.2.2.2 ak;obtain⟨l,i,b⟩:=g j f;obtain⟨x,rfl,k⟩:=Z8 i;have d:=b 0 _ rfl;rw[ew]at d;exact⟨a,x,e,k,d,b 1 _ rfl,b 2 _ rfl,b 3 _ rfl,b 4 _ rfl,b 5 _ rfl⟩
structure Lk where
 kind:Int
 flags:Int
 set:Int
 S:aA
 sn:Nat
 sc:Nat
abbrev Lk.v(x:Lk):ahj:=.agg #[ae aj x.kind,ae aj x.flags,ae aj x.set,.slice x.S x.sn x.sc]
structure mA(w:ahh)(B:Nat)(x:Lk):Prop where
 rS:cK w B Wj x.S x.sn x.sc
theorem mA.Z{b:ahh}{a:Nat}{x:Lk}(h:mA w B x)(d:ahi B w b)(c:B<=a):mA b a x:=⟨h.rS.Z d c⟩
theorem mQ3(s:G:=by
 obtain⟨_,_,rfl,⟨x0,rfl,_⟩,⟨_,_,rfl,⟨x1,rfl,_⟩,⟨_,_,rfl,⟨x2,rfl,_⟩,⟨A3,n3,c3,rfl,h3⟩⟩⟩⟩:=h;exact⟨⟨x0,x1,x2,A3,n3,c3⟩,rfl,⟨h3⟩⟩):G:=s
theorem ack(h:Rd w B Az a):∃x:Lk,a=[ae aj x.kind,ae aj x.flags,ae aj x.set,.slice x.S x.sn x.sc]/\mA w B x:=by
 exact mQ3
theorem rD{n:Nat}(h:cK w B Az A n c)(f:j<n):∃(a:Addr) (x:Lk),A=some a/\mA w B x/\w.cell? (a.add (j*4))=some (ae aj x.kind)/\w.cell? (bP (a.add (j*4)) 1)=some (ae aj x.flags)/\w.cell? (bP (a.add (j*4)) 2)=some (ae aj x.set)/\w.cell? (bP (a.add (j*4)) 3)=some (.slice x.S x.sn x.sc):=by
 obtain⟨a,e,_,g⟩:=h.2.2.2 ak;obtain⟨l,i,b⟩:=g j f;obtain⟨x,rfl,k⟩:=ack i;have d:=b 0 _ rfl;rw[ew]at d;exact⟨a,x,e,k,d,b 1 _ rfl,b 2 _ rfl,b 3 _ rfl⟩
structure Sb where
 C:aA
 cn:Nat
 cc:Nat
 T:aA
 tn:Nat
 tc:Nat
 L:aA
 ln:Nat
 lc:Nat
 B:aA
 bn:Nat
 bc:Nat
 J:aA
 jn:Nat
 jc:Nat
 A:aA
 an:Nat
 ac:Nat
 N:aA
 nn:Nat
 nc:Nat
 V:aA
 vn:Nat
 vc:Nat
 P:aA
 pn:Nat
 pc:Nat
 U:aA
 un:Nat
 uc:Nat
 M:aA
 mn:Nat
 mc:Nat
 H:aA
 hn:Nat
 hc:Nat
abbrev Sb.v(x:Sb):ahj:=.agg #[.slice x.C x.cn x.cc,.slice x.T x.tn x.tc,.slice x.L x.ln x.lc,.slice x.B x.bn x.bc,.slice x.J x.jn x.jc,.slice x.A x.an x.ac,.slice x.N x.nn x.nc,.slice x.V x.vn x.vc,.slice x.P x.pn x.pc,.slice x.U x.un x.uc,.slice x.M x.mn x.mc,.slice x.H x.hn x.hc]
structure nQ(w:ahh)(B:Nat)(x:Sb):Prop where
 rC:cK w B dR x.C x.cn x.cc
 rT:cK w B (arr dR) x.T x.tn x.tc
 rL:cK w B (arr yk) x.L x.ln x.lc
 rB:cK w B (arr dR) x.B x.bn x.bc
 rJ:cK w B (arr dR) x.J x.jn x.jc
 rA:cK w B (arr dR) x.A x.an x.ac
 rN:cK w B zF x.N x.nn x.nc
 rV:cK w B tP x.V x.vn x.vc
 rP:cK w B GR x.P x.pn x.pc
 rU:cK w B GJ x.U x.un x.uc
 rM:cK w B Oo x.M x.mn x.mc
 rH:cK w B Hk x.H x.hn x.hc
theorem nQ.Z{x:Sb}(h:nQ w B x)(b:ahi B w d)(a:B<=c):nQ d c x:=⟨h.rC.Z b a,h.rT.Z b a,h.rL.Z b a,h.rB.Z b a,h.rJ.Z b a,h.rA.Z b a,h.rN.Z b a,h.rV.Z b a,h.rP.Z b a,h.rU.Z b a,h.rM.Z b a,h.rH.Z b a⟩
theorem adW{i:List ahj}(h:Rd w B Wj i):∃x:Sb,i=[.slice x.C x.cn x.cc,.slice x.T x.tn x.tc,.slice x.L x.ln x.lc,.slice x.B x.bn x.bc,.slice x.J x.jn x.jc,.slice x.A x.an x.ac,.slice x.N x.nn x.nc,.slice x.V x.vn x.vc,.slice x.P x.pn x.pc,.slice x.U x.un x.uc,.slice x.M x.mn x.mc,.slice x.H x.hn x.hc]/\nQ w B x:=by
 obtain⟨_,_,rfl,⟨n,o,c0,rfl,A⟩,⟨_,_,rfl,⟨r,N,y,rfl,K⟩,⟨_,_,rfl,⟨I,j,L,rfl,C⟩,⟨_,_,rfl,⟨p,q,U,rfl,l⟩,⟨_,_,rfl,⟨F,S,c4,rfl,R⟩,⟨_,_,rfl,⟨P,M,c5,rfl,O⟩,⟨_,_,rfl,⟨H,t,c6,rfl,D⟩,⟨_,_,rfl,⟨z,u,m,rfl,E⟩,⟨_,_,rfl,⟨J,s,c8,rfl,Q⟩,⟨_,_,rfl,⟨k,G,T,rfl,v⟩,⟨_,_,rfl,⟨d,f,zP,rfl,e⟩,⟨b,a,g,rfl,c⟩⟩⟩⟩⟩⟩⟩⟩⟩⟩⟩⟩:=h;exact⟨⟨n,o,c0,r,N,y,I,j,L,p,q,U,F,S,c4,P,M,c5,H,t,c6,z,u,m,J,s,c8,k,G,T,d,f,zP,b,a,g⟩,rfl,⟨A,K,C,l,R,O,D,E,Q,v,e,c⟩⟩
theorem jk{n:Nat}(h:cK w B Wj A n c)(f:j<n):∃(a:Addr) (x:Sb),A=some a/\nQ w B x/\w.cell? (a.add (j*12))=some (.slice x.C x.cn x.cc)/\w.cell? (bP (a.add (j*12)) 1)=some (.slice x.T x.tn x.tc)/\w.cell? (bP (a.add (j*12)) 2)=some (.slice x.L x.ln x.lc)/\w.cell? (bP (a.add (j*12)) 3)=some (.slice x.B x.bn x.bc)/\w.cell? (bP (a.add (j*12)) 4)=some (.slice x.J x.jn x.jc)/\w.cell? (bP (a.add (j*12)) 5)=some (.slice x.A x.an x.ac)/\w.cell? (bP (a.add (j*12)) 6)=some (.slice x.N x.nn x.nc)/\w.cell? (bP (a.add (j*12)) 7)=some (.slice x.V x.vn x.vc)/\w.cell? (bP (a.add (j*12)) 8)=some (.slice x.P x.pn x.pc)/\w.cell? (bP (a.add (j*12)) 9)=some (.slice x.U x.un x.uc)/\w.cell? (bP (a.add (j*12)) 10)=some (.slice x.M x.mn x.mc)/\w.cell? (bP (a.add (j*12)) 11)=some (.slice x.H x.hn x.hc):=by
 obtain⟨a,e,_,g⟩:=h.2.2.2 ak;obtain⟨l,i,b⟩:=g j f;obtain⟨x,rfl,k⟩:=adW i;have d:=b 0 _ rfl;rw[ew]at d;exact⟨a,x,e,k,d,b 1 _ rfl,b 2 _ rfl,b 3 _ rfl,b 4 _ rfl,b 5 _ rfl,b 6 _ rfl,b 7 _ rfl,b 8 _ rfl,b 9 _ rfl,b 10 _ rfl,b 11 _ rfl⟩
structure Lg where
 P:aA
 pn:Nat
 pc:Nat
 gl:Int
abbrev Lg.v(x:Lg):ahj:=.agg #[.slice x.P x.pn x.pc,ae aj x.gl]
structure LgR(w:ahh)(B:Nat)(x:Lg):Prop where
 rP:cK w B dR x.P x.pn x.pc
theorem LgR.Z{b:ahh}{a:Nat}{x:Lg}(h:LgR w B x)(d:ahi B w b)(c:B<=a):LgR b a x:=⟨h.rP.Z d c⟩
theorem ac1(h:Rd w B yk a):∃x:Lg,a=[.slice x.P x.pn x.pc,ae aj x.gl]/\LgR w B x:=by
 obtain⟨_,_,rfl,⟨e,d,c0,rfl,c⟩,⟨b,rfl,_⟩⟩:=h;exact⟨⟨e,d,c0,b⟩,rfl,⟨c⟩⟩
theorem YJ{n:Nat}(h:cK w B yk A n c)(f:j<n):∃(a:Addr) (x:Lg),A=some a/\LgR w B x/\w.cell? (a.add (j*2))=some (.slice x.P x.pn x.pc)/\w.cell? (bP (a.add (j*2)) 1)=some (ae aj x.gl):=by
 obtain⟨a,e,_,g⟩:=h.2.2.2 ak;obtain⟨l,i,b⟩:=g j f;obtain⟨x,rfl,k⟩:=ac1 i;have d:=b 0 _ rfl;rw[ew]at d;exact⟨a,x,e,k,d,b 1 _ rfl⟩
structure Nf where
 adv:Int
 kind:Int
 att:Int
 K:aA
 kn:Nat
 kc:Nat
abbrev Nf.v(x:Nf):ahj:=.agg #[ae aj x.adv,ae aj x.kind,ae aj x.att,.slice x.K x.kn x.kc]
structure NfR(w:ahh)(B:Nat)(x:Nf):Prop where
 rK:cK w B dR x.K x.kn x.kc
theorem ac4(h:Rd w B Hn a):∃x:Nf,a=[ae aj x.adv,ae aj x.kind,ae aj x.att,.slice x.K x.kn x.kc]/\NfR w B x:=by
 exact mQ3
theorem YP{n:Nat}(h:cK w B Hn A n c)(f:j<n):∃(a:Addr) (x:Nf),A=some a/\NfR w B x/\w.cell? (a.add (j*4))=some (ae aj x.adv)/\w.cell? (bP (a.add (j*4)) 1)=some (ae aj x.kind)/\w.cell? (bP (a.add (j*4)) 2)=some (ae aj x.att)/\w.cell? (bP (a.add (j*4)) 3)=some (.slice x.K x.kn x.kc):=by
 obtain⟨a,e,_,g⟩:=h.2.2.2 ak;obtain⟨l,i,b⟩:=g j f;obtain⟨x,rfl,k⟩:=ac4 i;have d:=b 0 _ rfl;rw[ew]at d;exact⟨a,x,e,k,d,b 1 _ rfl,b 2 _ rfl,b 3 _ rfl⟩
structure Hs where
 gl:Int
 S:aA
 sn:Nat
 sc:Nat
abbrev Hs.v(x:Hs):ahj:=.agg #[ae aj x.gl,.slice x.S x.sn x.sc]
structure HsR(w:ahh)(B:Nat)(x:Hs):Prop where
 rS:cK w B (arr ua) x.S x.sn x.sc
theorem HsR.Z{b:ahh}{a:Nat}{x:Hs}(h:HsR w B x)(d:ahi B w b)(c:B<=a):HsR b a x:=⟨h.rS.Z d c⟩
theorem acN(h:Rd w B Hk a):∃x:Hs,a=[ae aj x.gl,.slice x.S x.sn x.sc]/\HsR w B x:=by
 obtain⟨_,_,rfl,⟨f,rfl,_⟩,⟨b,e,d,rfl,c⟩⟩:=h;exact⟨⟨f,b,e,d⟩,rfl,⟨c⟩⟩
theorem Qb{n:Nat}(h:cK w B Hk A n c)(f:j<n):∃(a:Addr) (x:Hs),A=some a/\HsR w B x/\w.cell? (a.add (j*2))=some (ae aj x.gl)/\w.cell? (bP (a.add (j*2)) 1)=some (.slice x.S x.sn x.sc):=by
 obtain⟨a,e,_,g⟩:=h.2.2.2 ak;obtain⟨l,i,b⟩:=g j f;obtain⟨x,rfl,k⟩:=acN i;have d:=b 0 _ rfl;rw[ew]at d;exact⟨a,x,e,k,d,b 1 _ rfl⟩
structure cN where
 F:aA
 fn:Nat
 fc:Nat
 Y:aA
 yn:Nat
 yc:Nat
 P:aA
 pn:Nat
 pc:Nat
 ev:Int
 ld:Int
abbrev cN.v(x:cN):ahj:=.agg #[.slice x.F x.fn x.fc,.slice x.Y x.yn x.yc,.slice x.P x.pn x.pc,ae aj x.ev,ae aj x.ld]
structure gL(w:ahh)(B:Nat)(x:cN):Prop where
 rF:cK w B tO x.F x.fn x.fc
 rY:cK w B xE x.Y x.yn x.yc
 rP:cK w B str x.P x.pn x.pc
theorem gL.Z{x:cN}(h:gL w B x)(b:ahi B w d)(a:B<=c):gL d c x:=⟨h.rF.Z b a,h.rY.Z b a,h.rP.Z b a⟩
theorem ae5(h:Rd w B Yu a):∃x:cN,a=[.slice x.F x.fn x.fc,.slice x.Y x.yn x.yc,.slice x.P x.pn x.pc,ae aj x.ev,ae aj x.ld]/\gL w B x:=by
 obtain⟨_,_,rfl,⟨j,k,c0,rfl,n⟩,⟨_,_,rfl,⟨l,i,m,rfl,e⟩,⟨_,_,rfl,⟨c,f,g,rfl,o⟩,⟨_,_,rfl,⟨d,rfl,_⟩,⟨b,rfl,_⟩⟩⟩⟩⟩:=h;exact⟨⟨j,k,c0,l,i,m,c,f,g,d,b⟩,rfl,⟨n,e,o⟩⟩
theorem mQ1(s:G:=by
 obtain⟨ad,e,_,hc⟩:=h.2.2.2 ak;obtain⟨us,hu,hq⟩:=hc j hj;obtain⟨_,_,rfl,⟨x0,rfl,_⟩,⟨x1,rfl,_⟩⟩:=hu;have q0:=hq 0 _ rfl;rw[ew]at q0;exact⟨ad,x0,x1,e,q0,hq 1 _ rfl⟩):G:=s
theorem xM{n:Nat}(h:cK w B aan A n c)(hj:j<n):∃(ad:Addr) (x0 x1:Int),A=some ad/\w.cell? (ad.add (j*2))=some (.int .i32 x0)/\w.cell? (bP (ad.add (j*2)) 1)=some (ae aj x1):=by
 exact mQ1
theorem xB{n:Nat}(h:cK w B zF A n c)(hj:j<n):∃(ad:Addr) (x0 x1:Int),A=some ad/\w.cell? (ad.add (j*2))=some (ae aj x0)/\w.cell? (bP (ad.add (j*2)) 1)=some (ae aj x1):=by
 exact mQ1
theorem mQ2(s:G:=by
 obtain⟨ad,e,_,hc⟩:=h.2.2.2 ak;obtain⟨us,hu,hq⟩:=hc j hj;obtain⟨_,_,rfl,⟨x0,rfl,_⟩,⟨_,_,rfl,⟨x1,rfl,_⟩,⟨x2,rfl,_⟩⟩⟩:=hu;have q0:=hq 0 _ rfl;rw[ew]at q0;exact⟨ad,x0,x1,x2,e,q0,hq 1 _ rfl,hq 2 _ rfl⟩):G:=s
theorem Mz{n:Nat}(h:cK w B tP A n c)(hj:j<n):∃(ad:Addr) (x0 x1 x2:Int),A=some ad/\w.cell? (ad.add (j*3))=some (ae aj x0)/\w.cell? (bP (ad.add (j*3)) 1)=some (ae aj x1)/\w.cell? (bP (ad.add (j*3)) 2)=some (ae aj x2):=by
 exact mQ2
theorem kB{n:Nat}(h:cK w B tz A n c)(hj:j<n):∃(ad:Addr) (x0 x1 x2:Int),A=some ad/\w.cell? (ad.add (j*3))=some (ae aj x0)/\w.cell? (bP (ad.add (j*3)) 1)=some (ae aj x1)/\w.cell? (bP (ad.add (j*3)) 2)=some (ae aj x2):=by
 exact mQ2
theorem Ot{n:Nat}(h:cK w B Tt A n c)(hj:j<n):∃(ad:Addr) (x0 x1:Int),A=some ad/\w.cell? (ad.add (j*2))=some (ae aj x0)/\w.cell? (bP (ad.add (j*2)) 1)=some (ae aj x1):=by
 exact mQ1
theorem zV{n:Nat}(h:cK w B xE A n c)(l:j<n):∃(a:Addr) (f i g d:Int),A=some a/\w.cell? (a.add (j*4))=some (ae aj f)/\w.cell? (bP (a.add (j*4)) 1)=some (ae aj i)/\w.cell? (bP (a.add (j*4)) 2)=some (ae aj g)/\w.cell? (bP (a.add (j*4)) 3)=some (ae aj d):=by
 obtain⟨a,e,_,m⟩:=h.2.2.2 ak;obtain⟨p,o,b⟩:=m j l;obtain⟨_,_,rfl,⟨f,rfl,_⟩,⟨_,_,rfl,⟨i,rfl,_⟩,⟨_,_,rfl,⟨g,rfl,_⟩,⟨d,rfl,_⟩⟩⟩⟩:=o;have k:=b 0 _ rfl;rw[ew]at k;exact⟨a,f,i,g,d,e,k,b 1 _ rfl,b 2 _ rfl,b 3 _ rfl⟩
theorem gT{n:Nat}(h:cK w B dR A n c)(g:j<n):∃(a:Addr) (d:Int),A=some a/\w.cell? (a.add j)=some (ae aj d):=by
 obtain⟨a,e,_,i⟩:=h.2.2.2 ak;obtain⟨l,k,f⟩:=i j g;obtain⟨d,rfl,_⟩:=k;have b:=f 0 _ rfl;rw[ew]at b;rw[show dR.n=1 from rfl,Nat.mul_one]at b;exact⟨a,d,e,b⟩
theorem fi{n:Nat}{e:Ty}(h:cK w B (arr e) A n c)(l:j<n):∃(f:Addr) (a:aA) (b d:Nat),A=some f/\cK w B e a b d/\w.cell? (f.add j)=some (.slice a b d):=by
 obtain⟨f,k,_,m⟩:=h.2.2.2 ak;obtain⟨q,o,i⟩:=m j l;obtain⟨a,b,d,rfl,p⟩:=o;have g:=i 0 _ rfl;rw[ew,show(arr e).n=1 from rfl,Nat.mul_one]at g;exact⟨f,a,b,d,k,p,g⟩
end
theorem aT{p:Prop}(h:p:=by go_num):p:=h
theorem QS{p:Prop}(h:p:=by simp[results,results213,go_sem]):p:=h
theorem cK.rb{e:Ty}{n:Nat}(h:cK w B e A n c):n*e.lb<=140737488351232:=h.2.2.1
theorem cK.bd{e:Ty}{n:Nat}(h:cK w B e A n c):n<=9223372036854775807:=Nat.le_trans h.1 h.2.1
def PIn(w:ahh)(lo b:Int)(e:ahn)(a:ahh):Prop:=∃z:Int,e=.returned (ae aj z)/\lo<=z/\z<b/\az w a
def PI(w:ahh)(e:ahn)(a:ahh):Prop:=∃z:Int,e=.returned (ae aj z)/\az w a
def PB(w:ahh)(e:ahn)(a:ahh):Prop:=∃z:Bool,e=.returned (.bool z)/\az w a
def PIB(w:ahh)(lo c:Int)(e:ahn)(a:ahh):Prop:=∃(z:Int) (b:Bool),e=.returned (.tuple #[ae aj z,.bool b])/\lo<=z/\(b=true->z<c)/\az w a
abbrev cY.row(x:cY):Array ahj:=#[ae aj x.em,.slice x.G x.gn x.gc,.slice x.M x.mn x.mc,.slice x.L x.ln x.lc,.slice x.F x.fn x.fc,.slice x.S x.sn x.sc]
def Bx(w:ahh)(b:Nat)(cs:Array ahj):Prop:=∃t,w.heap[b]? =some (.cells cs t (0,0))
theorem Bx.cell{cs:Array ahj}(h:Bx w b cs)(o:Nat):w.cell? ⟨b,o,none⟩=cs[o]? :=by obtain⟨t,h⟩:=h;exact cell_of_row _ _ _ _ _ _ h
theorem Bx.lt{cs:Array ahj}(h:Bx w b cs):b<w.heap.size:=by obtain⟨t,h⟩:=h;exact(Array.getElem?_eq_some_iff.1 h).1
theorem Bx.ar{a:ahh}{cs:Array ahj}(h:Bx w b cs)(d:ahi B w a)(c:b<B):Bx a b cs:=by obtain⟨t,h⟩:=h;exact⟨t,(d.block b c).trans h⟩
theorem Bx.new(w:ahh)(cs:Array ahj)(t:ahm):Bx (w.alloc (.cells cs t)) w.heap.size cs:=⟨t,heap_alloc_new w _⟩
theorem Bx.gY(w:ahh)(cs:Array ahj)(t:ahm){N:Nat}(h:w.heap.size=N):Bx (w.alloc (.cells cs t)) N cs:=by subst h;exact Bx.new _ _ _
theorem box2(w:ahh)(cs:Array ahj)(t:ahm)(ds:Array ahj)(u:ahm):∃W,W=(w.alloc (.cells cs t)).alloc (.cells ds u)/\aq (az w W)/\aq (Bx W w.heap.size cs)/\aq (Bx W (w.heap.size+1) ds):=
 ⟨_,rfl,⟨(av w _).alloc aQ _⟩,⟨(Bx.new _ _ _).ar (av _ _) aQ⟩,⟨Bx.gY _ _ _ aQ⟩⟩
theorem box1(w:ahh)(cs:Array ahj)(t:ahm):∃W,W=w.alloc (.cells cs t)/\aq (az w W)/\aq (Bx W w.heap.size cs):=⟨_,rfl,⟨av _ _⟩,⟨Bx.new _ _ _⟩⟩
theorem afe(f:cY)(r:Int)(w:ahh)(h:bZ w w.heap.size f):ahk prog 244 #[f.v,.int .i32 r] w (PIn w (-1) f.mn):=by
 have o:f.mn<=9223372036854775807:=h.rM.bd;have⟨d,a,b,e⟩:=box1 w f.row 96;have R:=sH (h.Z b.o b.o.size);clear h;go_enter func244,ntmps244;go_wp2;rw[<-a];clear a;have g:d.cell? ⟨w.heap.size,2,none⟩=some (.slice f.M f.mn f.mc):=e.o.cell 2;go_loopg[5](f.mn+1)(fun gg j wr=>∃i:Nat,f.mn-i<gg/\i<=f.mn/\j=ae aj (i:Int)/\wr=d)
 .exact⟨0,ak,ak,rfl,rfl⟩
 obtain⟨i,n,p,rfl,rfl⟩:=hrel;by_cases c:i<f.mn
 .obtain⟨m,y,z,k,q,l⟩:=xM R.o.rM c
  rw[k]at g;go_wp2_with fail
  all_goals first
   |(go_ret;exact⟨_,rfl,ak,ak,b.o⟩)
   |(go_roundg(f.mn-i)<;>first|omega|exact⟨i+1,ak,ak,aT,rfl⟩)
 .go_wp2
  go_ret;exact⟨_,rfl,ak,ak,b.o⟩
theorem sO(f:cY)(r:Int)(w:ahh)(h:bZ w w.heap.size f):ahk prog 192 #[f.v,.int .i32 r] w (PI w):=by
 have u:f.mn<=9223372036854775807:=h.rM.bd;have⟨n,b,c,d⟩:=box1 w f.row 96;have R:=sH (h.Z c.o c.o.size);go_enter func192,ntmps192;go_wp2_with fail;rw[<-b];refine(afe f r n R.o).mono ?_;rintro e p ⟨z,rfl,k,m,a⟩;have g:=c.t a;have l:p.cell? ⟨w.heap.size,2,none⟩=some (.slice f.M f.mn f.mc):=(d.o.ar a d.o.lt).cell 2;by_cases t:z<0
 .clear a
  go_wp2;go_ret;exact⟨_,rfl,g.o⟩
 .obtain⟨i,rfl⟩:∃i:Nat,z=(i:Int):=⟨z.toNat,ak⟩
  obtain⟨s,y,x,o,v,q⟩:=xM (R.o.rM.Z a a.size) (j:=i) ak;rw[o]at l;go_wp2;go_ret;exact⟨_,rfl,g.o⟩
def ach(w:ahh)(e:ahn)(c:ahh):Prop:=∃(a k t:Int) (K:aA) (b d:Nat),e=.returned (.agg #[ae aj a,ae aj k,ae aj t,.slice K b d])/\az w c
theorem Ee(f:cY)(g:Int)(w:ahh)(h:bZ w w.heap.size f):ahk prog 213 #[f.v,ae aj g] w (ach w):=by
 have I:f.gn<=9223372036854775807:=h.rG.bd;have c:aq (∀o,az w ((w.alloc (.cells f.row 96)).alloc o)):=⟨fun o=>(av _ _).alloc aQ _⟩;by_cases t:g<0
 .go_enter func213,ntmps213
  go_wp2_with fail;exact bodyPost_ret (v:=Nf.v ⟨0,0,0,none,0,0⟩) QS rfl ⟨_,_,_,_,_,_,rfl,c.o _⟩
 .obtain⟨i,rfl⟩:∃i:Nat,g=(i:Int):=⟨g.toNat,ak⟩
  obtain⟨s,G,k,D,M,p,z,L,A,E,F,m,q,S,B,H⟩:=f;simp only at*;by_cases b:i<k
  .obtain⟨C,x,rfl,u,e,d,l,j⟩:=YP (h.rG) b
   have n:=fun o1 a=>aI (aI e o1) a
   have J:=fun o1 a=>aI (aI d o1) a
   have r:=fun o1 a=>aI (aI l o1) a
   have y:=fun o1 a=>aI (aI j o1) a
   go_enter func213,ntmps213;go_wp2_with fail;exact bodyPost_ret (v:=x.v) QS rfl ⟨_,_,_,_,_,_,rfl,c.o _⟩
  .clear h
   go_enter func213,ntmps213;go_wp2_with fail;exact bodyPost_ret (v:=Nf.v ⟨0,0,0,none,0,0⟩) QS rfl ⟨_,_,_,_,_,_,rfl,c.o _⟩
@[go_sem] theorem abS(a k t : Int)(K : aA)(b c : Nat)(w : ahh) : (Instr.field 259 (.agg #[ae aj a,ae aj k,ae aj t, .slice K b c]) 0).run prog w = .ok (ae aj a) w := by kernel_rfl
@[go_sem] theorem abU(a k t : Int)(K : aA)(b c : Nat)(w : ahh) : (Instr.field 259 (.agg #[ae aj a,ae aj k,ae aj t, .slice K b c]) 1).run prog w = .ok (ae aj k) w := by kernel_rfl
@[go_sem] theorem abT(a k t : Int)(K : aA)(b c : Nat)(w : ahh) : (Instr.field 259 (.agg #[ae aj a,ae aj k,ae aj t, .slice K b c]) 2).run prog w = .ok (ae aj t) w := by kernel_rfl
theorem tH(f:cY)(g:Int)(w:ahh)(h:bZ w w.heap.size f):ahk prog 306 #[f.v,ae aj g] w (PI w):=by
 have m:f.gn<=9223372036854775807:=h.rG.bd;have a:aq (az w (w.alloc (.cells f.row 96))):=⟨av _ _⟩;have C:aq _:=⟨Ee f g (w.alloc (.cells f.row 96)) (h.Z a.o a.o.size)⟩;clear h;go_enter func306,ntmps306;go_wp2_with (go_at_call 213;refine C.o.mono ?_;rintro e n ⟨l,j,i,c,d,k,rfl,b⟩);go_ret;exact⟨_,rfl,a.o.trans (b.mono a.o.size)⟩
theorem zg(f:cY)(g:Int)(w:ahh)(h:bZ w w.heap.size f):ahk prog 309 #[f.v,ae aj g] w (PI w):=by
 have m:f.gn<=9223372036854775807:=h.rG.bd;have a:aq (az w (w.alloc (.cells f.row 96))):=⟨av _ _⟩;have C:aq _:=⟨Ee f g (w.alloc (.cells f.row 96)) (h.Z a.o a.o.size)⟩;clear h;go_enter func309,ntmps309;go_wp2_with (go_at_call 213;refine C.o.mono ?_;rintro e n ⟨l,j,i,c,d,k,rfl,b⟩);go_ret;exact⟨_,rfl,a.o.trans (b.mono a.o.size)⟩
theorem ab5(f:cY)(g:Int)(w:ahh)(h:bZ w w.heap.size f):ahk prog 121 #[f.v,ae aj g] w (PI w):=by
 have m:f.gn<=9223372036854775807:=h.rG.bd;have a:aq (az w (w.alloc (.cells f.row 96))):=⟨av _ _⟩;have C:aq _:=⟨Ee f g (w.alloc (.cells f.row 96)) (h.Z a.o a.o.size)⟩;clear h;go_enter func121,ntmps121;go_wp2_with (go_at_call 213;refine C.o.mono ?_;rintro e n ⟨l,j,i,c,d,k,rfl,b⟩);go_ret;exact⟨_,rfl,a.o.trans (b.mono a.o.size)⟩
theorem TQ(A:aA)(n c:Nat)(g:Int)(w:ahh)(h:cK w w.heap.size dR A n c):ahk prog 349 #[.slice A n c,ae aj g] w (PIB w 0 n):=by
 have f:n<=9223372036854775807:=h.bd;have R:=sH h;go_enter func349,ntmps349;go_wp2;go_loopg[6](n+1)(fun gg b wr=>∃i:Nat,n-i<gg/\i<=n/\b=ae aj (i:Int)/\wr=w)
 .exact⟨0,ak,ak,rfl,rfl⟩
 obtain⟨i,e,j,rfl,rfl⟩:=hrel;by_cases a:i<n
 .obtain⟨d,y,rfl,k⟩:=gT R.o a
  go_wp2_with fail
  all_goals first
   |(go_ret2;exact⟨_,_,rfl,ak,ak,Below.refl _ _⟩)
   |(go_roundg(n-i)<;>first|omega|exact⟨i+1,ak,ak,aT,rfl⟩)
 .go_wp2
  go_ret2;exact⟨_,_,rfl,ak,aQ,Below.refl _ _⟩
abbrev Lk.row(x:Lk):Array ahj:=#[ae aj x.kind,ae aj x.flags,ae aj x.set,.slice x.S x.sn x.sc]
theorem aaj(A:aA)(n c:Nat)(g:Int)(w:ahh)(h:cK w w.heap.size dR A n c):ahk prog 307 #[.slice A n c,ae aj g] w (PB w):=by
 have f:n<=9223372036854775807:=h.bd;have R:=sH h;go_enter func307,ntmps307;go_wp2;go_loopg[5](n+1)(fun gg b wr=>∃i:Nat,n-i<gg/\i<=n/\b=ae aj (i:Int)/\wr=w)
 .exact⟨0,ak,ak,rfl,rfl⟩
 obtain⟨i,e,j,rfl,rfl⟩:=hrel;by_cases a:i<n
 .obtain⟨d,y,rfl,k⟩:=gT R.o a
  go_wp2_with fail
  all_goals first
   |(go_ret;exact⟨_,rfl,Below.refl _ _⟩)
   |(go_roundg(n-i)<;>first|omega|exact⟨i+1,ak,ak,aT,rfl⟩)
 .go_wp2
  go_ret;exact⟨_,rfl,Below.refl _ _⟩
def PRd(w:ahh)(e:Ty)(r:ahn)(a:ahh):Prop:=∃(A:aA) (n c:Nat),r=.returned (.slice A n c)/\cK a a.heap.size e A n c/\az w a
theorem cK.nil(w:ahh)(B:Nat)(e:Ty):cK w B e none 0 0:=⟨ak,ak,aQ,fun h=>absurd h ak⟩
theorem acv(f:cY)(k:Lk)(w:ahh)(h:bZ w w.heap.size f):ahk prog 308 #[f.v,k.v] w (PRd w dR):=by
 have a:aq (az w ((w.alloc (.cells f.row 96)).alloc (.cells k.row 161))):=⟨(av _ _).alloc aQ _⟩;obtain⟨t,G,I,D,M,r,x,L,y,E,F,o,s,S,d,m⟩:=f;obtain⟨kind,flags,set,Z,v,H⟩:=k;have R:=sH h;by_cases u:set<0
 .go_enter func308,ntmps308
  go_wp2;go_ret;exact⟨_,_,_,rfl,cK.nil _ _ _,a.o⟩
 .obtain⟨i,rfl⟩:∃i:Nat,set=(i:Int):=⟨set.toNat,ak⟩
  by_cases b:i<d
  .obtain⟨C,z,q,B,rfl,j,l⟩:=fi (A:=S) (n:=d) (c:=m) R.o.rS b
   have p:=fun o1 g=>aI (aI l o1) g
   have e:=sH (j.Z a.o a.o.size);go_enter func308,ntmps308;go_wp2;go_ret;exact⟨_,_,_,rfl,e.o,a.o⟩
  .go_enter func308,ntmps308
   go_wp2;go_ret;exact⟨_,_,_,rfl,cK.nil _ _ _,a.o⟩
theorem Bx.f6{x:cY}(h:Bx w b x.row):w.cell? ⟨b,0,none⟩=some (ae aj x.em)/\w.cell? ⟨b,1,none⟩=some (.slice x.G x.gn x.gc)/\w.cell? ⟨b,2,none⟩=some (.slice x.M x.mn x.mc)/\w.cell? ⟨b,3,none⟩=some (.slice x.L x.ln x.lc)/\w.cell? ⟨b,4,none⟩=some (.slice x.F x.fn x.fc)/\w.cell? ⟨b,5,none⟩=some (.slice x.S x.sn x.sc):=⟨h.cell 0,h.cell 1,h.cell 2,h.cell 3,h.cell 4,h.cell 5⟩
theorem Bx.k4{x:Lk}(h:Bx w b x.row):w.cell? ⟨b,0,none⟩=some (ae aj x.kind)/\w.cell? ⟨b,1,none⟩=some (ae aj x.flags)/\w.cell? ⟨b,2,none⟩=some (ae aj x.set)/\w.cell? ⟨b,3,none⟩=some (.slice x.S x.sn x.sc):=⟨h.cell 0,h.cell 1,h.cell 2,h.cell 3⟩
theorem pH(f:cY)(k:Lk)(g:Int)(w:ahh)(h:bZ w w.heap.size f):ahk prog 290 #[f.v,k.v,ae aj g] w (PB w):=by
 have⟨j,aP⟩:=eX ((w.alloc (.cells f.row 96)).alloc (.cells k.row 161));have n:aq (az w j):=⟨aee⟩;have R:=sH (h.Z n.o n.o.size);have s:aq (Bx j w.heap.size f.row):=⟨by rw[aP];exact(Bx.new _ _ _).ar ((Below.refl (w.heap.size+1) _).alloc (by simp) _) (by simp)⟩;have q:aq (Bx j (w.heap.size+1) k.row):=⟨by rw[aP];exact Bx.gY _ _ _ (by simp)⟩;go_enter func290,ntmps290;go_wp2_with fail
 all_goals
  rw[<-aP];refine(tH f g j R.o).mono ?_;rintro e p ⟨z,rfl,E⟩;have i:=sH E;have l:=sH (s.o.ar i.o s.o.lt);have t:=sH (q.o.ar i.o q.o.lt);have⟨c0,x,D,G,c4,c5⟩:=l.o.f6;have⟨J,H,L,K⟩:=t.o.k4;have m:=sH (R.o.Z i.o i.o.size);have d:=n.t i.o;go_wp2_with (first
   |(go_at_call 309;refine(zg f g p m.o).mono ?_;rintro e o ⟨y,rfl,a⟩)
   |(go_at_call 309;refine(zg f g A v.o).mono ?_;rintro e o ⟨I,rfl,a⟩;have b:=b.trans (a.mono b.size);clear a)
   |(go_at_call 308;refine(acv f k p m.o).mono ?_;rintro e o ⟨C,u,F,rfl,B,a⟩)
   |(go_at_call 307;refine(aaj C u F g o B).mono ?_;rintro e A ⟨y,rfl,c⟩;have b:=a.trans (c.mono a.size);have r:=l.o.ar b l.o.lt;have⟨c0,x,D,G,c4,c5⟩:=r.f6;have v:=sH (m.o.Z b b.size);clear a c r))
  all_goals first
   |(go_ret;exact⟨_,rfl,d.o⟩)
   |(go_ret;exact⟨_,rfl,d.o.trans (a.mono d.o.size)⟩)
   |(go_ret;exact⟨_,rfl,d.o.trans (b.mono d.o.size)⟩)
abbrev uU(w:ahh)(Q:aC->Prop)(A:aA)(n:Nat):Prop:=Rq w w.heap.size 10 Q A n
theorem Rq.bD{n:Nat}(h:Rq w B 10 Q A n){j:Nat}(t:j<n):∃(a:Addr) (k q m i c d o l f p:Int),A=some a/\Q [k,q,m,i,c,d,o,l,f,p]/\w.cell? (a.add (j*10))=some (ae aj k)/\
 w.cell? (bP (a.add (j*10)) 1)=some (ae aj q)/\w.cell? (bP (a.add (j*10)) 2)=some (ae aj m)/\w.cell? (bP (a.add (j*10)) 3)=some (ae aj i)/\
 w.cell? (bP (a.add (j*10)) 4)=some (ae aj c)/\w.cell? (bP (a.add (j*10)) 5)=some (ae aj d)/\w.cell? (bP (a.add (j*10)) 6)=some (ae aj o)/\
 w.cell? (bP (a.add (j*10)) 7)=some (ae aj l)/\w.cell? (bP (a.add (j*10)) 8)=some (ae aj f)/\w.cell? (bP (a.add (j*10)) 9)=some (ae aj p):=by
 obtain⟨a,e,_,u⟩:=h ak;obtain⟨g,s,v,b⟩:=u j t
 match g,s with
 |[k,q,m,i,c,d,o,l,f,p],_=>
  have r:=b 0 _ rfl;rw[ew]at r;exact⟨a,k,q,m,i,c,d,o,l,f,p,e,v,r,b 1 _ rfl,b 2 _ rfl,b 3 _ rfl,b 4 _ rfl,b 5 _ rfl,b 6 _ rfl,b 7 _ rfl,b 8 _ rfl,b 9 _ rfl⟩
theorem iu{f:cY}{k:Lk}{a:ahh}(h:a=(w.alloc (.cells f.row 96)).alloc (.cells k.row 161)):az w a/\Bx a w.heap.size f.row/\Bx a (w.heap.size+1) k.row:=
 ⟨Zi,by rw[h];exact(Bx.new _ _ _).ar ((Below.refl (w.heap.size+1) _).alloc (by simp) _) (by simp),by rw[h];exact Bx.gY _ _ _ (by simp)⟩
theorem bg{w0:ahh}{n:aG w0}{P:aho}{f:FuncId}{args:Array ahj}(h:ahk P f args n.1 (PB n.1)):ahk P f args n.1 fun e a=>∃v,e=.returned v/\SB v/\∃m:aG w0,a=m.1:=
 h.mono fun e a ⟨b,d,c⟩=>⟨_,d,⟨b,rfl⟩,⟨a,n.2.trans (c.mono n.2.size)⟩,rfl⟩
def PNx(w:ahh)(at_ n:Nat)(e:ahn)(a:ahh):Prop:=∃z:Int,e=.returned (ae aj z)/\(z= -1∨((at_:Int)<z/\z<n))/\az w a
theorem xq(f:cY)(k:Lk)(Q:aC->Prop)(A:aA)(n c at_:Nat)(w:ahh)(h:bZ w w.heap.size f)(E:uU w Q A n)(Z:n<=100000)(X:at_<n):ahk prog 333 #[f.v,k.v,.slice A n c,ae aj (at_:Int)] w (PNx w at_ n):=by
 have⟨x,e⟩:=eX ((w.alloc (.cells f.row 96)).alloc (.cells k.row 161));have m:=iu e;have d:=sH m.1;have q:=sH m.2.1;have r:=sH m.2.2;have R:=sH (h.Z d.o d.o.size);have J:=sH (E.Z d.o d.o.size);have T:¬((at_:Int)< -1):=ak;have O:=aU at_ n;go_enter func333,ntmps333;go_wp2;rw[<-e];go_loopg[9](n+1)(fun gg F wr=>∃i:Nat,n-i<gg/\i<=n/\at_<i/\F=ae aj (i:Int)/\aq (az x wr))
 .exact⟨at_+1,ak,ak,ak,aT,cA⟩
 obtain⟨i,hg,hi,t,rfl,a⟩:=hrel;have⟨c0,u,v,L,c4,c5⟩:=(q.o.ar a.o q.o.lt).f6;have⟨G,s,K,I⟩:=(r.o.ar a.o r.o.lt).k4;have z:=d.t a.o;by_cases l:i<n
 .obtain⟨W,y,x1,x2,x3,x4,M,x6,x7,N,Y,rfl,hQ,D,_⟩:=(J.o.Z a.o a.o.size).bD l
  have B:=sH (R.o.Z a.o a.o.size);have i1:=aU i n;go_wp2;have⟨L0,L1,S,L3,L4,V,M0,M1⟩:=lc8 c0 u v L c4 c5 G s;have⟨M2,M3,U⟩:=lc3 K I D;refine aD (kF 32 SB) aF aF ?_
  repeat(refine cF aB aB aB ?_;intro H o;go_big_quiet_op;go_big_quiet_on)
  refine lsA SB (fun g=> ?_) (fun P j=> ?_)
  .go_simp
   exact bg (pH f k y g.1 (B.o.Z g.2 g.2.size))
  obtain⟨b,rfl⟩:=j;simp[Act.put]
  repeat(refine cF aB aB aB ?_;intro H o;go_big_quiet_op;go_big_quiet_on)
  intro g;have p:=a.t g.2;have C:=d.t p.o;cases b
  .go_wp2
   go_ret;exact⟨_,rfl,.inr ⟨ak,ak⟩,C.o⟩
  .go_wp2
   go_roundg(n-i)
   .exact⟨i+1,ak,ak,ak,aT,p⟩
   omega
 .go_wp2
  go_ret;exact⟨_,rfl,.inl rfl,z.o⟩
theorem yu(f:cY)(k:Lk)(Q:aC->Prop)(A:aA)(n c at_:Nat)(w:ahh)(h:bZ w w.heap.size f)(E:uU w Q A n)(Z:n<=100000)(X:at_<n):ahk prog 347 #[f.v,k.v,.slice A n c,ae aj (at_:Int)] w (PIn w (-1) at_):=by
 have⟨x,e⟩:=eX ((w.alloc (.cells f.row 96)).alloc (.cells k.row 161));have m:=iu e;have d:=sH m.1;have q:=sH m.2.1;have r:=sH m.2.2;have R:=sH (h.Z d.o d.o.size);have J:=sH (E.Z d.o d.o.size);have T:¬((n:Int)<(at_:Int)):=ak;have O:=aU at_ n;go_enter func347,ntmps347;go_wp2;rw[<-e];go_loopg[9](n+1)(fun gg F wr=>∃i:Nat,i<gg/\i<=at_/\F=ae aj ((i:Int)-1)/\aq (az x wr))
 .exact⟨at_,ak,ak,aT,cA⟩
 obtain⟨i,hg,hi,rfl,a⟩:=hrel;have⟨c0,t,u,L,c4,c5⟩:=(q.o.ar a.o q.o.lt).f6;have⟨G,s,K,I⟩:=(r.o.ar a.o r.o.lt).k4;have z:=d.t a.o;rcases i with _|i
 rotate_left
 .have v:(((i+1:Nat):Int)-1)=(i:Int):=by omega
  rw[v];have l:i<n:=ak;have i8:=aU 0 at_;have i9:=ie i;obtain⟨W,y,x1,x2,x3,x4,M,x6,x7,N,Y,rfl,hQ,D,_⟩:=(J.o.Z a.o a.o.size).bD l;have B:=sH (R.o.Z a.o a.o.size);have i1:=aU i n;go_wp2;have⟨L0,L1,S,L3,L4,V,M0,M1⟩:=lc8 c0 t u L c4 c5 G s;have⟨M2,M3,U⟩:=lc3 K I D;refine aD (kF 30 SB) aF aF ?_
  repeat(refine cF aB aB aB ?_;intro H o;go_big_quiet_op;go_big_quiet_on)
  refine lsA SB (fun g=> ?_) (fun P j=> ?_)
  .go_simp
   exact bg (pH f k y g.1 (B.o.Z g.2 g.2.size))
  obtain⟨b,rfl⟩:=j;simp[Act.put]
  repeat(refine cF aB aB aB ?_;intro H o;go_big_quiet_op;go_big_quiet_on)
  intro g;have p:=a.t g.2;have C:=d.t p.o;cases b
  .go_wp2
   go_ret;exact⟨_,rfl,ak,ak,C.o⟩
  .go_wp2
   go_roundg(i+1)
   .exact⟨i,ak,ak,aT,p⟩
   omega
 .go_wp2
  go_ret;exact⟨_,rfl,ak,ak,z.o⟩
def Up(w:ahh)(n:Nat)(e:ahn)(a:ahh):Prop:=∃(A:aA) (m c:Nat) (b:Bool),e=.returned (.tuple #[.slice A m c,.bool b])/\(b=true->m<=n/\∃xs,Own a w.heap.size 3 .i64 A m c xs/\∀x∈xs,0<=x/\x<n)/\az w a
theorem mQ5(s:G:=by
 obtain⟨j,rfl⟩:∃j:Nat,z=(j:Int):=⟨z.toNat,ak⟩
 have hj:j<n:=ak;obtain⟨sd,A3,n3,c3,rfl,r3,s0⟩:=fi (RS.o.Z BN.o BN.o.size) aK;obtain⟨ad,x0,x1,x2,x3,x4,x5,x6,x7,x8,x9,rfl,hQ,e0,_⟩:=(GL.o.Z BN.o BN.o.size).bD hj;clear hQ;have R3:aq (cK w1 w1.heap.size dR A3 n3 c3):=⟨r3⟩;clear r3;have i2:=aU j n;have i4:((j:Int)== -1)=false:=gZ;go_wp2;have⟨S0,E0⟩:=lc2 s0 e0;clear s0 e0;refine aD (kF 45 SB) aF aF ?_
 repeat(refine cF aB aB aB ?_;intro K9 di;go_big_quiet_op;go_big_quiet_on)
 refine kH SB aB aB (fun w9 dv=> ?_) (fun v9 aV=> ?_)
 .obtain⟨nq,rfl⟩:=dv
  go_simp;exact bg (aaj A3 n3 c3 x0 nq.1 (R3.o.Z nq.2 nq.2.size))
 obtain⟨b,rfl⟩:=aV;simp[Act.put]
 repeat(refine cF aB aB aB ?_;intro K9 di;go_big_quiet_op;go_big_quiet_on)
 intro nq;obtain⟨w5,b5⟩:=nq;have B5:aq (az w1 w5):=⟨b5⟩;dsimp only;clear b5 S0 E0;have OX5:aq (Own w5 W1.heap.size 3 .i64 A2 i c2 xs):=⟨OX1.o.ar B5.o⟩;have BN5:aq (az W1 w5):=⟨BN.o.trans (B5.o.mono BN.o.size)⟩;have rZ:=BN5.o.size;cases b
 .go_wp2
  go_ret2;exact⟨_,_,_,_,rfl,aQ,B1.o.trans (BN5.o.mono B1.o.size)⟩
 .go_wp2_with (at_builtin;refine kA YQ rfl (.tmp 48) (.tmp 50) rfl rfl (OX5.o.alloc _) rfl (y:=(j:Int)) (nh _ _ _ _ aQ) ak cw ?_;intro A4 c4 w4 o4 b4;have O4:aq _:=⟨o4⟩;have X4:aq (az W1 w4):=⟨(BN5.o.alloc ak _).trans b4⟩;clear o4 b4)
  go_roundg(sn-i)
  case measure=>omega
  case rel=>exact⟨i+1,j,A4,c4,_,ak,ak,hj,gZ,rfl,rfl,aT,O4,⟨fun x hx=>by
   rw[List.mem_append]at hx;rcases hx with hx|hx
   .exact HX.o x hx
   .simp at hx;omega⟩,X4⟩):G:=s
theorem mQ6(s:G:=by
 go_wp2
 go_quiet (fail);go_wp2;go_ret2;exact⟨_,_,_,_,rfl,aQ,aN BM.o _⟩):G:=s
theorem Yt(f:cY)(k:Lk)(Q:aC->Prop)(A:aA)(n c at_:Nat)(M:aA)(sn N:Nat)(back:Bool)(w:ahh)(h:bZ w w.heap.size f)(U:uU w Q A n)(I:cK w w.heap.size (.arr dR) M sn N)(S:n<=100000)(V:at_<n):
 ahk prog 345 #[f.v,k.v,.slice A n c,ae aj (at_:Int),.slice M sn N,.bool back] w (Up w n):=by
 have⟨W1,l⟩:=eX ((w.alloc (.cells f.row 96)).alloc (.cells k.row 161));have F:=iu l;have B1:aq (az w W1):=⟨F.1⟩;have r:aq (Bx W1 w.heap.size f.row):=⟨F.2.1⟩;have t:aq (Bx W1 (w.heap.size+1) k.row):=⟨F.2.2⟩;have R:aq (bZ W1 W1.heap.size f):=⟨h.Z B1.o B1.o.size⟩;have GL:aq (uU W1 Q A n):=⟨U.Z B1.o B1.o.size⟩;have RS:aq (cK W1 W1.heap.size (.arr dR) M sn N):=⟨I.Z B1.o B1.o.size⟩;have X:=I.bd;clear h U F I;go_enter func345,ntmps345;go_wp2;rw[<-l];clear l;go_loopg[3,14,15](sn+1)(fun gg v3 K O wr=>∃(i a:Nat) (A2:aA) (c2:Nat) (xs:aC),sn-i<gg/\i<=sn/\a<n/\(if back then a+i<n else i<=a)/\v3=ae aj (a:Int)/\K=.slice A2 i c2/\O=ae aj (i:Int)/\aq (Own wr W1.heap.size 3 .i64 A2 i c2 xs)/\aq (∀x∈xs,0<=x/\x<n)/\aq (az W1 wr))
 .exact⟨0,at_,none,0,[],ak,ak,V,by split<;>omega,rfl,rfl,rfl,⟨Own.nil _ _ _ _⟩,⟨aQ⟩,cA⟩
 obtain⟨i,a,A2,c2,xs,Z,hi,D,o,rfl,rfl,rfl,B,HX,d⟩:=hrel;have⟨c0,q,g,c3,c4,c5⟩:=(r.o.ar d.o r.o.lt).f6;have⟨s,p,v,u⟩:=(t.o.ar d.o t.o.lt).k4;have W:aq (az w wr):=⟨B1.o.trans (d.o.mono B1.o.size)⟩;by_cases aK:i<sn
 .have T:aq (bZ wr wr.heap.size f):=⟨R.o.Z d.o d.o.size⟩
  have P:aq (uU wr Q A n):=⟨GL.o.Z d.o d.o.size⟩;have i1:=aU i sn;have J:aq _:=⟨yu f k Q A n c a wr T.o P.o S D⟩;have G:aq _:=⟨xq f k Q A n c a wr T.o P.o S D⟩;cases back
  .simp only[Bool.false_eq_true,if_false,if_true]at o
   clear c0 q g c3 c4 c5 s p v u;have⟨c0,q,g,c3,c4,c5⟩:=(r.o.ar d.o r.o.lt).f6;have⟨s,p,v,u⟩:=(t.o.ar d.o t.o.lt).k4;go_wp2_with fail;refine(G.o).mono ?_;rintro e w1 ⟨z,rfl,Y,m⟩;have L:z= -1∨(0<=z/\z<n/\(a:Int)<z):=ak;clear c0 q g c3 c4 c5 s p v u J G;have BN:aq (az W1 w1):=⟨d.o.trans (m.mono d.o.size)⟩;have OX1:aq (Own w1 W1.heap.size 3 .i64 A2 i c2 xs):=⟨B.o.ar m⟩;have BM:aq (az w w1):=⟨B1.o.trans (BN.o.mono B1.o.size)⟩;clear m B;rcases L with rfl|⟨E,C,H⟩
   .exact mQ6
   .exact mQ5
  .simp only[Bool.false_eq_true,if_false,if_true]at o
   clear c0 q g c3 c4 c5 s p v u;have⟨c0,q,g,c3,c4,c5⟩:=(r.o.ar d.o r.o.lt).f6;have⟨s,p,v,u⟩:=(t.o.ar d.o t.o.lt).k4;go_wp2_with fail;refine(J.o).mono ?_;rintro e w1 ⟨z,rfl,E,C,m⟩;have L:z= -1∨(0<=z/\z<n/\z<a):=ak;clear c0 q g c3 c4 c5 s p v u J G;have BN:aq (az W1 w1):=⟨d.o.trans (m.mono d.o.size)⟩;have OX1:aq (Own w1 W1.heap.size 3 .i64 A2 i c2 xs):=⟨B.o.ar m⟩;have BM:aq (az w w1):=⟨B1.o.trans (BN.o.mono B1.o.size)⟩;clear m B;rcases L with rfl|⟨E,C,H⟩
   .exact mQ6
   .exact mQ5
 .go_wp2
  go_ret2;exact⟨_,_,_,_,rfl,fun _=>⟨by split at o<;>omega,xs,(B.o.gF B1.o.size),HX.o⟩,W.o⟩
theorem MF(f:cY)(k:Lk)(Q:aC->Prop)(A:aA)(n c at_:Nat)(i:aA)(j l:Nat)(w:ahh)(h:bZ w w.heap.size f)(o:uU w Q A n)(p:cK w w.heap.size (.arr dR) i j l)(v:n<=100000)(t:at_<n):
 ahk prog 329 #[f.v,k.v,.slice A n c,ae aj (at_:Int),.slice i j l] w (Up w n):=by
 have⟨s,d⟩:=eX ((w.alloc (.cells f.row 96)).alloc (.cells k.row 161));have x:=iu d;have a:=sH x.1;have C:=sH (Yt f k Q A n c at_ i j l false s (h.Z a.o a.o.size) (o.Z a.o a.o.size) (p.Z a.o a.o.size) v t);go_enter func329,ntmps329;go_wp2_with fail;rw[<-d];refine C.o.mono ?_;rintro e y ⟨q,m,r,b,rfl,g,u⟩;go_wp2;go_ret2;exact⟨q,m,r,b,rfl,fun e=>⟨(g e).1,(g e).2.choose,(g e).2.choose_spec.1.gF a.o.size,(g e).2.choose_spec.2⟩,a.o.trans (u.mono a.o.size)⟩
theorem MY(f:cY)(k:Lk)(Q:aC->Prop)(A:aA)(n c at_:Nat)(i:aA)(j l:Nat)(w:ahh)(h:bZ w w.heap.size f)(o:uU w Q A n)(p:cK w w.heap.size (.arr dR) i j l)(v:n<=100000)(t:at_<n):
 ahk prog 330 #[f.v,k.v,.slice A n c,ae aj (at_:Int),.slice i j l] w (Up w n):=by
 have⟨s,d⟩:=eX ((w.alloc (.cells f.row 96)).alloc (.cells k.row 161));have x:=iu d;have a:=sH x.1;have C:=sH (Yt f k Q A n c at_ i j l true s (h.Z a.o a.o.size) (o.Z a.o a.o.size) (p.Z a.o a.o.size) v t);go_enter func330,ntmps330;go_wp2_with fail;rw[<-d];refine C.o.mono ?_;rintro e y ⟨q,m,r,b,rfl,g,u⟩;go_wp2;go_ret2;exact⟨q,m,r,b,rfl,fun e=>⟨(g e).1,(g e).2.choose,(g e).2.choose_spec.1.gF a.o.size,(g e).2.choose_spec.2⟩,a.o.trans (u.mono a.o.size)⟩
theorem my:aR prog 46 120 10 80:=bu underlying46 (z:=.agg #[ae aj 0,ae aj 0,ae aj 0,ae aj 0,ae aj 0,ae aj 0,ae aj 0,ae aj 0,ae aj 0,ae aj 0]) aF rfl ak ak
abbrev kT(w:ahh)(L:List aC->Prop)(A:aA)(n:Nat):Prop:=RL w w.heap.size 10 L A n
abbrev fR(w:ahh)(B:Nat)(L:List aC->Prop)(A:aA)(n c:Nat):Prop:=OL w B 120 10 L A n c
def Sc(w:ahh)(L:List aC->Prop)(n:Nat)(r:ahn)(a:ahh):Prop:=∃(A:aA) (c:Nat),r=.returned (.slice A n c)/\fR a w.heap.size L A n c/\az w a
theorem Ag(L:List aC->Prop)(A:aA)(n c:Nat)(w:ahh)(h:kT w L A n)(o:n<=100000):ahk prog 340 #[.slice A n c] w (Sc w L n):=by
 have R:=sH h;go_enter func340,ntmps340;go_wp2_with (at_builtin;refine cd (L':=L) my rfl (.tmp 4) (.tmp 5) rfl rfl (OL.nil (L:=fun gs=>gs=[]) w w.heap.size _ _ rfl) rfl R.o (fun gs m _ _ _ _ h1 h2=>Kj) ak bW ?_;intro d i l b a;have f:=sH b;have j:=sH a;clear b a);go_ret;rw[Nat.zero_add]at*;exact⟨d,i,rfl,f.o,j.o⟩
def Fq(lo a:Int)(g:aC):Prop:=lo<=nth g 1/\nth g 1<a
def CS(lo a:Int)(cs:aC):Prop:=(∀x∈cs,lo<=x/\x<a)/\cs.Pairwise (·<= ·)
def bk(lo a:Int)(gs:List aC):Prop:=CS lo a (aL gs)
theorem CS.nil(lo a:Int):CS lo a []:=⟨aQ,.nil⟩
theorem RL.iX{w:ahh}{B n:Nat}{a:Int}(h:RL w B 10 (bk lo a) A n):Rq w B 10 (Fq lo a) A n:=h.rq fun gs b g d=>b.1 (nth g 1) (List.mem_map.2 ⟨g,d,rfl⟩)
theorem OL.iX{w:ahh}{B n c:Nat}{e:ahm}{a:Int}(h:OL w B e 10 (bk lo a) A n c):Oq w B e 10 (Fq lo a) A n c:=h.oq fun gs b g d=>b.1 (nth g 1) (List.mem_map.2 ⟨g,d,rfl⟩)
theorem OL.le{w:ahh}{B n c k:Nat}{e:ahm}{L:List aC->Prop}(h:OL w B e k L A n c):n<=c:=by
 obtain⟨gs,b,f,d,a⟩:=h;exact aw.le a
theorem fM(gs a:List aC):aL (gs++a)=aL gs++aL a:=by simp[aL]
theorem dM(gs:List aC):(aL gs).length=gs.length:=by simp[aL]
theorem kV(gs:List aC)(i m:Nat):aL ((gs.drop i).take m)=((aL gs).drop i).take m:=by simp[aL,List.map_take,List.map_drop]
theorem CS.sub{b:Int}{ds:aC}(h:CS lo b cs)(a:ds.Sublist cs):CS lo b ds:=⟨fun x d=>h.1 x (a.subset d),h.2.sublist a⟩
theorem CS.le{f:Int}(h:CS lo f cs){i j:Nat}(a:i<=j)(d:j<cs.length):nth cs i<=nth cs j:=by
 rw[cB ak,cB d];rcases Nat.eq_or_lt_of_le a with rfl|b
 .exact Int.le_refl _
 .exact List.pairwise_iff_getElem.1 h.2 i j ak d b
theorem CS.at_{b:Int}(h:CS lo b cs){j:Nat}(a:j<cs.length):lo<=nth cs j/\nth cs j<b:=by
 rw[cB a];exact h.1 _ (List.getElem_mem a)
theorem CS.mid{i z:Int}{ds:aC}(h:CS lo i (cs++ds))(l:lo<=z/\z<i)(j:∀x∈cs,x<=z)(o:∀x∈ds,z<=x)(m:Nat):CS lo i (cs++(List.replicate m z++ds)):=by
 obtain⟨a,b⟩:=h;rw[List.pairwise_append]at b;refine⟨fun x d=> ?_, ?_⟩
 .simp only[List.mem_append]at d
  rcases d with d|d|d
  .exact a x (List.mem_append_left _ d)
  .rw[List.eq_of_mem_replicate d];exact l
  .exact a x (List.mem_append_right _ d)
 .refine List.pairwise_append.2 ⟨b.1,List.pairwise_append.2 ⟨List.pairwise_replicate.2 (.inr (Int.le_refl _)),b.2.1,fun x d y f=>by rw[List.eq_of_mem_replicate d];exact o y f⟩,fun x d y f=> ?_⟩
  rcases List.mem_append.1 f with f|f
  .rw[List.eq_of_mem_replicate f];exact j x d
  .exact b.2.2 x d y f
def Be(lo a z:Int)(k:Nat)(cs:aC):Prop:=CS lo a cs/\(∀x∈cs.take k,x<=z)/\∀x∈cs.drop k,z<=x
theorem Be.set{b z:Int}{k:Nat}(h:Be lo b z k cs)(m:lo<=z/\z<b)(d:k<cs.length):Be lo b z (k+1) (cs.set k z):=by
 obtain⟨j,i,l⟩:=h;have e:cs.set k z=cs.take k++(List.replicate 1 z++cs.drop (k+1)):=by rw[List.set_eq_take_append_cons_drop,if_pos d];rfl
 have f:∀x∈cs.drop (k+1),z<=x:=fun x a=>l x (by rw[List.drop_eq_getElem_cons d];exact List.mem_cons_of_mem _ a)
 have o:CS lo b (cs.take k++cs.drop (k+1)):=j.sub (by
  conv=>rhs;rw[<-List.take_append_drop k cs]
  exact(List.Sublist.refl _).append (by rw[List.drop_eq_getElem_cons d];exact List.sublist_cons_self _ _))
 refine⟨by rw[e];exact o.mid m i f 1,fun x a=> ?_,fun x a=> ?_⟩
 .rw[e,List.take_append,List.length_take,Nat.min_eq_left ak,Nat.add_sub_cancel_left,List.take_of_length_le Rl]at a
  rcases List.mem_append.1 a with a|a
  .exact i x a
  .simp at a;omega
 .rw[List.drop_set_of_lt ak]at a
  exact f x a
theorem ui(gs:List aC)(j:Nat)(a:j<gs.length)(b:∀g∈gs,g.length=10)(z:Int):aL (gs.set j (gs[j].set 1 z))=(aL gs).set j z:=by
 unfold aL;rw[List.map_set]
 congr 1
 have:=b _ (List.getElem_mem a);simp[nth,this]
theorem qA(gs:List aC){j q:Nat}(hj:j<gs.length)(a:q≠1)(z:Int):aL (gs.set j (gs[j].set q z))=aL gs:=by
 unfold aL;rw[List.map_set];have e:nth (gs[j].set q z) 1=(gs.map (nth · 1))[j]' vw:=by
  unfold nth;simp[List.getElem?_set,a]
 rw[e,List.set_getElem_self]
theorem Gy(lo a:Int)(gs:List aC)(A:aA)(n c:Nat)(w:ahh)(h:Rx w w.heap.size 10 gs A n)(p:bk lo a gs)(F:n<=100000)(q:0<n):
 ahk prog 341 #[.slice A n c] w (fun e o=>e=.returned (ae aj (nth (aL gs) 0))/\o=w):=by
 have u:(aL gs).length=n:=by rw[dM];exact h.1
 have s:aq (∀i,i<n->nth (aL gs) 0<=nth (aL gs) i):=⟨fun i a=>p.le (Nat.zero_le _) ak⟩;have R:aq (∀i,i<n->∃b:Addr,A=some b/\w.cell? (bP (b.add (i*10)) 1)=some (ae aj (nth (aL gs) i))):=⟨fun i a=>by
  obtain⟨b,t,E,C,m⟩:=h.at_ a;refine⟨b,t, ?_⟩;rw[fS (by rw[h.1];exact a)];exact m 1 ak⟩
 obtain⟨b,rfl,j⟩:=R.o 0 q;rw[Nat.zero_mul,ew]at j;generalize nth (aL gs) 0=z at*;go_enter func341,ntmps341;go_wp2;go_loopg[3,4](n+1)(fun gg v3 v4 wr=>∃(i:Nat),n-i<gg/\i<=n/\v3=ae aj z/\v4=ae aj (i:Int)/\wr=w)
 .exact⟨1,ak,ak,rfl,rfl,rfl⟩
 obtain⟨i,v,a,rfl,rfl,rfl⟩:=hrel;by_cases d:i<n
 .obtain⟨f,r,j⟩:=R.o i d
  obtain rfl:b=f:=by injection r
  have x:=s.o i d;generalize nth (aL gs) i=y at*;have l:¬y<z:=ak;have D:=aU i n;go_wp2;go_roundg(n-i)
  .exact⟨i+1,ak,ak,rfl,aT,rfl⟩
  omega
 .go_wp2
  go_ret;exact⟨rfl,rfl⟩
def R10(w:ahh)(A:aA)(j:Nat)(Q:aC->Prop):Prop:=∃(a:Addr) (m i p l b f q o h d:Int),A=some a/\Q [m,i,p,l,b,f,q,o,h,d]/\w.cell? (a.add (j*10))=some (ae aj m)/\w.cell? (bP (a.add (j*10)) 1)=some (ae aj i)/\w.cell? (bP (a.add (j*10)) 2)=some (ae aj p)/\w.cell? (bP (a.add (j*10)) 3)=some (ae aj l)/\w.cell? (bP (a.add (j*10)) 4)=some (ae aj b)/\w.cell? (bP (a.add (j*10)) 5)=some (ae aj f)/\w.cell? (bP (a.add (j*10)) 6)=some (ae aj q)/\w.cell? (bP (a.add (j*10)) 7)=some (ae aj o)/\w.cell? (bP (a.add (j*10)) 8)=some (ae aj h)/\w.cell? (bP (a.add (j*10)) 9)=some (ae aj d)
theorem Rx.bD{w:ahh}{B n:Nat}{gs:List aC}(h:Rx w B 10 gs A n)(d:j<n):R10 w A j (·=fC gs j):=by
 obtain⟨i,l,f,_,a⟩:=h.at_ d;generalize fC gs j=g at*
 match g,f with
 |[x0,x1,x2,x3,x4,x5,x6,x7,x8,x9],_=>
  have b:=a 0 ak;rw[ew]at b;exact⟨i,x0,x1,x2,x3,x4,x5,x6,x7,x8,x9,l,rfl,b,a 1 ak,a 2 ak,a 3 ak,a 4 ak,a 5 ak,a 6 ak,a 7 ak,a 8 ak,a 9 ak⟩
theorem JM{gs:List aC}{i:Nat}(h:i<gs.length):gs.take i++[fC gs i]=gs.take (i+1):=by
 rw[List.take_succ_eq_append_getElem h];simp[fC,h]
theorem sX(a b:Int)(w:ahh):ahk prog 251 #[ae aj a,ae aj b] w fun e d=>e=.returned (.agg #[ae aj a,ae aj b,ae aj 0,ae aj 0,ae aj 0,ae aj (-1),ae aj (-1),ae aj 0,ae aj 0,ae aj 0])/\az w d:=by
 go_enter func251,ntmps251;go_wp2_with fail;exact bodyPost_ret (v:=.agg #[ae aj a,ae aj b,ae aj 0,ae aj 0,ae aj 0,ae aj (-1),ae aj (-1),ae aj 0,ae aj 0,ae aj 0]) (by simp[results,results251,go_sem]) rfl ⟨rfl,av _ _⟩
def agD(w:ahh)(L:List aC->Prop)(N:Nat)(e:ahn)(a:ahh):Prop:=∃q,q<=N/\Sc w L q e a
theorem Oq.alloc{w:ahh}{B k n c:Nat}{e:ahm}(h:Oq w B e k Q A n c)(o:Obj):Oq (w.alloc o) B e k Q A n c:=h.ar ((Below.refl _ _).alloc bW o)
theorem cg(g:aC)(w:ahh)(t:ahm)(cs:Array ahj)(N:Nat)(b:w.heap.size=N)(a:cs.toList=dk g):∀j u,(dk g)[j]? =some u->(w.alloc (.cells cs t)).cell? ⟨N,j,none⟩=some u:=fun j u d=>by
 subst b;rw[cell_of_row _ _ _ _ _ _ (heap_alloc_new w _),<-d,<-a];simp
theorem Oq.bD{w:ahh}{B n c:Nat}{e:ahm}{g:Nat}(h:Oq w B e 10 Q (some ⟨g,0,none⟩) n c){j:Nat}(u:j<n):∃s l f d m a i o b p:Int,Q [s,l,f,d,m,a,i,o,b,p]/\w.cell? ⟨g,j*10,none⟩=some (ae aj s)/\
 w.cell? ⟨g,j*10+1,none⟩=some (ae aj l)/\w.cell? ⟨g,j*10+2,none⟩=some (ae aj f)/\w.cell? ⟨g,j*10+3,none⟩=some (ae aj d)/\w.cell? ⟨g,j*10+4,none⟩=some (ae aj m)/\w.cell? ⟨g,j*10+5,none⟩=some (ae aj a)/\
 w.cell? ⟨g,j*10+6,none⟩=some (ae aj i)/\w.cell? ⟨g,j*10+7,none⟩=some (ae aj o)/\w.cell? ⟨g,j*10+8,none⟩=some (ae aj b)/\w.cell? ⟨g,j*10+9,none⟩=some (ae aj p):=by
 obtain⟨C,e,_,v⟩:=h.rq ak ak;obtain rfl:(⟨g,0,none⟩:Addr)=C:=Br;obtain⟨r,t,z,A⟩:=v j u;have key:∀q x,r[q]? =some x->w.cell? ⟨g,j*10+q,none⟩=some (ae aj x):=fun q x y=>by
  have:=A q x y;rwa [aY,bj]at this
 match r,t with
 |[s,l,f,d,m,a,i,o,b,p],_=>exact⟨s,l,f,d,m,a,i,o,b,p,z,key 0 _ rfl,key 1 _ rfl,key 2 _ rfl,key 3 _ rfl,key 4 _ rfl,key 5 _ rfl,key 6 _ rfl,key 7 _ rfl,key 8 _ rfl,key 9 _ rfl⟩
theorem Oq.fz{w:ahh}{B n c k:Nat}{e:ahm}{g:Nat}(h:Oq w B e k Q (some ⟨g,0,none⟩) n c)(j:Nat):w.frozen? ⟨g,j,none⟩=false:=by
 obtain⟨gs,b,d,a⟩:=h;exact aw.frozenAt a j
theorem Oq.lt{w:ahh}{B n c k:Nat}{e:ahm}{g:Nat}(h:Oq w B e k Q (some ⟨g,0,none⟩) n c):B<=g/\g<w.heap.size:=by
 obtain⟨gs,b,d,a⟩:=h;exact aw.xD a
section
variable{w:ahh}{B n c k:Nat}{e:ahm}{L:List aC -> Prop}{g:Nat}
theorem OL.fz(h:OL w B e k L (some ⟨g,0,none⟩) n c)(j:Nat):w.frozen? ⟨g,j,none⟩=false:=h.o.fz j
theorem OL.lt(h:OL w B e k L (some ⟨g,0,none⟩) n c):B<=g/\g<w.heap.size:=h.o.lt
end
theorem I'(lo j:Int)(A:aA)(n c at_:Nat)(I:aA)(m d:Nat)(w:ahh)(h:kT w (bk lo j) A n)(U:cK w w.heap.size dR I m d)(hn:n<=50000)(hm:m<=1000)(ha:at_<n)(hc:n<=c):
 ahk prog 322 #[.slice A n c,ae aj (at_:Int),ae aj 1,.slice I m d] w (agD w (bk lo j) (n+m)):=by
 obtain⟨gs,D,b⟩:=h;have hl:(aL gs).length=n:=by rw[dM];exact b.1
 have R:aq (uU w (fun _=>True) A n):=⟨b.rq fun _ _=>trivial⟩;have RI:=sH U;obtain⟨A2,c2,C2⟩:=Hq my A n c at_ (at_+1) ak ak hc (at_:Int) ((at_:Int)+1) rfl aQ;obtain⟨A3,c3,C3⟩:=EW my A n c at_ ak hc (at_:Int) rfl;obtain⟨A4,c4,C4⟩:=ND my A n c (at_+1) ak hc ((at_:Int)+1) aQ;have r2:=C2.run;have r3:=C3.run;have r4:=C4.run;have⟨z,W⟩:=eY (nth (aL gs) at_);have PZ:aq (lo<=z/\z<j):=⟨by rw[<-W];exact CS.at_ D (by omega)⟩;have ez:nth (aL ((gs.drop at_).take (at_+1-at_))) 0=z:=by
  rw[<-W];unfold nth aL;simp
 have S2:bk lo j ((gs.drop at_).take (at_+1-at_)):=CS.sub D aef;have Y:=sH (Gy lo j _ A2 _ c2 w (C2.rx b) S2 ak ak);rw[ez]at Y;have G3:aq (kT w (fun xs=>aL xs=(aL gs).take at_) A3 at_):=⟨_,(kV _ _ _).trans aQ,C3.rx b⟩;have G4:aq (kT w (fun xs=>aL xs=(aL gs).drop (at_+1)) A4 (n-(at_+1))):=⟨_,(kV _ _ _).trans (List.take_of_length_le (by rw[List.length_drop];omega)),C4.rx b⟩;have a:aL gs=(aL gs).take at_++(z::(aL gs).drop (at_+1)):=by
  rw[<-W,cB ak,<-List.drop_eq_getElem_cons ak,List.take_append_drop]
 have CT:aq (∀x∈(aL gs).take at_,x<=z):=⟨fun x b=>by
  have q:=D.2;rw[a,List.pairwise_append]at q;exact q.2.2 x b z aQ⟩
 have CD:aq (∀x∈(aL gs).drop (at_+1),z<=x):=⟨fun x b=>by
  have q:=D.2;rw[a,List.pairwise_append,List.pairwise_cons]at q;exact q.2.1.1 x b⟩
 have CC:aq (CS lo j ((aL gs).take at_++(aL gs).drop (at_+1))):=⟨CS.sub D (by
  conv=>rhs;rw[a]
  exact(List.Sublist.refl _).append (List.sublist_cons_self _ _))⟩
 have lT:aq (((aL gs).take at_).length=at_):=⟨Rl⟩;generalize(aL gs).take at_=cT at*;generalize(aL gs).drop (at_+1)=cD at*;obtain⟨J,e2⟩:at_+1-at_=1/\True:=⟨ak,trivial⟩;rw[J]at r2 Y;have b1:¬((n:Int)<(at_:Int)):=ak;have b2:¬((n:Int)-(at_:Int)<1):=ak;go_enter func322,ntmps322;go_wp2_with fail;refine Y.o.mono ?_;rintro e s ⟨rfl,rfl⟩;go_wp2_with fail;refine(Ag _ A3 at_ c3 s G3.o ak).mono ?_;rintro e w2 ⟨A5,c5,rfl,o5,b5⟩;have O5:=sH o5;have B5:=sH b5;go_wp2;go_loopg[10,11,12](m+1)(fun gg v10 T _ wr=>∃(i:Nat) (X:aA) (c6:Nat),m-i<gg/\i<=m/\v10=.slice X (at_+i) c6/\T=ae aj (i:Int)/\aq (fR wr s.heap.size (fun xs=>aL xs=cT++List.replicate i z) X (at_+i) c6)/\aq (az s wr))
 .exact⟨0,A5,c5,ak,ak,rfl,rfl,⟨O5.o.imp fun _ _ _ h=>by simpa using h⟩,B5⟩
 obtain⟨i,X,c6,hg,KA,rfl,rfl,K,t⟩:=hrel;by_cases S:i<m
 .obtain⟨ai,y,rfl,d0⟩:=gT (RI.o.Z t.o t.o.size) S
  go_wp2_with fail;refine callK (sX y z wr) t fun w7 b7 M=> ?_;have O7:=sH (K.o.ar b7);obtain⟨ad,x0,x1,x2,x3,x4,x5,x6,x7,x8,x9,rfl,hQ,e0,J,e2,e3,e4,e5,e6,e7,e8,e9⟩:=(R.o.Z M.o M.o.size).bD ha;have f7:=fun o=>aI e7 o
  have f8:=fun o=>aI e8 o
  have f9:=fun o=>aI e9 o
  have h7:=M.o.size;have a1:=aU at_ n;go_wp2_with (at_builtin;refine bK (L':=fun xs=>aL xs=cT++List.replicate (i+1) z) my rfl (.tmp 78) (.tmp 80) rfl rfl ((O7.o.alloc _).alloc _) rfl [y,z,0,0,0,-1,-1,x7,x8,x9] rfl (cg _ _ _ _ _ aQ rfl) (fun xs _ _ b=>by rw[fM,b,List.append_assoc,List.replicate_succ'];rfl) ak cw ?_;intro G c8 H f l _ _;have r:=sH f;have v:aq (az s H):=⟨((M.o.alloc ak _).alloc cw _).trans l⟩;clear f l);go_roundg(m-i)
  .exact⟨i+1,G,c8,ak,ak,rfl,aT,r,v⟩
  omega
 .obtain rfl:i=m:=by omega
  have O:=sH (G4.o.Z t.o t.o.size);have h6:=t.o.size;have⟨N,u⟩:=eX (at_+i+(n-(at_+1)));have Z:N<=n+i:=ak;have K0:aq (∀cs,cs=cT++List.replicate 0 z++cD->Be lo j z at_ cs):=⟨fun cs h=>by
   simp only[List.replicate_zero,List.append_nil]at h;subst h;refine⟨CC.o,fun x b=>CT.o x ?_,fun x b=>CD.o x ?_⟩
   .rwa [List.take_append_of_le_length Xn,List.take_of_length_le Xn]at b
   .rwa [List.drop_append_of_le_length Xn,List.drop_of_length_le Xn,List.nil_append]at b⟩
  have P:aq (∀k cs,Be lo j z k cs->CS lo j cs):=⟨fun _ _ h=>h.1⟩;have K2:aq (∀m cs,cs=cT++List.replicate m z++cD->CS lo j cs):=⟨fun m cs h=>by
   subst h;rw[List.append_assoc];exact CC.o.mid PZ.o CT.o CD.o m⟩
  by_cases Q:i=0
  .have hN3:N+1=n:=by omega
   subst Q;by_cases hk:at_<N
   .go_wp2_with (at_builtin;refine cd (L':=fun xs=>aL xs=cT++List.replicate 0 z++cD) my rfl (.tmp 84) (.tmp 89) rfl rfl K.o rfl O.o (fun xs ys _ _ _ _ E q=>by rw[fM,E,q]) ak ak ?_;intro G c8 H f l;rw[<-u]at f;rw[<-u];have r:aq (fR H s.heap.size (fun xs=>Be lo j z at_ (aL xs)) G N c8):=⟨f.imp fun xs _ _ h=>K0.o _ h⟩;have v:=sH (t.o.trans l);clear f l u;obtain⟨g,rfl,_,_⟩:=r.o.form ak;obtain⟨x0,x1,x2,x3,x4,x5,x6,x7,x8,x9,_,_,J,_⟩:=r.o.o.bD hk)
    rotate_left
    .go_ret
     exact⟨N,ak,_,_,rfl,r.o.imp fun _ _ _ h=>P.o _ _ h,v.o⟩
    .clear J
     go_loopg[13](N+1)(fun gg V wr=>∃k:Nat,N-k<gg/\k<=N/\V=ae aj (k:Int)/\aq (fR wr s.heap.size (fun xs=>Be lo j z k (aL xs)) (some ⟨g,0,none⟩) N c8)/\aq (az s wr))
     .exact⟨at_,ak,ak,rfl,r,v⟩
     obtain⟨k,DH,hkN,rfl,C,BK⟩:=hrel;by_cases F:k<N
     .obtain⟨y0,y1,y2,y3,y4,y5,y6,y7,y8,y9,_,_,J,_⟩:=C.o.o.bD F
      have f1:=C.o.fz (k*10+1);have k1:=aU k N;go_wp2_with fail
      .have OS:aq (fR (wr.setCell ⟨g,k*10+1,none⟩ (ae aj z)) s.heap.size (fun xs=>Be lo j z (k+1) (aL xs)) (some ⟨g,0,none⟩) N c8):=⟨C.o.set F ak z fun xs hn hl h=>by rw[ui xs k ak hl];exact h.set PZ.o Zc⟩
       have BS:aq (az s (wr.setCell ⟨g,k*10+1,none⟩ (ae aj z))):=⟨Below.setCell BK.o (p:=⟨g,k*10+1,none⟩) C.o.lt.1 _⟩;go_roundg(N-k)
       .exact⟨k+1,ak,ak,aT,OS,BS⟩
       omega
      .go_ret
       exact⟨N,ak,_,_,rfl,C.o.imp fun _ _ _ h=>P.o _ _ h,BK.o⟩
     .go_wp2
      go_ret;exact⟨N,ak,_,_,rfl,C.o.imp fun _ _ _ h=>P.o _ _ h,BK.o⟩
   .go_wp2_with (at_builtin;refine cd (L':=fun xs=>aL xs=cT++List.replicate 0 z++cD) my rfl (.tmp 84) (.tmp 89) rfl rfl K.o rfl O.o (fun xs ys _ _ _ _ E q=>by rw[fM,E,q]) ak ak ?_;intro G c8 H f l;rw[<-u]at f;rw[<-u];have r:=sH f;have v:=sH (t.o.trans l);clear f l u)
    go_ret;exact⟨N,ak,_,_,rfl,r.o.imp fun _ _ _ h=>K2.o _ _ h,v.o⟩
  .have i0:((i:Int)==0)=false:=pI
   go_wp2_with (at_builtin;refine cd (L':=fun xs=>aL xs=cT++List.replicate i z++cD) my rfl (.tmp 84) (.tmp 89) rfl rfl K.o rfl O.o (fun xs ys _ _ _ _ E q=>by rw[fM,E,q]) ak ak ?_;intro G c8 H f l;rw[<-u]at f;rw[<-u];have r:=sH f;have v:=sH (t.o.trans l);clear f l u);go_ret;exact⟨N,Z,_,_,rfl,r.o.imp fun _ _ _ h=>K2.o _ _ h,v.o⟩
end Go.Proofs.YtklncadpkniojaaGreatDoor
