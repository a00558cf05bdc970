/- Part of LineCovers. -/
import Derived.Test.YtklncadpkniojaaGreatDoorAC
namespace Go.Proofs.YtklncadpkniojaaGreatDoor
open Go.ChangeShapes Go.WideShapes Go.ChangeAt Go.RowKit Go.Proofs.Tryz
open Go renaming World->ahh,Value->ahj,Calls->ahk,Ending->ahn,Program->aho
open Go.Value renaming int->ae
open Go.IntKind renaming i64->aj
set_option linter.all false
set_option maxRecDepth 100000
set_option maxHeartbeats 16000000
variable{P:aho}{G:Prop}
theorem ed{w0:ahh}{n:aG w0}{f:FuncId}{args:Array ahj}(h:ahk P f args n.1 (PI n.1)):ahk P f args n.1 fun e a=>∃v,e=.returned v/\SI v/\∃m:aG w0,a=m.1:=
 h.mono fun e a ⟨b,d,c⟩=>⟨_,d,⟨b,rfl⟩,⟨a,n.2.trans (c.mono n.2.size)⟩,rfl⟩
theorem abo(f:cY)(k:Lk)(Q:aC->Prop)(A:aA)(n c at_:Nat)(w:ahh)(h:bZ w w.heap.size f)(U:uU w Q A n)(hn:n<=50000)(O:at_<n):
 ahk prog 346 #[f.v,k.v,.slice A n c,ae aj (at_:Int)] w (PIn w (-1) n):=by
 have⟨H,x,p,l,C⟩:=box2 w f.row 96 k.row 161;have R:=sH (h.Z p.o p.o.size);have E:=sH (U.Z p.o p.o.size);have⟨c0,v,d,F,c4,c5⟩:=l.o.f6;have⟨X,L,d2,Y⟩:=C.o.k4;go_enter func346,ntmps346;go_wp2_with fail;rw[<-x];refine(yu f k Q A n c at_ H R.o E.o ak O).mono ?_;rintro e w1 ⟨z,rfl,o,i,D⟩;have M:=sH D;go_wp2;go_loopg[3](n+2)(fun gg v3 wr=>∃z:Int,-1<=z/\z<n/\(z+1).toNat<gg/\v3=ae aj z/\aq (az H wr))
 .exact⟨z,ak,ak,ak,rfl,M⟩
 obtain⟨z,o,i,hg,rfl,b⟩:=hrel;have B:=p.t b.o;by_cases hz:z<0
 .have hd:decide (0<=z)=false:=gW
  go_wp2;go_quiet (fail);go_wp2;go_ret;exact⟨_,rfl,o,i,aN B.o _⟩
 obtain⟨t,rfl⟩:∃t:Nat,z=(t:Int):=⟨z.toNat,ak⟩;have m:t<n:=ak;have W:=ie t;have i4:=aU t n;have⟨c0,v,d,F,c4,c5⟩:=(l.o.ar b.o l.o.lt).f6;obtain⟨N,P,x1,x2,x3,x4,x5,x6,x7,x8,x9,rfl,hQ,T,_⟩:=(E.o.Z b.o b.o.size).bD m;have S:=sH (R.o.Z b.o b.o.size);go_wp2;have⟨L0,L1,L2,L3,L4,L5,E0⟩:=lc7 c0 v d F c4 c5 T;refine aD (kF 23 SI) aF aF ?_
 repeat(refine cF aB aB aB ?_;intro K q;go_big_quiet_op;go_big_quiet_on)
 refine lsA SI (fun g=> ?_) (fun v9 s=> ?_)
 .go_simp
  exact ed (tH f P g.1 (S.o.Z g.2 g.2.size))
 obtain⟨y,rfl⟩:=s;by_cases G:y=3
 .have r:(y==3)=true:=by simp[G]
  simp[Act.put]
  repeat(refine cF aB aB aB ?_;intro K q;go_big_quiet_op;go_big_quiet_on)
  intro g;obtain⟨I,j⟩:=g;have u:=b.t j;have J:=B.t j
  try dsimp only
  have a:=u.o;have⟨c0,v,d,F,c4,c5⟩:=(l.o.ar a l.o.lt).f6;have⟨X,L,d2,Y⟩:=(C.o.ar a C.o.lt).k4;have V:=sH (yu f k Q (some N) n c t I (R.o.Z a a.size) (E.o.Z a a.size) ak m);go_wp2_with fail;refine V.o.mono ?_;rintro e w2 ⟨z,rfl,g1,g2,D⟩;have Z:=u.t D;go_wp2;go_roundg(t+1)
  .exact⟨z,ak,ak,ak,rfl,Z⟩
  omega
 .have r:(y==3)=false:=by simp[G]
  simp[Act.put]
  repeat(refine cF aB aB aB ?_;intro K q;go_big_quiet_op;go_big_quiet_on)
  intro g;obtain⟨I,j⟩:=g;have u:=b.t j;have J:=B.t j
  try dsimp only
  go_wp2;go_ret;exact⟨_,rfl,ak,ak,J.o⟩
theorem jC{ops:Array Oper}{C:ahh->Prop}{T:Option Tmp->Option (ahj->Prop)}{Q:Act->Prop}{a:Act}{o:Oper}{rest:List Oper}(b:Region.wanted o (yielded ops a.tmps)=false)(h:aq (lx P ops T C Q rest (a.put o.dst undef))):aq (lx P ops T C Q (o::rest) a):=⟨Vf b h.o⟩
theorem mSk{R:Prop}(h:R)(s:R->G:=by
 intro b;refine aq.o ?_
 repeat first
  |(refine lM aB aB aB ?_;intro c a;go_big_quiet_op;refine a _ ?_)
  |(refine jC aB ?_;simp[Act.put])
 refine⟨?_⟩;exact b):G:=s h
theorem lM{ops:Array Oper}{C:ahh->Prop}{T:Option Tmp->Option (ahj->Prop)}{Q:Act->Prop}{a:Act}{o:Oper}{rest:List Oper}(e:Region.wanted o (yielded ops a.tmps)=true)(c:T o.dst=none)(d:eU o=true)
 (h:∀K:Act->Prop,(∀a,aq (lx P ops T C Q rest a)->K a)->o.quiet P a C K):aq (lx P ops T C Q (o::rest) a):=⟨cF e c d fun K hK=>h K fun a b=>hK a b.o⟩
def hoT(d:Option Tmp):Option (ahj->Prop):=if d=some 26 then some SI else if d=some 37 then some SB else none
def PHs(w:ahh)(n:Nat)(e:ahn)(a:ahh):Prop:=∃(p:Nat) (b:Bool),e=.returned (.tuple #[ae aj (p:Int),.bool b])/\(b=true->p<n)/\az w a
theorem aeS(s:G:=by
 go_wp2_with fail
 refine BS.o.mono ?_;rintro e w6 ⟨z,rfl,gJ,eQ,yv⟩;have X':z<n:=eQ;have B6:=B5.t yv;have BM:=B1.t B6.o;by_cases hz:z<0
 .have hd:decide (0<=z)=false:=gW
  go_wp2;go_quiet (fail);have BQ:=sH (fun m=>aN BM.o m);go_wp2;go_ret2;exact⟨0,false,rfl,aQ,BQ.o _⟩
 obtain⟨t,rfl⟩:∃t:Nat,z=(t:Int):=⟨z.toNat,ak⟩;have fZ:t<n:=ak;have i5:=aU t n;have⟨c0,c1,aW,c3,c4,c5⟩:=(X1.o.ar B6.o X1.o.lt).f6;have⟨d0,d1,d2,d3⟩:=(X2.o.ar B6.o X2.o.lt).k4;dsimp only at d0 d1 d2 d3;obtain⟨ik,y0,y1,y2,y3,y4,y5,y6,y7,y8,y9,uS,hQ',f0,_,_,_,_,_,_,f7,f8,_⟩:=(GL.o.Z B6.o B6.o.size).bD fZ;obtain rfl:ad=ik:=Option.some.inj uS;have R6:=sH (R.o.Z B6.o B6.o.size);go_wp2;have⟨F0,F7,F8⟩:=lc3 f0 f7 f8;have⟨L0,L1,L2,L3,L4,L5,M0,M1⟩:=lc8 c0 c1 aW c3 c4 c5 d0 d1;have⟨M2,M3⟩:=lc2 d2 d3;refine aD (kF 58 SI) aF aF ?_;refine mSk ?_;refine lsA SI (fun nq=> ?_) (fun v9 aV=> ?_)
 .go_simp
  exact ed (tH f y0 nq.1 (R6.o.Z nq.2 nq.2.size))
 obtain⟨y,rfl⟩:=aV;by_cases hy:y=2
 .have Fp:(y==2)=true:=by simp[hy]
  simp[Act.put];refine mSk ?_;intro nq;obtain⟨w5,bq⟩:=nq;have BN:=B6.t bq;have BM:=B1.t BN.o
  try dsimp only
  go_wp2;go_ret2
  first
   |exact⟨0,false,rfl,aQ,BM.o⟩
   |exact⟨t,true,rfl,fun _=>fZ,BM.o⟩
 .have Fp:(y==2)=false:=by simp[hy]
  simp[Act.put];refine mSk ?_;intro nq;obtain⟨w5,bq⟩:=nq;have BN:=B6.t bq;have BM:=B1.t BN.o
  try dsimp only
  go_wp2;go_ret2
  first
   |exact⟨0,false,rfl,aQ,BM.o⟩
   |exact⟨t,true,rfl,fun _=>fZ,BM.o⟩):G:=s
theorem aa1(f:cY)(k:Lk)(Q:aC->Prop)(A:aA)(n c at_:Nat)(w:ahh)(h:bZ w w.heap.size f)(D:uU w Q A n)(M:n<=50000)(l:at_<n):
 ahk prog 337 #[f.v,k.v,.slice A n c,ae aj (at_:Int)] w (PHs w n):=by
 have⟨L,v,B1,X1,X2⟩:=box2 w f.row 96 k.row 161;have R:=sH (h.Z B1.o B1.o.size);have GL:=sH (D.Z B1.o B1.o.size);have U:decide (n<=at_)=false:=gW;have J:decide ((at_:Int)<0)=false:=gW;have X:=aU at_ n;have⟨c0,c1,aW,c3,c4,c5⟩:=X1.o.f6;have⟨d0,d1,d2,d3⟩:=X2.o.k4;obtain⟨ad,B,P,x2,Z,T,I,x6,V,W,Y,rfl,hQ,H,_⟩:=GL.o.bD l;have i:k.kind=9∨k.kind=10∨k.kind=11∨((k.kind==9)=false/\(k.kind==10)=false/\(k.kind==11)=false):=cw;obtain⟨r,u,st,S,p,x⟩:=k;dsimp only at i d0 d1 d2 d3;go_enter func337,ntmps337;go_wp2;rw[<-v];have K:=aE H;have⟨L0,L1,L2,L3,L4,L5,M0,M1⟩:=lc8 c0 c1 aW c3 c4 c5 d0 d1;have⟨M2,M3⟩:=lc2 d2 d3;refine aD hoT aF aF ?_;refine mSk ?_;refine lsA SI (fun nq=> ?_) (fun v9 aV=> ?_)
 .go_simp
  exact ed (tH f B nq.1 (R.o.Z nq.2 nq.2.size))
 obtain⟨y,rfl⟩:=aV;by_cases hy:y=3;rotate_left
 .have Fp:(y !=3)=true:=by simp[hy]
  simp[Act.put];refine mSk ?_;intro nq;obtain⟨w5,bq⟩:=nq;have BM:=B1.t bq
  try dsimp only
  go_wp2;go_ret2;exact⟨0,false,rfl,aQ,BM.o⟩
 have Fp:(y !=3)=false:=by simp[hy]
 simp[Act.put];refine mSk ?_;refine lsA SB (fun nq=> ?_) (fun v9 aV=> ?_)
 .go_simp
  exact bg (pH f ⟨r,u,st,S,p,x⟩ B nq.1 (R.o.Z nq.2 nq.2.size))
 obtain⟨b,rfl⟩:=aV;simp[Act.put];refine mSk ?_;intro nq;obtain⟨w5,bq⟩:=nq;have B5:=sH bq;have BM:=B1.t bq
 try dsimp only
 cases b;rotate_left
 .go_wp2
  go_ret2;exact⟨0,false,rfl,aQ,BM.o⟩
 have a:=B5.o;have⟨c0,c1,aW,c3,c4,c5⟩:=(X1.o.ar a X1.o.lt).f6;have⟨d0,d1,d2,d3⟩:=(X2.o.ar a X2.o.lt).k4;dsimp only at d0 d1 d2 d3;have BS:=sH (abo f ⟨r,u,st,S,p,x⟩ Q (some ad) n c at_ w5 (R.o.Z a a.size) (GL.o.Z a a.size) ak l);have E:=sH (yu f ⟨r,u,st,S,p,x⟩ Q (some ad) n c at_ w5 (R.o.Z a a.size) (GL.o.Z a a.size) ak l);rcases i with rfl|rfl|rfl|⟨k1,k2,k3⟩
 .exact aeS
 .exact aeS
 .go_wp2_with fail
  refine E.o.mono ?_;rintro e w6 ⟨z,rfl,gJ,eQ,yv⟩;have X':z<n:=ak;have B6:=B5.t yv;have BM:=B1.t B6.o;by_cases hz:z<0
  .have hd:decide (0<=z)=false:=gW
   go_wp2;go_quiet (fail);have BQ:=sH (fun m=>aN BM.o m);go_wp2;go_ret2;exact⟨0,false,rfl,aQ,BQ.o _⟩
  obtain⟨t,rfl⟩:∃t:Nat,z=(t:Int):=⟨z.toNat,ak⟩;have fZ:t<n:=ak;have i5:=aU t n;have⟨c0,c1,aW,c3,c4,c5⟩:=(X1.o.ar B6.o X1.o.lt).f6;have⟨d0,d1,d2,d3⟩:=(X2.o.ar B6.o X2.o.lt).k4;dsimp only at d0 d1 d2 d3;obtain⟨ik,y0,y1,y2,y3,y4,y5,y6,y7,y8,y9,uS,hQ',f0,_,_,_,_,_,_,f7,f8,_⟩:=(GL.o.Z B6.o B6.o.size).bD fZ;obtain rfl:ad=ik:=Option.some.inj uS;have R6:=sH (R.o.Z B6.o B6.o.size);go_wp2;have⟨F0,F7,F8⟩:=lc3 f0 f7 f8;have⟨L0,L1,L2,L3,L4,L5,M0,M1⟩:=lc8 c0 c1 aW c3 c4 c5 d0 d1;have⟨M2,M3⟩:=lc2 d2 d3;obtain⟨s,u0,u1,u2,u3,u4,u5,u6,u7,u8,u9,j,C,_,_,_,_,_,_,_,G,F,_⟩:=(GL.o.Z B6.o B6.o.size).bD l;obtain rfl:ad=s:=Option.some.inj j;have⟨N,O⟩:=lc2 G F;refine aD (kF 81 SI) aF aF ?_;refine mSk ?_;refine lsA SI (fun nq=> ?_) (fun v9 aV=> ?_)
  .go_simp
   exact ed (tH f y0 nq.1 (R6.o.Z nq.2 nq.2.size))
  obtain⟨y,rfl⟩:=aV;by_cases hy:y=3;rotate_left
  .have Fp:(y !=3)=true:=by simp[hy]
   simp[Act.put];refine mSk ?_;intro nq;obtain⟨w5,bq⟩:=nq;have BN:=B6.t bq;have BM:=B1.t BN.o
   try dsimp only
   go_wp2;go_ret2
   first
    |exact⟨0,false,rfl,aQ,BM.o⟩
    |exact⟨t,true,rfl,fun _=>fZ,BM.o⟩
  have Fp:(y !=3)=false:=by simp[hy]
  by_cases d:y7=u7;rotate_left
  .have o:(y7 !=u7)=true:=by simp[d]
   simp[Act.put];refine mSk ?_;intro nq;obtain⟨w5,bq⟩:=nq;have BN:=B6.t bq;have BM:=B1.t BN.o
   try dsimp only
   go_wp2;go_ret2
   first
    |exact⟨0,false,rfl,aQ,BM.o⟩
    |exact⟨t,true,rfl,fun _=>fZ,BM.o⟩
  have o:(y7 !=u7)=false:=by simp[d]
  by_cases g:y8=u8
  .have q:(y8 !=u8)=false:=by simp[g]
   simp[Act.put];refine mSk ?_;intro nq;obtain⟨w5,bq⟩:=nq;have BN:=B6.t bq;have BM:=B1.t BN.o
   try dsimp only
   go_wp2;go_ret2
   first
    |exact⟨0,false,rfl,aQ,BM.o⟩
    |exact⟨t,true,rfl,fun _=>fZ,BM.o⟩
  .have q:(y8 !=u8)=true:=by simp[g]
   simp[Act.put];refine mSk ?_;intro nq;obtain⟨w5,bq⟩:=nq;have BN:=B6.t bq;have BM:=B1.t BN.o
   try dsimp only
   go_wp2;go_ret2
   first
    |exact⟨0,false,rfl,aQ,BM.o⟩
    |exact⟨t,true,rfl,fun _=>fZ,BM.o⟩
 .go_wp2
  go_ret2;exact⟨0,false,rfl,aQ,BM.o⟩
abbrev v4(a b c d:Int):Array ahj:=#[ae aj a,ae aj b,ae aj c,ae aj d]
def TMk(v:ahj):Prop:=∃(a b c d:Int) (z:Bool),v=.tuple #[.agg (v4 a b c d),.bool z]
def PMk(w:ahh)(e:ahn)(f:ahh):Prop:=∃(a b c d:Int) (z:Bool),e=.returned (.tuple #[.agg (v4 a b c d),.bool z])/\az w f
theorem xv{w:ahh}{B n c j:Nat}{A:aA}(h:cK w B Oo A n c)(l:j<n):∃(a:Addr) (f i g d:Int),A=some a/\w.cell? (a.add (j*4))=some (ae aj f)/\w.cell? (bP (a.add (j*4)) 1)=some (ae aj i)/\w.cell? (bP (a.add (j*4)) 2)=some (ae aj g)/\w.cell? (bP (a.add (j*4)) 3)=some (ae aj d):=by
 obtain⟨a,e,_,m⟩:=h.2.2.2 ak;obtain⟨p,o,b⟩:=m j l;obtain⟨_,_,rfl,⟨f,rfl,_⟩,⟨_,_,rfl,⟨i,rfl,_⟩,⟨_,_,rfl,⟨g,rfl,_⟩,⟨d,rfl,_⟩⟩⟩⟩:=o;have k:=b 0 _ rfl;rw[ew]at k;exact⟨a,f,i,g,d,e,k,b 1 _ rfl,b 2 _ rfl,b 3 _ rfl⟩
theorem GP{w:ahh}{B n c j:Nat}{A:aA}(h:cK w B ua A n c)(k:j<n):∃(a:Addr) (b:Bool) (g f:Int),A=some a/\w.cell? (a.add (j*3))=some (.bool b)/\w.cell? (bP (a.add (j*3)) 1)=some (ae aj g)/\w.cell? (bP (a.add (j*3)) 2)=some (ae aj f):=by
 obtain⟨a,e,_,l⟩:=h.2.2.2 ak;obtain⟨o,m,d⟩:=l j k;obtain⟨_,_,rfl,⟨b,rfl⟩,⟨_,_,rfl,⟨g,rfl,_⟩,⟨f,rfl,_⟩⟩⟩:=m;have i:=d 0 _ rfl;rw[ew]at i;exact⟨a,b,g,f,e,i,d 1 _ rfl,d 2 _ rfl⟩
theorem LZ(x:Sb)(g:Int)(w:ahh)(h:nQ w w.heap.size x):ahk prog 338 #[x.v,ae aj g] w (PMk w):=by
 have⟨s,aP⟩:=eX (w.alloc (.cells x.row 170));obtain⟨b,d,j⟩:=sW h aP;have⟨u,bU⟩:=eX (s.alloc (.cells (v4 0 0 0 0) 334));have k:az s u:=jx;have hN:s.heap.size=w.heap.size+1:=oO;have v:=sH (b.trans (k.mono b.size));have r:aq (Bx u (w.heap.size+1) (v4 0 0 0 0)):=⟨Q3⟩;have A:=sH (d.ar k d.lt);have C:=sH ((j.Z k k.size).rM);rw[aP]at bU;have B:=h.rM.bd;clear h k hN aP b d j;have⟨_,_,_,_,_,_,_,_,_,_,zP,_⟩:=A.o.ns;obtain⟨f,y⟩:=r.o.heap;go_enter func338,ntmps338;go_wp2;rw[<-bU];clear bU;go_loopg[6](x.mn+1)(fun gg D wr=>∃i:Nat,x.mn-i<gg/\i<=x.mn/\D=ae aj (i:Int)/\wr=u)
 .exact⟨0,ak,ak,rfl,rfl⟩
 obtain⟨i,E,I,rfl,rfl⟩:=hrel;by_cases p:i<x.mn
 .obtain⟨J,e,o,n,m,z,G,F,L,H⟩:=xv C.o p
  rw[z]at zP;clear z;have K:(i:Int)<(x.mn:Int):=ak;by_cases l:e=g
  .have t:(e==g)=true:=by simp[l]
   clear l;have q:=r.o.row (ds:=v4 e o n m);obtain⟨c,a⟩:=q.heap;go_wp2_with (refine wpList_store_row rfl 334 (.tmp 4) (.tmp 26) rfl (w.heap.size+1) (v4 e o n m) rfl aB f _ y aF aB dJ ?_);refine bodyPost_ret (bR results338 _ _ (w.heap.size+1) c _ (0,0) _ aB a underlying334 rfl aF) rfl ?_;exact⟨e,o,n,m,true,rfl,below_setRow v.o ak _⟩
  .have t:(e==g)=false:=by simp[l]
   clear l;go_wp2;go_roundg(x.mn-i)
   .exact⟨i+1,ak,ak,aT,rfl⟩
   omega
 .have q:=r.o.row (ds:=v4 0 0 0 0)
  obtain⟨c,a⟩:=q.heap;go_wp2_with (refine wpList_store_row rfl 334 (.tmp 4) (.tmp 27) rfl (w.heap.size+1) (v4 0 0 0 0) rfl aB f _ y aF aB dJ ?_);refine bodyPost_ret (bR results338 _ _ (w.heap.size+1) c _ (0,0) _ aB a underlying334 rfl aF) rfl ?_;exact⟨0,0,0,0,false,rfl,below_setRow v.o ak _⟩
theorem Us(k:Lk)(x:Hs)(m:Int)(w:ahh)(h:HsR w w.heap.size x):ahk prog 348 #[k.v,x.v,ae aj m] w (PRd w ua):=by
 have e:aq (∀o1 g,az w ((w.alloc o1).alloc g)):=⟨fun o1 g=>(av _ _).alloc aQ _⟩;have R:=sH h;have p:=h.rS.bd;obtain⟨v,M,st,J,B,H⟩:=k;obtain⟨N,S,a,l⟩:=x;dsimp only at p⊢;by_cases y:a=0
 .subst y
  go_enter func348,ntmps348;go_wp2;go_ret;exact⟨_,_,_,rfl,cK.nil _ _ _,e.o _ _⟩
 have I:((a:Int)==0)=false:=by simp[y]
 by_cases z:v=10;rotate_left
 .have E:(v !=10)=true:=by simp[z]
  obtain⟨u,s,o,t,rfl,b,d⟩:=fi (A:=S) (n:=a) (c:=l) R.o.rS (j:=0) ak
  try rw[ew]at d
  have D:=fun o1 g=>aI (aI d o1) g
  have i:=sH b;have f:=aU 0 a;go_enter func348,ntmps348;go_wp2;go_ret;exact⟨_,_,_,rfl,i.o.Z (e.o _ _) (e.o _ _).size,e.o _ _⟩
 subst z;by_cases K:m<0
 .have C:(a:Int)-1=((a-1:Nat):Int):=by omega
  have G:((a-1:Nat):Int)<(a:Int):=ak;obtain⟨u,s,o,t,rfl,b,d⟩:=fi (A:=S) (n:=a) (c:=l) R.o.rS (j:=a-1) ak
  try rw[ew]at d
  have D:=fun o1 g=>aI (aI d o1) g
  have i:=sH b;have f:=aU 0 a;go_enter func348,ntmps348;go_wp2;go_ret;exact⟨_,_,_,rfl,i.o.Z (e.o _ _) (e.o _ _).size,e.o _ _⟩
 obtain⟨q,rfl⟩:∃q:Nat,m=(q:Int):=⟨m.toNat,ak⟩;by_cases L:q<a
 .have r:¬(a:Int)<=(q:Int):=by omega
  have F:=aU q a;obtain⟨u,s,o,t,rfl,b,d⟩:=fi (A:=S) (n:=a) (c:=l) R.o.rS (j:=q) ak
  try rw[ew]at d
  have D:=fun o1 g=>aI (aI d o1) g
  have i:=sH b;have f:=aU 0 a;go_enter func348,ntmps348;go_wp2;go_ret;exact⟨_,_,_,rfl,i.o.Z (e.o _ _) (e.o _ _).size,e.o _ _⟩
 .have r:(a:Int)<=(q:Int):=by omega
  have C:(a:Int)-1=((a-1:Nat):Int):=ak;have G:((a-1:Nat):Int)<(a:Int):=ak;obtain⟨u,s,o,t,rfl,b,d⟩:=fi (A:=S) (n:=a) (c:=l) R.o.rS (j:=a-1) ak
  try rw[ew]at d
  have D:=fun o1 g=>aI (aI d o1) g
  have i:=sH b;have f:=aU 0 a;go_enter func348,ntmps348;go_wp2;go_ret;exact⟨_,_,_,rfl,i.o.Z (e.o _ _) (e.o _ _).size,e.o _ _⟩
abbrev v2(a b:Int):Array ahj:=#[ae aj a,ae aj b]
def TAn(v:ahj):Prop:=∃(a b:Int) (z:Bool),v=.tuple #[.agg (v2 a b),.bool z]
def PAn(w:ahh)(e:ahn)(c:ahh):Prop:=∃(a b:Int) (z:Bool),e=.returned (.tuple #[.agg (v2 a b),.bool z])/\az w c
theorem aeG(s:G:=by
 have X9:=X7.o.row (ds:=v2 0 0)
 obtain⟨fJ,dr⟩:=X9.heap;go_wp2_with (refine wpList_store_row rfl 329 (.tmp 10) (.tmp 67) rfl (w.heap.size+1) (v2 0 0) rfl aB eD _ hX aF aB dJ ?_);refine bodyPost_ret (bR results339 _ _ (w.heap.size+1) fJ _ (0,0) _ aB dr underlying329 rfl aF) rfl ?_;exact⟨0,0,false,rfl,below_setRow BM.o ak _⟩):G:=s
theorem Ap(k:Lk)(sub:Nat)(v t cp:Int)(w:ahh)(h:mA w w.heap.size k)(X:sub<k.sn):ahk prog 339 #[k.v,ae aj (sub:Int),ae aj v,ae aj t,ae aj cp] w (PAn w):=by
 obtain⟨M,R,st,S,g,z⟩:=k;dsimp only at X;obtain⟨J,x,rfl,F,e0,e1,e2,e3,e4,e5,e6,e7,e8,e9,E,p⟩:=jk (A:=S) (n:=g) (c:=z) h.rS X;have L:=h.rS.bd;dsimp only at L;have o:=sH F.rH;have hhn:=F.rH.bd;generalize x.H=HA at*;generalize x.hn=j at*;generalize x.hc=hc at*;have G:=fun o1 o2=>aI (aI p o1) o2
 clear h F e0 e1 e2 e3 e4 e5 e6 e7 e8 e9 E p;have⟨r,bU⟩:=eX ((w.alloc (.cells (Lk.row ⟨M,R,st,some J,g,z⟩) 161)).alloc (.cells (v2 0 0) 329));have u:az w r:=Zd;have B2:=sH u;have s:aq (Bx r (w.heap.size+1) (v2 0 0)):=⟨by rw[bU];exact Bx.gY _ _ _ (by simp)⟩;have V:aq (Bx r w.heap.size (Lk.row ⟨M,R,st,some J,g,z⟩)):=⟨by rw[bU];exact(Bx.new _ _ _).ar ((Below.refl (w.heap.size+1) _).alloc (by simp) _) (by simp)⟩;have RH:=sH (o.o.Z u u.size);have Fj:r.heap.size=w.heap.size+2:=by rw[bU];simp
 have i0:decide ((sub:Int)<0)=false:=gW;have i1:¬(g:Int)<=(sub:Int):=ak;have i2:=aU sub g;clear u o;go_enter func339,ntmps339;go_wp2;rw[<-bU];clear bU i1 i2 i0 G;go_loopg[13,14](j+1)(fun gg K _ wr=>∃i:Nat,j-i<gg/\i<=j/\K=ae aj (i:Int)/\aq (az r wr))
 .exact⟨0,ak,ak,rfl,cA⟩
 obtain⟨i,hg,hi,rfl,a⟩:=hrel;have BW:=B2.t a.o;have O:=s.o.ar a.o s.o.lt;obtain⟨eD,hX⟩:=O.heap;by_cases I:i<j;rotate_left
 .go_wp2_with (refine wpList_store_row rfl 329 (.tmp 10) (.tmp 73) rfl (w.heap.size+1) (v2 0 0) rfl aB eD _ hX aF aB dJ ?_;have X9:=O.row (ds:=v2 0 0))
  obtain⟨fJ,dr⟩:=X9.heap;refine bodyPost_ret (bR results339 _ _ (w.heap.size+1) fJ _ (0,0) _ aB dr underlying329 rfl aF) rfl ?_;exact⟨0,0,false,rfl,below_setRow BW.o ak _⟩
 obtain⟨adh,y,rfl,Y,W,g1⟩:=Qb (RH.o.Z a.o a.o.size) I;have HY:=sH Y;have i4:=aU i j;clear Y;by_cases h1:y.gl=v;rotate_left
 .have T:(y.gl !=v)=true:=by simp[h1]
  clear h1;go_wp2;go_roundg(j-i)
  .exact⟨i+1,ak,ak,aT,a⟩
  omega
 have T:(y.gl !=v)=false:=nd;have⟨P,B,U,Q⟩:=(V.o.ar a.o V.o.lt).k4;dsimp only at P B U Q;clear h1;go_wp2;have⟨M0,M1,M2,M3,G0,G1⟩:=lc6 P B U Q W g1;clear P B U Q W g1 O hX;refine ba (iZ 50 (Se ua)) aF aF ?_;refine mLw ?_;refine lwA (Se ua) (fun f=> ?_) (fun v9 C=> ?_)
 .go_simp
  refine aX (Se ua) ((Us ⟨M,R,st,some J,g,z⟩ y cp f.1 (HY.o.Z f.2 f.2.size)).mono ?_);rintro e w5 ⟨Z,l,c5,rfl,h5,hb⟩;exact⟨_,rfl,⟨Z,l,c5,rfl,h5⟩,hb⟩
 obtain⟨_,_,Z,l,c5,rfl,m⟩:=C;have hm5:=m.bd;clear m;simp[Act.put];refine mLw ?_;intro f hE;have RL:=sH (Se.get hE);have BM:=BW.t f.2;have X7:=sH (s.o.ar (a.o.trans (f.2.mono a.o.size)) s.o.lt);have⟨w3,d⟩:=eX f.1;rw[<-d]at BM RL X7
 try dsimp only
 rw[<-d];clear d hE M0 M1 M2 M3 G0 G1;obtain⟨eD,hX⟩:=X7.o.heap;by_cases oH:t<0
 .exact aeG
 obtain⟨q,rfl⟩:∃q:Nat,t=(q:Int):=⟨t.toNat,ak⟩;by_cases hq:q<l;rotate_left
 .have N:(l:Int)<=(q:Int):=by omega
  have X9:=X7.o.row (ds:=v2 0 0);obtain⟨fJ,dr⟩:=X9.heap;go_wp2_with (refine wpList_store_row rfl 329 (.tmp 10) (.tmp 67) rfl (w.heap.size+1) (v2 0 0) rfl aB eD _ hX aF aB dJ ?_);refine bodyPost_ret (bR results339 _ _ (w.heap.size+1) fJ _ (0,0) _ aB dr underlying329 rfl aF) rfl ?_;exact⟨0,0,false,rfl,below_setRow BM.o ak _⟩
 have N:¬(l:Int)<=(q:Int):=ak;have Ce:=aU q l;obtain⟨ads,b,H,D,rfl,t0,t1,t2⟩:=GP RL.o hq;cases b
 .exact aeG
 .have X9:=X7.o.row (ds:=v2 H D)
  obtain⟨fJ,dr⟩:=X9.heap;go_wp2_with (refine wpList_store_row rfl 329 (.tmp 10) (.tmp 72) rfl (w.heap.size+1) (v2 H D) rfl aB eD _ hX aF aB dJ ?_);refine bodyPost_ret (bR results339 _ _ (w.heap.size+1) fJ _ (0,0) _ aB dr underlying329 rfl aF) rfl ?_;exact⟨H,D,true,rfl,below_setRow BM.o ak _⟩
theorem qE:∀v:ahj,Kx.kd v=0->∃z,v=ae aj z:=fun v a=>by
 unfold Kx.kd at a;split at a
 .exact⟨_,rfl⟩
 .cases a
 .cases a
theorem XU{cs:Array ahj}(h:cs.toList.map Kx.kd=[0,0]):∃a b:Int,cs=v2 a b:=by
 have⟨l,hl⟩:=eY cs.toList;rw[hl]at h;rcases l with _|⟨u,_|⟨v,_|⟨y,l⟩⟩⟩<;>simp at h
 obtain⟨a,rfl⟩:=qE _ h.1;obtain⟨b,rfl⟩:=qE _ h.2;exact⟨a,b,Xb⟩
theorem Yl{cs:Array ahj}(h:cs.toList.map Kx.kd=[0,0,0,0]):∃a b c d:Int,cs=v4 a b c d:=by
 have⟨l,hl⟩:=eY cs.toList;rw[hl]at h;rcases l with _|⟨u,_|⟨v,_|⟨x,_|⟨y,_|⟨z,l⟩⟩⟩⟩⟩<;>simp at h
 obtain⟨a,rfl⟩:=qE _ h.1;obtain⟨b,rfl⟩:=qE _ h.2.1;obtain⟨c,rfl⟩:=qE _ h.2.2.1;obtain⟨d,rfl⟩:=qE _ h.2.2.2;exact⟨a,b,c,d,Xb⟩
def PRs(w:ahh)(B:Nat)(Q:List aC->Prop)(n:Nat)(e:ahn)(a:ahh):Prop:=∃(A:aA) (m c:Nat) (b:Bool),e=.returned (.tuple #[.slice A m c,.bool b])/\(b=true->m=n/\fR a B Q A m c)/\az w a
theorem aeI(s:G:=by
 go_wp2
 go_quiet (fail);generalize dZ:w2.drewN _=w3;have B3:aq (az W1 w3):=⟨aez⟩;have b3:az w2 w3:=aek;have G0:=au E0.o b3;have H0:=au F0.o b3;have G0s:=sH G0;have H0s:=sH H0
 try clear k1
 try clear k2
 go_wp2;go_loopg[13,14,15,16,17,18](sn+1)(fun gg ko _ _ _ _ _ wr=>∃i:Nat,sn-i<gg/\i<=sn/\ko=ae aj (i:Int)/\aq (az w3 wr))
 .exact⟨0,ak,ak,rfl,cA⟩
 obtain⟨i,hg,Sk,rfl,BE⟩:=hrel;have BF:=B3.t BE.o;have BW:=B1.t BF.o;have⟨d0,d1,d2,d3⟩:=(X2.o.ar BF.o X2.o.lt).k4;dsimp only at d0 d1 d2 d3;by_cases aK:i<sn;rotate_left
 .go_wp2
  go_ret2;exact⟨none,0,0,false,rfl,aQ,BW.o⟩
 obtain⟨vm,x,rfl,hx,e0,e1,e2,e3,e4,e5,e6,e7,e8,e9,sr,su⟩:=jk (A:=S) (n:=sn) (c:=sc) (RK.o.rS.Z BF.o BF.o.size) aK;have HX:=sH hx;have i5:=aU i sn;have g0:=au G0s.o BE.o;have D0s:=sH (And.intro d0 (And.intro d1 (And.intro d2 d3)));go_wp2;have⟨M0,M1,M2,M3,LG,E0,E1,E2⟩:=lc8 d0 d1 d2 d3 g0 e0 e1 e2;have⟨E3,E4,E5,E6,E7⟩:=lc5 e3 e4 e5 e6 e7;have⟨E8,E9,E10,E11⟩:=lc4 e8 e9 sr su;refine Kx.ba (fun d=>if d=some 71 then some (Kx.ZP TMk)else if d=some 14 then some (Kx.ZK wr.heap.size [0,0,0,0])else none) (fun d=>d==some 71||d==some 14) (fun d hd=>vu) aF aF aF ?_;refine mKx ?_;refine kxA (Kx.ZP TMk) (fun nq=> ?_) (fun v9 aV=> ?_)
 .go_simp
  refine Kx.aX (Kx.ZP TMk) ((LZ x x0 nq.1 (HX.o.Z nq.2 nq.2.size)).mono ?_);rintro e w5 ⟨ma,mb,mc,md,z,rfl,hb⟩;exact⟨_,rfl,⟨ma,mb,mc,md,z,rfl⟩,hb⟩
 obtain⟨_,_,ma,mb,mc,md,b,rfl⟩:=aV;simp[Act.put];refine mKx ?_;refine kxA (Kx.ZK wr.heap.size [0,0,0,0]) (fun nq=> ?_) (fun v9 aV=> ?_)
 .go_simp
  exact Kx.jU nq _ _ _ rfl aQ
 obtain⟨_,_,g4,rfl,YO,_⟩:=aV;simp[Act.put];refine Kx.dP aB aB (fun w9 dv qP=> ?_) ?_
 .obtain⟨nq,rfl⟩:=dv
  exact Kx.dQ 334 (.tmp 14) (.tmp 72) rfl g4 (v4 ma mb mc md) rfl rfl (Kx.ZK.get qP.2) aF dJ YO
 simp[Act.put];refine mKx ?_;intro nq hE;obtain⟨cs,hX,oR⟩:=Kx.ZK.get hE.2;obtain⟨q1,q2,q3,q4,rfl⟩:=Yl oR;have TG:=sH hX;have B5:=BE.t nq.2;have h0:=au H0s.o B5.o;have m0:=M0 nq;have m1:=M1 nq;have m2:=M2 nq;have m3:=M3 nq;have⟨w5,sZ⟩:=eX nq.1;rw[<-sZ]at TG B5 h0 m0 m1 m2 m3
 try dsimp only
 rw[<-sZ];clear sZ;cases b
 .go_wp2
  go_roundg(sn-i)
  .exact⟨i+1,ak,ak,aT,B5⟩
  omega
 have BF5:=B3.t B5.o;have c1:=TG.o.cell 1;simp at c1;have RK5:=sH (RK.o.Z BF5.o BF5.o.size);go_wp2;have⟨M0,M1,M2,M3,LH,LC⟩:=lc6 m0 m1 m2 m3 h0 c1;refine Kx.ba (fun d=>if d=some 87 then some (Kx.ZP TAn)else if d=some 16 then some (Kx.ZK w5.heap.size [0,0])else none) (fun d=>d==some 87||d==some 16) (fun d hd=>vu) aF aF aF ?_;refine mKx ?_;refine kxA (Kx.ZP TAn) (fun nq=> ?_) (fun v9 aV=> ?_)
 .go_simp
  refine Kx.aX (Kx.ZP TAn) ((Ap ⟨kk,fl,st,some vm,sn,sc⟩ i y0 q2 (-1) nq.1 (RK5.o.Z nq.2 nq.2.size) aK).mono ?_);rintro e w5 ⟨ma,mb,z,rfl,hb⟩;exact⟨_,rfl,⟨ma,mb,z,rfl⟩,hb⟩
 obtain⟨_,_,aa,ab,b,rfl⟩:=aV;simp[Act.put];refine mKx ?_;refine kxA (Kx.ZK w5.heap.size [0,0]) (fun nq=> ?_) (fun v9 aV=> ?_)
 .go_simp
  exact Kx.jU nq _ _ _ rfl aQ
 obtain⟨_,_,g6,rfl,hg6,_⟩:=aV;simp[Act.put];refine Kx.dP aB aB (fun w9 dv qP=> ?_) ?_
 .obtain⟨nq,rfl⟩:=dv
  exact Kx.dQ 329 (.tmp 16) (.tmp 88) rfl g6 (v2 aa ab) rfl rfl (Kx.ZK.get qP.2) aF dJ hg6
 simp[Act.put];refine mKx ?_;intro nq hE;obtain⟨cs,hX,oR⟩:=Kx.ZK.get hE.2;obtain⟨r1,r2,rfl⟩:=XU oR;have Cc:=sH hX;have qg:=sH (TG.o.ar nq.2 TG.o.lt);have B6:=B5.t nq.2;have Uf:=BF5.t nq.2;have⟨w6,gV⟩:=eX nq.1;rw[<-gV]at Cc qg B6 Uf
 try dsimp only
 rw[<-gV];clear gV;cases b
 .go_wp2
  go_roundg(sn-i)
  .exact⟨i+1,ak,ak,aT,B6⟩
  omega
 have zo:=B1.t Uf.o;have GL6:=sH (GL.o.Z Uf.o Uf.o.size);have h14:=qg.o.lt;have h16:=Cc.o.lt;have Si:=zo.o.size;have FX:aq (∀(A7:aA) (c7:Nat) (w7:ahh),fR w7 w6.heap.size (bk lo hi) A7 (0+n) c7->az w6 w7->∃(g7:Nat) (z0 z1 z2 z3 z4 z5 z6 z7 z8 z9:Int),A7=some ⟨g7,0,none⟩/\w6.heap.size<=g7/\aq (fR w7 w6.heap.size (bk lo hi) (some ⟨g7,0,none⟩) n c7)/\aq (az w w7)/\
  w7.cell? ⟨g7,at_*10+2,none⟩=some (ae aj z2)/\w7.cell? ⟨g7,at_*10+3,none⟩=some (ae aj z3)/\w7.cell? ⟨g7,at_*10+4,none⟩=some (ae aj z4)/\w7.cell? ⟨g7,at_*10+5,none⟩=some (ae aj z5)/\w7.cell? ⟨g7,at_*10+6,none⟩=some (ae aj z6)/\
  w7.frozen? ⟨g7,at_*10+2,none⟩=false/\w7.frozen? ⟨g7,at_*10+3,none⟩=false/\w7.frozen? ⟨g7,at_*10+4,none⟩=false/\w7.frozen? ⟨g7,at_*10+5,none⟩=false/\w7.frozen? ⟨g7,at_*10+6,none⟩=false/\
  w7.cell? ⟨g4,2,none⟩=some (ae aj q3)/\w7.cell? ⟨g4,3,none⟩=some (ae aj q4)/\w7.cell? ⟨g6,0,none⟩=some (ae aj r1)/\w7.cell? ⟨g6,1,none⟩=some (ae aj r2)/\(¬g4=g7)/\(¬g6=g7)):=⟨fun A7 c7 w7 o7 b7=>by
  rw[Nat.zero_add]at o7;obtain⟨g7,rfl,AO,Pa⟩:=o7.form ak;obtain⟨z0,z1,z2,z3,z4,z5,z6,z7,z8,z9,_,s0,s1,s2,s3,s4,s5,s6,s7,s8,s9⟩:=o7.iX.bD ha;exact⟨g7,z0,z1,z2,z3,z4,z5,z6,z7,z8,z9,rfl,AO,⟨o7⟩,⟨zo.o.trans (b7.mono Si)⟩,s2,s3,s4,s5,s6,o7.fz _,o7.fz _,o7.fz _,o7.fz _,o7.fz _,(qg.o.ar b7 qg.o.lt).cell 2,(qg.o.ar b7 qg.o.lt).cell 3,(Cc.o.ar b7 Cc.o.lt).cell 0,(Cc.o.ar b7 Cc.o.lt).cell 1,ak,ak⟩⟩
 go_wp2_with (at_builtin;refine cd (L':=bk lo hi) my rfl (.tmp 92) (.tmp 93) rfl rfl (OL.nil (L:=fun xs=>xs=[]) w6 w6.heap.size _ _ rfl) rfl GL6.o (fun xs ys _ _ _ _ h1 h2=>Kj) ak bW ?_;intro A7 c7 w7 o7 b7;obtain⟨g7,z0,z1,z2,z3,z4,z5,z6,z7,z8,z9,rfl,AO,O7,BV7,s2,s3,s4,s5,s6,fz2,fz3,fz4,fz5,fz6,u2,u3,t0,t1,agn,agi⟩:=FX.o A7 c7 w7 o7 b7;clear o7 b7);have OF:∀a b c d e:Int,fR (((((w7.setCell ⟨g7,at_*10+2,none⟩ (ae aj a)).setCell ⟨g7,at_*10+3,none⟩ (ae aj b)).setCell ⟨g7,at_*10+4,none⟩ (ae aj c)).setCell ⟨g7,at_*10+5,none⟩ (ae aj d)).setCell ⟨g7,at_*10+6,none⟩ (ae aj e)) w.heap.size (bk lo hi) (some ⟨g7,0,none⟩) n c7:=fun a b c d e=>
  (((((O7.o.cJ Si).iS ha (q:=2) ak ak a).iS ha (q:=3) ak ak b).iS ha (q:=4) ak ak c).iS ha (q:=5) ak ak d).iS ha (q:=6) ak ak e
 have hB:w.heap.size<=g7:=ak;have BF9:∀a b c d e:Int,az w (((((w7.setCell ⟨g7,at_*10+2,none⟩ (ae aj a)).setCell ⟨g7,at_*10+3,none⟩ (ae aj b)).setCell ⟨g7,at_*10+4,none⟩ (ae aj c)).setCell ⟨g7,at_*10+5,none⟩ (ae aj d)).setCell ⟨g7,at_*10+6,none⟩ (ae aj e)):=fun a b c d e=>
  Below.setCell (Below.setCell (Below.setCell (Below.setCell (Below.setCell BV7.o (p:=⟨g7,at_*10+2,none⟩) hB _) (p:=⟨g7,at_*10+3,none⟩) hB _) (p:=⟨g7,at_*10+4,none⟩) hB _) (p:=⟨g7,at_*10+5,none⟩) hB _) (p:=⟨g7,at_*10+6,none⟩) hB _
 go_ret2;exact⟨_,n,c7,true,rfl,fun _=>⟨rfl,OF _ _ _ _ _⟩,BF9 _ _ _ _ _⟩):G:=s
theorem VX(f:cY)(k:Lk)(lo hi:Int)(A:aA)(n c at_:Nat)(w:ahh)(h:bZ w w.heap.size f)(y:mA w w.heap.size k)(D:kT w (bk lo hi) A n)(I:n<=50000)(ha:at_<n):
 ahk prog 313 #[f.v,k.v,.slice A n c,ae aj (at_:Int)] w (PRs w w.heap.size (bk lo hi) n):=by
 have⟨W1,j,B1,V,X2⟩:=box2 w f.row 96 k.row 161;have R:=sH (h.Z B1.o B1.o.size);have RK:=sH (y.Z B1.o B1.o.size);have GL:=sH (D.Z B1.o B1.o.size);have v:=y.rS.bd;have Q:=aU at_ n;obtain⟨kk,fl,st,S,sn,sc⟩:=k;dsimp only at v;go_enter func313,ntmps313;go_wp2_with fail;rw[<-j];clear j;refine(aa1 f ⟨kk,fl,st,S,sn,sc⟩ (Fq lo hi) A n c at_ W1 R.o GL.o.iX ak ha).mono ?_;rintro e w2 ⟨p,b,rfl,E,hb⟩;have B2:=sH hb;have l:=B1.t hb;cases b
 .go_wp2
  go_ret2;exact⟨none,0,0,false,rfl,aQ,l.o⟩
 have r:=E rfl;have i4:=aU p n;obtain⟨C,x0,K,Y,W,N,G,Z,g,F,T,rfl,hQ,e0,_,_,_,_,_,_,e7,e8,_⟩:=(GL.o.Z B2.o B2.o.size).iX.bD ha;obtain⟨m,y0,y1,y2,O,J,U,M,u,P,X,s,B,f0,_,_,_,_,_,_,f7,_⟩:=(GL.o.Z B2.o B2.o.size).iX.bD r;obtain rfl:C=m:=Option.some.inj s;have E0:=sH e0;have F0:=sH f0;have main:∃H:Int,True:=⟨0,trivial⟩;have o:((g !=0)=false)∨((g !=0)=true/\(g==u)=false)∨((g !=0)=true/\(g==u)=true):=by
  by_cases h:g=0
  .exact .inl (by simp[h])
  .by_cases h2:g=u
   .exact .inr (.inr ⟨by simp[h],by simp[h2]⟩)
   .exact .inr (.inl ⟨by simp[h],by simp[h2]⟩)
 rcases o with k1|⟨k1,k2⟩|⟨k1,k2⟩
 .exact aeI
 .exact aeI
 .go_wp2
  go_quiet (fail);go_wp2_with fail;generalize dZ:w2.drewN _=w3;have B3:aq (az W1 w3):=⟨aez⟩;have b3:az w2 w3:=aek;have G0:=au E0.o b3;have H0:=au F0.o b3;have G0s:=sH G0;have H0s:=sH H0
  try clear k1
  try clear k2
  go_wp2;go_loopg[13,14,15,16,17,18](sn+1)(fun gg ko _ _ _ _ _ wr=>∃i:Nat,sn-i<gg/\i<=sn/\ko=ae aj (i:Int)/\aq (az w3 wr))
  .exact⟨0,ak,ak,rfl,cA⟩
  obtain⟨i,hg,Sk,rfl,BE⟩:=hrel;have BF:=B3.t BE.o;have BW:=B1.t BF.o;have⟨d0,d1,d2,d3⟩:=(X2.o.ar BF.o X2.o.lt).k4;dsimp only at d0 d1 d2 d3;by_cases aK:i<sn;rotate_left
  .go_wp2
   go_ret2;exact⟨none,0,0,false,rfl,aQ,BW.o⟩
  obtain⟨vm,x,rfl,hx,e0,e1,e2,e3,e4,e5,e6,e7,e8,e9,sr,su⟩:=jk (A:=S) (n:=sn) (c:=sc) (RK.o.rS.Z BF.o BF.o.size) aK;have HX:=sH hx;have i5:=aU i sn;have g0:=au G0s.o BE.o;have D0s:=sH (And.intro d0 (And.intro d1 (And.intro d2 d3)));go_wp2;have⟨M0,M1,M2,M3,LG,E0,E1,E2⟩:=lc8 d0 d1 d2 d3 g0 e0 e1 e2;have⟨E3,E4,E5,E6,E7⟩:=lc5 e3 e4 e5 e6 e7;have⟨E8,E9,E10,E11⟩:=lc4 e8 e9 sr su;refine Kx.ba (fun d=>if d=some 71 then some (Kx.ZP TMk)else if d=some 14 then some (Kx.ZK wr.heap.size [0,0,0,0])else none) (fun d=>d==some 71||d==some 14) (fun d hd=>vu) aF aF aF ?_;refine mKx ?_;refine kxA (Kx.ZP TMk) (fun nq=> ?_) (fun v9 aV=> ?_)
  .go_simp
   refine Kx.aX (Kx.ZP TMk) ((LZ x x0 nq.1 (HX.o.Z nq.2 nq.2.size)).mono ?_);rintro e w5 ⟨ma,mb,mc,md,z,rfl,hb⟩;exact⟨_,rfl,⟨ma,mb,mc,md,z,rfl⟩,hb⟩
  obtain⟨_,_,ma,mb,mc,md,b,rfl⟩:=aV;simp[Act.put];refine mKx ?_;refine kxA (Kx.ZK wr.heap.size [0,0,0,0]) (fun nq=> ?_) (fun v9 aV=> ?_)
  .go_simp
   exact Kx.jU nq _ _ _ rfl aQ
  obtain⟨_,_,g4,rfl,YO,_⟩:=aV;simp[Act.put];refine Kx.dP aB aB (fun w9 dv qP=> ?_) ?_
  .obtain⟨nq,rfl⟩:=dv
   exact Kx.dQ 334 (.tmp 14) (.tmp 72) rfl g4 (v4 ma mb mc md) rfl rfl (Kx.ZK.get qP.2) aF dJ YO
  simp[Act.put];refine mKx ?_;intro nq hE;obtain⟨cs,hX,oR⟩:=Kx.ZK.get hE.2;obtain⟨q1,q2,q3,q4,rfl⟩:=Yl oR;have TG:=sH hX;have B5:=BE.t nq.2;have h0:=au H0s.o B5.o;have m0:=M0 nq;have m1:=M1 nq;have m2:=M2 nq;have m3:=M3 nq;have⟨w5,sZ⟩:=eX nq.1;rw[<-sZ]at TG B5 h0 m0 m1 m2 m3
  try dsimp only
  rw[<-sZ];clear sZ;cases b
  .go_wp2
   go_roundg(sn-i)
   .exact⟨i+1,ak,ak,aT,B5⟩
   omega
  have BF5:=B3.t B5.o;have c1:=TG.o.cell 1;simp at c1;have RK5:=sH (RK.o.Z BF5.o BF5.o.size);go_wp2;have⟨M0,M1,M2,M3,LH,LC⟩:=lc6 m0 m1 m2 m3 h0 c1;refine Kx.ba (fun d=>if d=some 87 then some (Kx.ZP TAn)else if d=some 16 then some (Kx.ZK w5.heap.size [0,0])else none) (fun d=>d==some 87||d==some 16) (fun d hd=>vu) aF aF aF ?_;refine mKx ?_;refine kxA (Kx.ZP TAn) (fun nq=> ?_) (fun v9 aV=> ?_)
  .go_simp
   refine Kx.aX (Kx.ZP TAn) ((Ap ⟨kk,fl,st,some vm,sn,sc⟩ i y0 q2 F nq.1 (RK5.o.Z nq.2 nq.2.size) aK).mono ?_);rintro e w5 ⟨ma,mb,z,rfl,hb⟩;exact⟨_,rfl,⟨ma,mb,z,rfl⟩,hb⟩
  obtain⟨_,_,aa,ab,b,rfl⟩:=aV;simp[Act.put];refine mKx ?_;refine kxA (Kx.ZK w5.heap.size [0,0]) (fun nq=> ?_) (fun v9 aV=> ?_)
  .go_simp
   exact Kx.jU nq _ _ _ rfl aQ
  obtain⟨_,_,g6,rfl,hg6,_⟩:=aV;simp[Act.put];refine Kx.dP aB aB (fun w9 dv qP=> ?_) ?_
  .obtain⟨nq,rfl⟩:=dv
   exact Kx.dQ 329 (.tmp 16) (.tmp 88) rfl g6 (v2 aa ab) rfl rfl (Kx.ZK.get qP.2) aF dJ hg6
  simp[Act.put];refine mKx ?_;intro nq hE;obtain⟨cs,hX,oR⟩:=Kx.ZK.get hE.2;obtain⟨r1,r2,rfl⟩:=XU oR;have Cc:=sH hX;have qg:=sH (TG.o.ar nq.2 TG.o.lt);have B6:=B5.t nq.2;have Uf:=BF5.t nq.2;have⟨w6,gV⟩:=eX nq.1;rw[<-gV]at Cc qg B6 Uf
  try dsimp only
  rw[<-gV];clear gV;cases b
  .go_wp2
   go_roundg(sn-i)
   .exact⟨i+1,ak,ak,aT,B6⟩
   omega
  have zo:=B1.t Uf.o;have GL6:=sH (GL.o.Z Uf.o Uf.o.size);have h14:=qg.o.lt;have h16:=Cc.o.lt;have Si:=zo.o.size;have FX:aq (∀(A7:aA) (c7:Nat) (w7:ahh),fR w7 w6.heap.size (bk lo hi) A7 (0+n) c7->az w6 w7->∃(g7:Nat) (z0 z1 z2 z3 z4 z5 z6 z7 z8 z9:Int),A7=some ⟨g7,0,none⟩/\w6.heap.size<=g7/\aq (fR w7 w6.heap.size (bk lo hi) (some ⟨g7,0,none⟩) n c7)/\aq (az w w7)/\
   w7.cell? ⟨g7,at_*10+2,none⟩=some (ae aj z2)/\w7.cell? ⟨g7,at_*10+3,none⟩=some (ae aj z3)/\w7.cell? ⟨g7,at_*10+4,none⟩=some (ae aj z4)/\w7.cell? ⟨g7,at_*10+5,none⟩=some (ae aj z5)/\w7.cell? ⟨g7,at_*10+6,none⟩=some (ae aj z6)/\
   w7.frozen? ⟨g7,at_*10+2,none⟩=false/\w7.frozen? ⟨g7,at_*10+3,none⟩=false/\w7.frozen? ⟨g7,at_*10+4,none⟩=false/\w7.frozen? ⟨g7,at_*10+5,none⟩=false/\w7.frozen? ⟨g7,at_*10+6,none⟩=false/\
   w7.cell? ⟨g4,2,none⟩=some (ae aj q3)/\w7.cell? ⟨g4,3,none⟩=some (ae aj q4)/\w7.cell? ⟨g6,0,none⟩=some (ae aj r1)/\w7.cell? ⟨g6,1,none⟩=some (ae aj r2)/\(¬g4=g7)/\(¬g6=g7)):=⟨fun A7 c7 w7 o7 b7=>by
   rw[Nat.zero_add]at o7;obtain⟨g7,rfl,AO,Pa⟩:=o7.form ak;obtain⟨z0,z1,z2,z3,z4,z5,z6,z7,z8,z9,_,s0,s1,s2,s3,s4,s5,s6,s7,s8,s9⟩:=o7.iX.bD ha;exact⟨g7,z0,z1,z2,z3,z4,z5,z6,z7,z8,z9,rfl,AO,⟨o7⟩,⟨zo.o.trans (b7.mono Si)⟩,s2,s3,s4,s5,s6,o7.fz _,o7.fz _,o7.fz _,o7.fz _,o7.fz _,(qg.o.ar b7 qg.o.lt).cell 2,(qg.o.ar b7 qg.o.lt).cell 3,(Cc.o.ar b7 Cc.o.lt).cell 0,(Cc.o.ar b7 Cc.o.lt).cell 1,ak,ak⟩⟩
  go_wp2_with (at_builtin;refine cd (L':=bk lo hi) my rfl (.tmp 92) (.tmp 93) rfl rfl (OL.nil (L:=fun xs=>xs=[]) w6 w6.heap.size _ _ rfl) rfl GL6.o (fun xs ys _ _ _ _ h1 h2=>Kj) ak bW ?_;intro A7 c7 w7 o7 b7;obtain⟨g7,z0,z1,z2,z3,z4,z5,z6,z7,z8,z9,rfl,AO,O7,BV7,s2,s3,s4,s5,s6,fz2,fz3,fz4,fz5,fz6,u2,u3,t0,t1,agn,agi⟩:=FX.o A7 c7 w7 o7 b7;clear o7 b7);have OF:∀a b c d e:Int,fR (((((w7.setCell ⟨g7,at_*10+2,none⟩ (ae aj a)).setCell ⟨g7,at_*10+3,none⟩ (ae aj b)).setCell ⟨g7,at_*10+4,none⟩ (ae aj c)).setCell ⟨g7,at_*10+5,none⟩ (ae aj d)).setCell ⟨g7,at_*10+6,none⟩ (ae aj e)) w.heap.size (bk lo hi) (some ⟨g7,0,none⟩) n c7:=fun a b c d e=>
   (((((O7.o.cJ Si).iS ha (q:=2) ak ak a).iS ha (q:=3) ak ak b).iS ha (q:=4) ak ak c).iS ha (q:=5) ak ak d).iS ha (q:=6) ak ak e
  have hB:w.heap.size<=g7:=ak;have BF9:∀a b c d e:Int,az w (((((w7.setCell ⟨g7,at_*10+2,none⟩ (ae aj a)).setCell ⟨g7,at_*10+3,none⟩ (ae aj b)).setCell ⟨g7,at_*10+4,none⟩ (ae aj c)).setCell ⟨g7,at_*10+5,none⟩ (ae aj d)).setCell ⟨g7,at_*10+6,none⟩ (ae aj e)):=fun a b c d e=>
   Below.setCell (Below.setCell (Below.setCell (Below.setCell (Below.setCell BV7.o (p:=⟨g7,at_*10+2,none⟩) hB _) (p:=⟨g7,at_*10+3,none⟩) hB _) (p:=⟨g7,at_*10+4,none⟩) hB _) (p:=⟨g7,at_*10+5,none⟩) hB _) (p:=⟨g7,at_*10+6,none⟩) hB _
  go_ret2;exact⟨_,n,c7,true,rfl,fun _=>⟨rfl,OF _ _ _ _ _⟩,BF9 _ _ _ _ _⟩
end Go.Proofs.YtklncadpkniojaaGreatDoor
