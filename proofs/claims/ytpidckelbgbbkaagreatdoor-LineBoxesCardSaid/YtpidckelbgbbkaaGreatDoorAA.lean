/- Part of LineBoxes. -/
import Derived.Test.YtpidckelbgbbkaaGreatDoorAz
import Derived.Test.YtpidckelbgbbkaaGreatDoorAm
namespace Go.Proofs.YtpidckelbgbbkaaGreatDoor
open Go.ChangeShapes Go.WideShapes Go.ChangeAt Go.RowKit Go.Proofs.Tryz
open Go.Value renaming int → ae
open Go.IntKind renaming i64 → aj
set_option linter.all false
set_option maxRecDepth 100000
set_option maxHeartbeats 16000000
variable{B c m n:Nat}{P:Program}{G:Prop}{w:World}{A:aC}{e:TypeId}{v:Int}
theorem Rb(f:db)(k:Lk)(lo J:Int)(A:aC)(n c at_:Nat)(w:World)(h:ca w w.heap.size f)(hk:lS w w.heap.size k)(hl:gi w (bV lo J) A n)(hn:n<=50000)(ha:at_<n):
 Calls prog 311 #[f.v,k.v, .slice A n c,ae aj (at_:Int)] w (PAs w w.heap.size (bV lo J) n):=by
 obtain⟨W1,aP,W,X1,X2⟩:=box2 w f.row 82 k.row 132;have R:=sH (h.Z W.o W.o.size);have RK:=sH (hk.Z W.o W.o.size);have GL:=sH (hl.Z W.o W.o.size);clear h hl hk;have i3:=aR at_ n;go_enter func311,ntmps311;go_wp2_with fail;rw[<-aP];clear aP;refine(Dt (bV lo J) A n c W1 GL.o aq).mono ?_;rintro e w2 ⟨A2,O,rfl,o2,P⟩;have B2:=sH P;have O2:=sH o2;have NX:=sH (Zk f k (bV lo J) A n c at_ w2 (R.o.Z P P.size) (RK.o.Z P P.size) (GL.o.Z P P.size) aq ha);obtain⟨c0,c1,aU,c3,c4,c5⟩:=(X1.o.ar P X1.o.lt).f6;obtain⟨U,Q,T,S⟩:=(X2.o.ar P X2.o.lt).k4;clear o2 P;go_wp2_with fail;refine NX.o.mono ?_;rintro e w6 ⟨z,rfl,hz,wt⟩;have X:=B2.t wt;have K:=W.t X.o;have O6:=sH ((O2.o.ar wt).cN W.o.size);clear NX wt c0 c1 aU c3 c4 c5 U Q T S;rcases hz with rfl|⟨iE,fA⟩
 ·go_wp2
  go_ret3;exact⟨A2,n,O,at_,false,rfl,aD,K.o⟩
 obtain⟨t,rfl⟩:∃t:Nat,z=(t:Int):=⟨z.toNat,aq⟩;have B:t<n:=aq;have i5:=aR t n;have i6:((t:Int)== -1)=false:=ij;clear iE fA;obtain⟨U,Q,T,S⟩:=(X2.o.ar X.o X2.o.lt).k4;obtain⟨ad,x0,x1,x2,x3,x4,x5,x6,x7,x8,x9,rfl,hQ,e0,_⟩:=(GL.o.Z X.o X.o.size).ba ha;obtain⟨gS,y0,y1,y2,y3,y4,y5,y6,y7,y8,y9,sK,Uu,f0,_⟩:=(GL.o.Z X.o X.o.size).ba B;obtain rfl:ad=gS:=Option.some.inj sK;have RK6:=sH (RK.o.Z X.o X.o.size);go_wp2;obtain⟨E0,E1,M0,M1,M2,M3⟩:=lc6 e0 f0 U Q T S;have FS9:=sH f0;have DS:=sH (And.intro U (And.intro Q (And.intro T S)));clear U Q T S e0 f0 hQ Uu sK;refine Kx.aY (fun d=>if d=some 35 then some (Kx.ZP rZ)else if d=some 13 then some (Kx.ZK w6.heap.size k7)else none) (fun d=>d==some 35||d==some 13) (fun d hd=>vh) aF aF aF ?_;refine mKx ?_;refine kxA (Kx.ZP rZ) (fun a=> ?_) (fun D o=> ?_)
 ·go_simp
  refine Kx.aW (Kx.ZP rZ) ((yw k x0 a.1 (RK6.o.Z a.2 a.2.size)).mono ?_);rintro e w5 ⟨ga,Z,Y,gx,gy,F,G,b,rfl,hb⟩;exact⟨_,rfl,⟨ga,Z,Y,gx,gy,F,G,b,rfl⟩,hb⟩
 obtain⟨_,_,ga,Z,Y,gx,gy,F,G,b,rfl⟩:=o;simp[Act.put];refine mKx ?_;refine kxA (Kx.ZK w6.heap.size k7) (fun a=> ?_) (fun D o=> ?_)
 ·go_simp
  exact Kx.jC a _ _ _ rfl aD
 obtain⟨_,_,g2,rfl,fL,_⟩:=o;simp[Act.put];refine Kx.dO aK aK (fun w9 y qv=> ?_) ?_
 ·obtain⟨a,rfl⟩:=y
  exact Kx.dR 319 (.tmp 13) (.tmp 36) rfl g2 (v7 ga Z Y gx gy F G) rfl rfl (Kx.ZK.get qv.2) aF dK fL
 simp[Act.put];refine mKx ?_;intro a M;obtain⟨cs,hX,L⟩:=Kx.ZK.get M.2;obtain⟨a0,ab,ac,ax,ay,ax',ay',rfl⟩:=TG L;have B7:=sH a.2;have X7:=sH hX;have Tv:=sH (RK6.o.Z a.2 a.2.size);have f0:=au FS9.o a.2;have U:=au DS.o.1 a.2;have Q:=au DS.o.2.1 a.2;have T:=au DS.o.2.2.1 a.2;have S:=au DS.o.2.2.2 a.2;obtain⟨w7,IJ⟩:=eX a.1;rw[<-IJ]at B7 X7 Tv f0 U Q T S
 try dsimp only
 rw[<-IJ];clear IJ M E0 E1 M0 M1 M2 M3 hX L FS9 DS;go_wp2;obtain⟨E1,M0,M1,M2,M3⟩:=lc5 f0 U Q T S;clear U Q T S f0;refine Kx.aY (fun d=>if d=some 45 then some (Kx.ZP rZ)else if d=some 15 then some (Kx.ZK w7.heap.size k7)else none) (fun d=>d==some 45||d==some 15) (fun d hd=>vh) aF aF aF ?_;refine mKx ?_;refine kxA (Kx.ZP rZ) (fun a=> ?_) (fun D o=> ?_)
 ·go_simp
  refine Kx.aW (Kx.ZP rZ) ((yw k y0 a.1 (Tv.o.Z a.2 a.2.size)).mono ?_);rintro e w5 ⟨ga,Z,Y,gx,gy,F,G,b,rfl,hb⟩;exact⟨_,rfl,⟨ga,Z,Y,gx,gy,F,G,b,rfl⟩,hb⟩
 obtain⟨_,_,ga,Z,Y,gx,gy,F,G,b',rfl⟩:=o;simp[Act.put];refine mKx ?_;refine kxA (Kx.ZK w7.heap.size k7) (fun a=> ?_) (fun D o=> ?_)
 ·go_simp
  exact Kx.jC a _ _ _ rfl aD
 obtain⟨_,_,g3,rfl,zY,_⟩:=o;simp[Act.put];refine Kx.dO aK aK (fun w9 y qv=> ?_) ?_
 ·obtain⟨a,rfl⟩:=y
  exact Kx.dR 319 (.tmp 15) (.tmp 46) rfl g3 (v7 ga Z Y gx gy F G) rfl rfl (Kx.ZK.get qv.2) aF dK zY
 simp[Act.put];refine mKx ?_;intro a M;obtain⟨cs,hX,L⟩:=Kx.ZK.get M.2;obtain⟨c0,cb,cc,cx,cy,cx',cy',rfl⟩:=TG L;have O8a:fM a.1 w.heap.size (bV lo J) A2 n O:=(O6.o.ar B7.o).ar a.2;obtain⟨g7,rfl,zj,Kf⟩:=O6.o.form aq;have hs7:=B7.o.size;have H:g2≠g7:=aq;have I:g3≠g7:=aq;have E:=sH O8a;have m:=sH ((K.o.trans (B7.o.mono K.o.size)).trans (a.2.mono (K.o.trans (B7.o.mono K.o.size)).size));have j:=sH (X7.o.ar a.2 X7.o.lt);have g:=sH hX;obtain⟨w8,qW⟩:=eX a.1;rw[<-qW]at E m j g
 try dsimp only
 rw[<-qW];clear qW M E1 M0 M1 M2 M3 hX L O8a X7 Tv B7;go_wp2_with fail;obtain⟨z0,z1,z2,z3,z4,z5,z6,z7,z8,z9,_,_,_,_,r3,_⟩:=E.o.ba ha;have u5:=j.o.cell 5;simp at u5;obtain⟨R3,U5⟩:=lc2 r3 u5;clear r3 u5;refine aT (fun _=>none) 13 rfl aF aF aF aF aF rfl ?_;refine mLw ?_;intro a M;have l:fM a.1 w.heap.size (bV lo J) (some ⟨g7,0,none⟩) n O:=E.o.ar a.2;have s:aA w a.1:=m.o.trans (a.2.mono m.o.size);have u:=j.o.ar a.2 j.o.lt;have r:=g.o.ar a.2 g.o.lt;obtain⟨y0,y1,y2,y3,y4,y5,y6,y7,y8,y9,_,s0,s1,s2,s3,s4,s5,s6,s7,s8,s9⟩:=l.ba ha;have fz:=l.fz (at_*10+2);have C:ak (∀v:Int,fM (a.1.setCell ⟨g7,at_*10+2,none⟩ (ae aj v)) w.heap.size (bV lo J) (some ⟨g7,0,none⟩) n O):=⟨fun v=>l.set ha (q:=2) aq v (fun x _ V=>cL aq V)⟩;have i:ak (∀v:Int,aA w (a.1.setCell ⟨g7,at_*10+2,none⟩ (ae aj v))):=⟨fun v=>Below.setCell s (p:=⟨g7,at_*10+2,none⟩) Pt _⟩;have N:ak (∀v:Int,Bx (a.1.setCell ⟨g7,at_*10+2,none⟩ (ae aj v)) g2 _/\Bx (a.1.setCell ⟨g7,at_*10+2,none⟩ (ae aj v)) g3 _):=⟨fun v=>⟨u.iA H _ _,r.iA I _ _⟩⟩;clear l s u r R3 U5;go_simp;generalize o:wrap64 _=D;have E:=sH (C.o D);have m:=sH (i.o D);have j:=sH ((N.o D).1);have g:=sH ((N.o D).2);clear o;generalize y:a.1.setCell _ _=w9;rw[y]at E m j g;clear y s0 s1 s2 s3 s4 s5 s6 s7 s8 s9 fz M C i N;go_wp2_with fail;obtain⟨z0,z1,z2,z3,z4,z5,z6,z7,z8,z9,_,_,_,r2,_⟩:=E.o.ba B;have u3:=g.o.cell 3;simp at u3;obtain⟨R3,U5⟩:=lc2 r2 u3;clear r2 u3;refine aT (fun _=>none) 13 rfl aF aF aF aF aF rfl ?_;refine mLw ?_;intro a M;have l:fM a.1 w.heap.size (bV lo J) (some ⟨g7,0,none⟩) n O:=E.o.ar a.2;have s:aA w a.1:=m.o.trans (a.2.mono m.o.size);have u:=j.o.ar a.2 j.o.lt;have r:=g.o.ar a.2 g.o.lt;obtain⟨y0,y1,y2,y3,y4,y5,y6,y7,y8,y9,_,s0,s1,s2,s3,s4,s5,s6,s7,s8,s9⟩:=l.ba B;have fz:=l.fz (t*10+2);have C:ak (∀v:Int,fM (a.1.setCell ⟨g7,t*10+2,none⟩ (ae aj v)) w.heap.size (bV lo J) (some ⟨g7,0,none⟩) n O):=⟨fun v=>l.set B (q:=2) aq v (fun x _ V=>cL aq V)⟩;have i:ak (∀v:Int,aA w (a.1.setCell ⟨g7,t*10+2,none⟩ (ae aj v))):=⟨fun v=>Below.setCell s (p:=⟨g7,t*10+2,none⟩) Pt _⟩;have N:ak (∀v:Int,Bx (a.1.setCell ⟨g7,t*10+2,none⟩ (ae aj v)) g2 _/\Bx (a.1.setCell ⟨g7,t*10+2,none⟩ (ae aj v)) g3 _):=⟨fun v=>⟨u.iA H _ _,r.iA I _ _⟩⟩;clear l s u r R3 U5;go_simp;generalize o:wrap64 _=D;have E:=sH (C.o D);have m:=sH (i.o D);have j:=sH ((N.o D).1);have g:=sH ((N.o D).2);clear o;generalize y:a.1.setCell _ _=w9;rw[y]at E m j g;clear y s0 s1 s2 s3 s4 s5 s6 s7 s8 s9 fz M C i N;go_wp2_with fail;obtain⟨z0,z1,z2,z3,z4,z5,z6,z7,z8,z9,_,_,_,_,r3,_⟩:=E.o.ba B;have u3:=g.o.cell 3;simp at u3;obtain⟨R3,U5⟩:=lc2 r3 u3;clear r3 u3;refine aT (fun _=>none) 13 rfl aF aF aF aF aF rfl ?_;refine mLw ?_;intro a M;have l:fM a.1 w.heap.size (bV lo J) (some ⟨g7,0,none⟩) n O:=E.o.ar a.2;have s:aA w a.1:=m.o.trans (a.2.mono m.o.size);have u:=j.o.ar a.2 j.o.lt;have r:=g.o.ar a.2 g.o.lt;obtain⟨y0,y1,y2,y3,y4,y5,y6,y7,y8,y9,_,s0,s1,s2,s3,s4,s5,s6,s7,s8,s9⟩:=l.ba B;have fz:=l.fz (t*10+3);have C:ak (∀v:Int,fM (a.1.setCell ⟨g7,t*10+3,none⟩ (ae aj v)) w.heap.size (bV lo J) (some ⟨g7,0,none⟩) n O):=⟨fun v=>l.set B (q:=3) aq v (fun x _ V=>cL aq V)⟩;have i:ak (∀v:Int,aA w (a.1.setCell ⟨g7,t*10+3,none⟩ (ae aj v))):=⟨fun v=>Below.setCell s (p:=⟨g7,t*10+3,none⟩) Pt _⟩;have N:ak (∀v:Int,Bx (a.1.setCell ⟨g7,t*10+3,none⟩ (ae aj v)) g2 _/\Bx (a.1.setCell ⟨g7,t*10+3,none⟩ (ae aj v)) g3 _):=⟨fun v=>⟨u.iA H _ _,r.iA I _ _⟩⟩;clear l s u r R3 U5;go_simp;generalize o:wrap64 _=D;have E:=sH (C.o D);have m:=sH (i.o D);have j:=sH ((N.o D).1);have g:=sH ((N.o D).2);clear o;generalize y:a.1.setCell _ _=w9;rw[y]at E m j g;clear y s0 s1 s2 s3 s4 s5 s6 s7 s8 s9 fz M C i N;have u6:=j.o.cell 6;have u4:=g.o.cell 4;simp at u6 u4;obtain⟨z0,z1,z2,z3,z4,z5,z6,z7,z8,z9,_,s0,s1,s2,s3,s4,s5,s6,s7,s8,s9⟩:=E.o.ba B;have fz4:=E.o.fz (t*10+4);have fz6:=E.o.fz (t*10+6);have C:ak (∀v v':Int,fM ((w9.setCell ⟨g7,t*10+4,none⟩ (ae aj v)).setCell ⟨g7,t*10+6,none⟩ (ae aj v')) w.heap.size (bV lo J) (some ⟨g7,0,none⟩) n O):=⟨fun v v'=>(E.o.set B (q:=4) aq v (fun x _ V=>cL aq V)).set B (q:=6) aq v' (fun x _ V=>cL aq V)⟩;have i:ak (∀v v':Int,aA w ((w9.setCell ⟨g7,t*10+4,none⟩ (ae aj v)).setCell ⟨g7,t*10+6,none⟩ (ae aj v'))):=⟨fun v v'=>Below.setCell (Below.setCell m.o (p:=⟨g7,t*10+4,none⟩) Pt _) (p:=⟨g7,t*10+6,none⟩) Pt _⟩;have afq:¬g2=g7:=H;have afr:¬g3=g7:=I;go_wp2;go_ret3;exact⟨some ⟨g7,0,none⟩,n,O,t,true,rfl,fun _=>⟨rfl,aq,C.o _ _⟩,i.o _ _⟩
theorem eh{w0:World}{n:aI w0}{f:FuncId}{args:Array Value}(h:Calls P f args n.1 (PI n.1)):Calls P f args n.1 fun e a=>∃v,e= .returned v/\SI v/\∃m:aI w0,a=m.1:=
 h.mono fun e a ⟨b,d,c⟩=>⟨_,d,⟨b,rfl⟩,⟨a,n.2.trans (c.mono n.2.size)⟩,rfl⟩
theorem ZE(f:db)(k:Lk)(Q:aE->Prop)(A:aC)(n c at_:Nat)(w:World)(h:ca w w.heap.size f)(Z:gi w Q A n)(hn:n<=50000)(U:at_<n):
 Calls prog 339 #[f.v,k.v, .slice A n c,ae aj (at_:Int)] w (PIn w (-1) n):=by
 obtain⟨H,u,o,j,r⟩:=box2 w f.row 82 k.row 132;have R:=sH (h.Z o.o o.o.size);have x:=sH (Z.Z o.o o.o.size);obtain⟨c0,C,d,s,c4,c5⟩:=j.o.f6;obtain⟨T,S,O,d3⟩:=r.o.k4;go_enter func339,ntmps339;go_wp2_with fail;rw[<-u];refine(yp f k Q A n c at_ H R.o x.o aq U).mono ?_;rintro e w1 ⟨z,rfl,q,l,B⟩;have P:=sH B;go_wp2;go_loopg [3] (n+2) (fun gg v3 wr=>∃z:Int,-1<=z/\z<n/\(z+1).toNat<gg/\v3=ae aj z/\ak (aA H wr))
 ·exact⟨z,aq,aq,aq,rfl,P⟩
 obtain⟨z,q,l,hg,rfl,b⟩:=hrel;have E:=o.t b.o;by_cases hz:z<0
 ·have hd:decide (0<=z)=false:=fC
  go_wp2;go_quiet (fail);go_wp2;go_ret;exact⟨_,rfl,q,l,aM E.o _⟩
 obtain⟨t,rfl⟩:∃t:Nat,z=(t:Int):=⟨z.toNat,aq⟩;have m:t<n:=aq;have W:=jB t;have i4:=aR t n;obtain⟨c0,C,d,s,c4,c5⟩:=(j.o.ar b.o j.o.lt).f6;obtain⟨M,L,x1,x2,x3,x4,x5,x6,x7,x8,x9,rfl,hQ,X,_⟩:=(x.o.Z b.o b.o.size).ba m;have V:=sH (R.o.Z b.o b.o.size);go_wp2;obtain⟨L0,L1,L2,L3,L4,L5,E0⟩:=lc7 c0 C d s c4 c5 X;refine aG (mj 23 SI) aF aF ?_
 repeat(refine du aK aK aK ?_;intro J i;go_big_quiet_op;go_big_quiet_on)
 refine lsA SI (fun g=> ?_) (fun v9 F=> ?_)
 ·go_simp
  exact eh (ub f L g.1 (V.o.Z g.2 g.2.size))
 obtain⟨y,rfl⟩:=F;by_cases I:y=3
 ·have D:(y==3)=true:=by simp[I]
  simp[Act.put]
  repeat(refine du aK aK aK ?_;intro J i;go_big_quiet_op;go_big_quiet_on)
  intro g;obtain⟨K,p⟩:=g;have v:=b.t p;have G:=E.t p
  try dsimp only
  have a:=v.o;obtain⟨c0,C,d,s,c4,c5⟩:=(j.o.ar a j.o.lt).f6;obtain⟨T,S,O,d3⟩:=(r.o.ar a r.o.lt).k4;have Y:=sH (yp f k Q (some M) n c t K (R.o.Z a a.size) (x.o.Z a a.size) aq m);go_wp2_with fail;refine Y.o.mono ?_;rintro e w2 ⟨z,rfl,g1,g2,B⟩;have N:=v.t B;go_wp2;go_roundg (t+1)
  ·exact⟨z,aq,aq,aq,rfl,N⟩
  omega
 ·have D:(y==3)=false:=by simp[I]
  simp[Act.put]
  repeat(refine du aK aK aK ?_;intro J i;go_big_quiet_op;go_big_quiet_on)
  intro g;obtain⟨K,p⟩:=g;have v:=b.t p;have G:=E.t p
  try dsimp only
  go_wp2;go_ret;exact⟨_,rfl,aq,aq,G.o⟩
theorem jG{ops:Array Oper}{C:World->Prop}{T:Option Tmp->Option (Value->Prop)}{Q:Act->Prop}{a:Act}{o:Oper}{rest:List Oper}(b:Region.wanted o (yielded ops a.tmps)=false)(h:ak (kO P ops T C Q rest (a.put o.dst undef))):ak (kO P ops T C Q (o::rest) a):=⟨Rm b h.o⟩
theorem mSk{R:Prop}(h:R)(s:R->G:=by
 intro b;refine ak.o ?_
 repeat first
  |(refine lf aK aK aK ?_;intro c a;go_big_quiet_op;refine a _ ?_)
  |(refine jG aK ?_;simp[Act.put])
 refine⟨?_⟩;exact b):G:=s h
theorem lf{ops:Array Oper}{C:World->Prop}{T:Option Tmp->Option (Value->Prop)}{Q:Act->Prop}{a:Act}{o:Oper}{rest:List Oper}(d:Region.wanted o (yielded ops a.tmps)=true)(e:T o.dst=none)(b:eW o=true)
 (h:∀K:Act->Prop,(∀a,ak (kO P ops T C Q rest a)->K a)->o.quiet P a C K):ak (kO P ops T C Q (o::rest) a):=⟨du d e b fun K hK=>h K fun a c=>hK a c.o⟩
def hoT(d:Option Tmp):Option (Value->Prop):=if d=some 26 then some SI else if d=some 37 then some SB else none
def PHs(w:World)(n:Nat)(e:Ending)(a:World):Prop:=∃(p:Nat) (b:Bool),e= .returned (.tuple #[ae aj (p:Int), .bool b])/\(b=true->p<n)/\aA w a
theorem adQ(s:G:=by
 go_wp2_with fail
 refine BS.o.mono ?_;rintro e w6 ⟨z,rfl,iE,fA,wt⟩;have Xa:z<n:=fA;have B6:=B5.t wt;have BM:=B1.t B6.o;by_cases hz:z<0
 ·have hd:decide (0<=z)=false:=fC
  go_wp2;go_quiet (fail);have BQ:=sH (fun m=>aM BM.o m);go_wp2;go_ret2;exact⟨0,false,rfl,aD,BQ.o _⟩
 obtain⟨t,rfl⟩:∃t:Nat,z=(t:Int):=⟨z.toNat,aq⟩;have fJ:t<n:=aq;have i5:=aR t n;obtain⟨c0,c1,aU,c3,c4,c5⟩:=(X1.o.ar B6.o X1.o.lt).f6;obtain⟨d0,d1,d2,d3⟩:=(X2.o.ar B6.o X2.o.lt).k4;dsimp only at d0 d1 d2 d3;obtain⟨gS,y0,y1,y2,y3,y4,y5,y6,y7,y8,y9,sK,Uu,f0,_,_,_,_,_,_,f7,f8,_⟩:=(GL.o.Z B6.o B6.o.size).ba fJ;obtain rfl:ad=gS:=Option.some.inj sK;have R6:=sH (R.o.Z B6.o B6.o.size);go_wp2;obtain⟨F0,F7,F8⟩:=lc3 f0 f7 f8;obtain⟨L0,L1,L2,L3,L4,L5,M0,M1⟩:=lc8 c0 c1 aU c3 c4 c5 d0 d1;obtain⟨M2,M3⟩:=lc2 d2 d3;refine aG (mj 58 SI) aF aF ?_;refine mSk ?_;refine lsA SI (fun nq=> ?_) (fun v9 aV=> ?_)
 ·go_simp
  exact eh (ub f y0 nq.1 (R6.o.Z nq.2 nq.2.size))
 obtain⟨y,rfl⟩:=aV;by_cases hy:y=2
 ·have Fv:(y==2)=true:=by simp[hy]
  simp[Act.put];refine mSk ?_;intro nq;obtain⟨w5,bq⟩:=nq;have BN:=B6.t bq;have BM:=B1.t BN.o
  try dsimp only
  go_wp2;go_ret2
  first
   |exact⟨0,false,rfl,aD,BM.o⟩
   |exact⟨t,true,rfl,fun _=>fJ,BM.o⟩
 ·have Fv:(y==2)=false:=by simp[hy]
  simp[Act.put];refine mSk ?_;intro nq;obtain⟨w5,bq⟩:=nq;have BN:=B6.t bq;have BM:=B1.t BN.o
  try dsimp only
  go_wp2;go_ret2
  first
   |exact⟨0,false,rfl,aD,BM.o⟩
   |exact⟨t,true,rfl,fun _=>fJ,BM.o⟩):G:=s
theorem Zn(f:db)(k:Lk)(Q:aE->Prop)(A:aC)(n c at_:Nat)(w:World)(h:ca w w.heap.size f)(D:gi w Q A n)(Z:n<=50000)(l:at_<n):
 Calls prog 330 #[f.v,k.v, .slice A n c,ae aj (at_:Int)] w (PHs w n):=by
 obtain⟨X,o,B1,X1,X2⟩:=box2 w f.row 82 k.row 132;have R:=sH (h.Z B1.o B1.o.size);have GL:=sH (D.Z B1.o B1.o.size);have N:decide (n<=at_)=false:=fC;have M:decide ((at_:Int)<0)=false:=fC;have i3:=aR at_ n;obtain⟨c0,c1,aU,c3,c4,c5⟩:=X1.o.f6;obtain⟨d0,d1,d2,d3⟩:=X2.o.k4;obtain⟨ad,B,V,U,L,x4,x5,x6,Y,x8,P,rfl,K,H,_⟩:=GL.o.ba l;have i:k.kind=9∨k.kind=10∨k.kind=11∨((k.kind==9)=false/\(k.kind==10)=false/\(k.kind==11)=false):=cA;obtain⟨u,v,st,S,q,s⟩:=k;dsimp only at i d0 d1 d2 d3;go_enter func330,ntmps330;go_wp2;rw[<-o];have T:=aw H;obtain⟨L0,L1,L2,L3,L4,L5,M0,M1⟩:=lc8 c0 c1 aU c3 c4 c5 d0 d1;obtain⟨M2,M3⟩:=lc2 d2 d3;refine aG hoT aF aF ?_;refine mSk ?_;refine lsA SI (fun nq=> ?_) (fun v9 aV=> ?_)
 ·go_simp
  exact eh (ub f B nq.1 (R.o.Z nq.2 nq.2.size))
 obtain⟨y,rfl⟩:=aV;by_cases hy:y=3;rotate_left
 ·have Fv:(y !=3)=true:=by simp[hy]
  simp[Act.put];refine mSk ?_;intro nq;obtain⟨w5,bq⟩:=nq;have BM:=B1.t bq
  try dsimp only
  go_wp2;go_ret2;exact⟨0,false,rfl,aD,BM.o⟩
 have Fv:(y !=3)=false:=by simp[hy]
 simp[Act.put];refine mSk ?_;refine lsA SB (fun nq=> ?_) (fun v9 aV=> ?_)
 ·go_simp
  exact bj (pv f ⟨u,v,st,S,q,s⟩ B nq.1 (R.o.Z nq.2 nq.2.size))
 obtain⟨b,rfl⟩:=aV;simp[Act.put];refine mSk ?_;intro nq;obtain⟨w5,bq⟩:=nq;have B5:=sH bq;have BM:=B1.t bq
 try dsimp only
 cases b;rotate_left
 ·go_wp2
  go_ret2;exact⟨0,false,rfl,aD,BM.o⟩
 have a:=B5.o;obtain⟨c0,c1,aU,c3,c4,c5⟩:=(X1.o.ar a X1.o.lt).f6;obtain⟨d0,d1,d2,d3⟩:=(X2.o.ar a X2.o.lt).k4;dsimp only at d0 d1 d2 d3;have BS:=sH (ZE f ⟨u,v,st,S,q,s⟩ Q (some ad) n c at_ w5 (R.o.Z a a.size) (GL.o.Z a a.size) aq l);have C:=sH (yp f ⟨u,v,st,S,q,s⟩ Q (some ad) n c at_ w5 (R.o.Z a a.size) (GL.o.Z a a.size) aq l);rcases i with rfl|rfl|rfl|⟨J,O,W⟩
 ·exact adQ
 ·exact adQ
 ·go_wp2_with fail
  refine C.o.mono ?_;rintro e w6 ⟨z,rfl,iE,fA,wt⟩;have Xa:z<n:=aq;have B6:=B5.t wt;have BM:=B1.t B6.o;by_cases hz:z<0
  ·have hd:decide (0<=z)=false:=fC
   go_wp2;go_quiet (fail);have BQ:=sH (fun m=>aM BM.o m);go_wp2;go_ret2;exact⟨0,false,rfl,aD,BQ.o _⟩
  obtain⟨t,rfl⟩:∃t:Nat,z=(t:Int):=⟨z.toNat,aq⟩;have fJ:t<n:=aq;have i5:=aR t n;obtain⟨c0,c1,aU,c3,c4,c5⟩:=(X1.o.ar B6.o X1.o.lt).f6;obtain⟨d0,d1,d2,d3⟩:=(X2.o.ar B6.o X2.o.lt).k4;dsimp only at d0 d1 d2 d3;obtain⟨gS,y0,y1,y2,y3,y4,y5,y6,y7,y8,y9,sK,Uu,f0,_,_,_,_,_,_,f7,f8,_⟩:=(GL.o.Z B6.o B6.o.size).ba fJ;obtain rfl:ad=gS:=Option.some.inj sK;have R6:=sH (R.o.Z B6.o B6.o.size);go_wp2;obtain⟨F0,F7,F8⟩:=lc3 f0 f7 f8;obtain⟨L0,L1,L2,L3,L4,L5,M0,M1⟩:=lc8 c0 c1 aU c3 c4 c5 d0 d1;obtain⟨M2,M3⟩:=lc2 d2 d3;obtain⟨x,u0,u1,u2,u3,u4,u5,u6,u7,u8,u9,d,G,_,_,_,_,_,_,_,E,F,_⟩:=(GL.o.Z B6.o B6.o.size).ba l;obtain rfl:ad=x:=Option.some.inj d;obtain⟨U7,I⟩:=lc2 E F;refine aG (mj 81 SI) aF aF ?_;refine mSk ?_;refine lsA SI (fun nq=> ?_) (fun v9 aV=> ?_)
  ·go_simp
   exact eh (ub f y0 nq.1 (R6.o.Z nq.2 nq.2.size))
  obtain⟨y,rfl⟩:=aV;by_cases hy:y=3;rotate_left
  ·have Fv:(y !=3)=true:=by simp[hy]
   simp[Act.put];refine mSk ?_;intro nq;obtain⟨w5,bq⟩:=nq;have BN:=B6.t bq;have BM:=B1.t BN.o
   try dsimp only
   go_wp2;go_ret2
   first
    |exact⟨0,false,rfl,aD,BM.o⟩
    |exact⟨t,true,rfl,fun _=>fJ,BM.o⟩
  have Fv:(y !=3)=false:=by simp[hy]
  by_cases g:y7=u7;rotate_left
  ·have p:(y7 !=u7)=true:=by simp[g]
   simp[Act.put];refine mSk ?_;intro nq;obtain⟨w5,bq⟩:=nq;have BN:=B6.t bq;have BM:=B1.t BN.o
   try dsimp only
   go_wp2;go_ret2
   first
    |exact⟨0,false,rfl,aD,BM.o⟩
    |exact⟨t,true,rfl,fun _=>fJ,BM.o⟩
  have p:(y7 !=u7)=false:=by simp[g]
  by_cases j:y8=u8
  ·have r:(y8 !=u8)=false:=by simp[j]
   simp[Act.put];refine mSk ?_;intro nq;obtain⟨w5,bq⟩:=nq;have BN:=B6.t bq;have BM:=B1.t BN.o
   try dsimp only
   go_wp2;go_ret2
   first
    |exact⟨0,false,rfl,aD,BM.o⟩
    |exact⟨t,true,rfl,fun _=>fJ,BM.o⟩
  ·have r:(y8 !=u8)=true:=by simp[j]
   simp[Act.put];refine mSk ?_;intro nq;obtain⟨w5,bq⟩:=nq;have BN:=B6.t bq;have BM:=B1.t BN.o
   try dsimp only
   go_wp2;go_ret2
   first
    |exact⟨0,false,rfl,aD,BM.o⟩
    |exact⟨t,true,rfl,fun _=>fJ,BM.o⟩
 ·go_wp2
  go_ret2;exact⟨0,false,rfl,aD,BM.o⟩
abbrev v4(a b c d:Int):Array Value:= #[ae aj a,ae aj b,ae aj c,ae aj d]
def TMk(v:Value):Prop:=∃(a b c d:Int) (z:Bool),v= .tuple #[.agg (v4 a b c d), .bool z]
def PMk(w:World)(e:Ending)(f:World):Prop:=∃(a b c d:Int) (z:Bool),e= .returned (.tuple #[.agg (v4 a b c d), .bool z])/\aA w f
theorem xm{j:Nat}(h:cM w B MX A n c)(o:j<n):∃(a:Addr) (f d i g:Int),A=some a/\w.cell? (a.add (j*4))=some (ae aj f)/\w.cell? (bW (a.add (j*4)) 1)=some (ae aj d)/\w.cell? (bW (a.add (j*4)) 2)=some (ae aj i)/\w.cell? (bW (a.add (j*4)) 3)=some (ae aj g):=by
 obtain⟨a,e,_,l⟩:=h.2.2.2 aq;obtain⟨p,m,b⟩:=l j o;obtain⟨_,_,rfl,⟨f,rfl,_⟩,⟨_,_,rfl,⟨d,rfl,_⟩,⟨_,_,rfl,⟨i,rfl,_⟩,⟨g,rfl,_⟩⟩⟩⟩:=m;have k:=b 0 _ rfl;rw[eQ]at k;exact⟨a,f,d,i,g,e,k,b 1 _ rfl,b 2 _ rfl,b 3 _ rfl⟩
theorem Gd{j:Nat}(h:cM w B ta A n c)(m:j<n):∃(a:Addr) (b:Bool) (d g:Int),A=some a/\w.cell? (a.add (j*3))=some (.bool b)/\w.cell? (bW (a.add (j*3)) 1)=some (ae aj d)/\w.cell? (bW (a.add (j*3)) 2)=some (ae aj g):=by
 obtain⟨a,e,_,k⟩:=h.2.2.2 aq;obtain⟨o,l,f⟩:=k j m;obtain⟨_,_,rfl,⟨b,rfl⟩,⟨_,_,rfl,⟨d,rfl,_⟩,⟨g,rfl,_⟩⟩⟩:=l;have i:=f 0 _ rfl;rw[eQ]at i;exact⟨a,b,d,g,e,i,f 1 _ rfl,f 2 _ rfl⟩
theorem Ki(x:Sb)(g:Int)(w:World)(h:nD w w.heap.size x):Calls prog 331 #[x.v,ae aj g] w (PMk w):=by
 obtain⟨r,aP⟩:=eX (w.alloc (.cells x.row 141));obtain⟨b,d,f⟩:=sT h aP;obtain⟨t,cd⟩:=eX (r.alloc (.cells (v4 0 0 0 0) 322));have j:aA r t:=jT;have hN:r.heap.size=w.heap.size+1:=oL;have y:=sH (b.trans (j.mono b.size));have n:ak (Bx t (w.heap.size+1) (v4 0 0 0 0)):=⟨OU⟩;have D:=sH (d.ar j d.lt);have A:=sH ((f.Z j j.size).rM);rw[aP]at cd;have C:=h.rM.bd;clear h j hN aP b d f;obtain⟨_,_,_,_,_,_,_,_,_,_,yh,_⟩:=D.o.mS;obtain⟨k,z⟩:=n.o.heap;go_enter func331,ntmps331;go_wp2;rw[<-cd];clear cd;go_loopg [6] (x.mn+1) (fun gg B wr=>∃i:Nat,x.mn-i<gg/\i<=x.mn/\B=ae aj (i:Int)/\wr=t)
 ·exact⟨0,aq,aq,rfl,rfl⟩
 obtain⟨i,I,K,rfl,rfl⟩:=hrel;by_cases o:i<x.mn
 ·obtain⟨H,e,m,u,s,v,J,E,G,L⟩:=xm A.o o
  rw[v]at yh;clear v;have F:(i:Int)<(x.mn:Int):=aq;by_cases l:e=g
  ·have p:(e==g)=true:=by simp[l]
   clear l;have q:=n.o.row (ds:=v4 e m u s);obtain⟨a,c⟩:=q.heap;go_wp2_with (refine wpList_store_row rfl 322 (.tmp 4) (.tmp 26) rfl (w.heap.size+1) (v4 e m u s) rfl aK k _ z aF aK dK ?_);refine bodyPost_ret (bT results331 _ _ (w.heap.size+1) a _ (0,0) _ aK c underlying322 rfl aF) rfl ?_;exact⟨e,m,u,s,true,rfl,below_setRow y.o aq _⟩
  ·have p:(e==g)=false:=by simp[l]
   clear l;go_wp2;go_roundg (x.mn-i)
   ·exact⟨i+1,aq,aq,aQ,rfl⟩
   omega
 ·have q:=n.o.row (ds:=v4 0 0 0 0)
  obtain⟨a,c⟩:=q.heap;go_wp2_with (refine wpList_store_row rfl 322 (.tmp 4) (.tmp 27) rfl (w.heap.size+1) (v4 0 0 0 0) rfl aK k _ z aF aK dK ?_);refine bodyPost_ret (bT results331 _ _ (w.heap.size+1) a _ (0,0) _ aK c underlying322 rfl aF) rfl ?_;exact⟨0,0,0,0,false,rfl,below_setRow y.o aq _⟩
abbrev Hs.row(x:Hs):Array Value:= #[ae aj x.gl, .slice x.S x.sn x.sc]
theorem TZ(k:Lk)(x:Hs)(m:Int)(w:World)(h:HsR w w.heap.size x):Calls prog 341 #[k.v,x.v,ae aj m] w (PRd w ta):=by
 have e:ak (∀o1 g,aA w ((w.alloc o1).alloc g)):=⟨fun o1 g=>(av _ _).alloc aD _⟩;have R:=sH h;have p:=h.rS.bd;obtain⟨y,L,st,M,G,I⟩:=k;obtain⟨K,S,a,l⟩:=x;dsimp only at p⊢;by_cases z:a=0
 ·subst z
  go_enter func341,ntmps341;go_wp2;go_ret;exact⟨_,_,_,rfl,cM.nil _ _ _,e.o _ _⟩
 have C:((a:Int)==0)=false:=by simp[z]
 by_cases v:y=10;rotate_left
 ·have B:(y !=10)=true:=by simp[v]
  obtain⟨o,s,r,t,rfl,b,d⟩:=fi (A:=S) (n:=a) (c:=l) R.o.rS (j:=0) aq
  try rw[eQ]at d
  have D:=fun o1 g=>aJ (aJ d o1) g
  have i:=sH b;have f:=aR 0 a;go_enter func341,ntmps341;go_wp2;go_ret;exact⟨_,_,_,rfl,i.o.Z (e.o _ _) (e.o _ _).size,e.o _ _⟩
 subst v;by_cases J:m<0
 ·have E:(a:Int)-1=((a-1:Nat):Int):=by omega
  have H:((a-1:Nat):Int)<(a:Int):=aq;obtain⟨o,s,r,t,rfl,b,d⟩:=fi (A:=S) (n:=a) (c:=l) R.o.rS (j:=a-1) aq
  try rw[eQ]at d
  have D:=fun o1 g=>aJ (aJ d o1) g
  have i:=sH b;have f:=aR 0 a;go_enter func341,ntmps341;go_wp2;go_ret;exact⟨_,_,_,rfl,i.o.Z (e.o _ _) (e.o _ _).size,e.o _ _⟩
 obtain⟨q,rfl⟩:∃q:Nat,m=(q:Int):=⟨m.toNat,aq⟩;by_cases N:q<a
 ·have u:¬(a:Int)<=(q:Int):=by omega
  have F:=aR q a;obtain⟨o,s,r,t,rfl,b,d⟩:=fi (A:=S) (n:=a) (c:=l) R.o.rS (j:=q) aq
  try rw[eQ]at d
  have D:=fun o1 g=>aJ (aJ d o1) g
  have i:=sH b;have f:=aR 0 a;go_enter func341,ntmps341;go_wp2;go_ret;exact⟨_,_,_,rfl,i.o.Z (e.o _ _) (e.o _ _).size,e.o _ _⟩
 ·have u:(a:Int)<=(q:Int):=by omega
  have E:(a:Int)-1=((a-1:Nat):Int):=aq;have H:((a-1:Nat):Int)<(a:Int):=aq;obtain⟨o,s,r,t,rfl,b,d⟩:=fi (A:=S) (n:=a) (c:=l) R.o.rS (j:=a-1) aq
  try rw[eQ]at d
  have D:=fun o1 g=>aJ (aJ d o1) g
  have i:=sH b;have f:=aR 0 a;go_enter func341,ntmps341;go_wp2;go_ret;exact⟨_,_,_,rfl,i.o.Z (e.o _ _) (e.o _ _).size,e.o _ _⟩
abbrev v2(a b:Int):Array Value:= #[ae aj a,ae aj b]
def TAn(v:Value):Prop:=∃(a b:Int) (z:Bool),v= .tuple #[.agg (v2 a b), .bool z]
def PAn(w:World)(e:Ending)(c:World):Prop:=∃(a b:Int) (z:Bool),e= .returned (.tuple #[.agg (v2 a b), .bool z])/\aA w c
theorem adx(s:G:=by
 have X9:=X7.o.row (ds:=v2 0 0)
 obtain⟨fB,de⟩:=X9.heap;go_wp2_with (refine wpList_store_row rfl 317 (.tmp 10) (.tmp 67) rfl (w.heap.size+1) (v2 0 0) rfl aK ee _ hX aF aK dK ?_);refine bodyPost_ret (bT results332 _ _ (w.heap.size+1) fB _ (0,0) _ aK de underlying317 rfl aF) rfl ?_;exact⟨0,0,false,rfl,below_setRow BM.o aq _⟩):G:=s
theorem AR(k:Lk)(sub:Nat)(v u cp:Int)(w:World)(h:lS w w.heap.size k)(hs:sub<k.sn):Calls prog 332 #[k.v,ae aj (sub:Int),ae aj v,ae aj u,ae aj cp] w (PAn w):=by
 obtain⟨I,K,st,S,l,t⟩:=k;dsimp only at hs;obtain⟨C,x,rfl,Q,e0,e1,e2,e3,e4,e5,e6,e7,e8,e9,R,o⟩:=jh (A:=S) (n:=l) (c:=t) h.rS hs;have G:=h.rS.bd;dsimp only at G;have r:=sH Q.rH;have hhn:=Q.rH.bd;generalize x.H=HA at*;generalize x.hn=j at*;generalize x.hc=hc at*;have M:=fun o1 o2=>aJ (aJ o o1) o2
 clear h Q e0 e1 e2 e3 e4 e5 e6 e7 e8 e9 R o;obtain⟨p,cd⟩:=eX ((w.alloc (.cells (Lk.row ⟨I,K,st,some C,l,t⟩) 132)).alloc (.cells (v2 0 0) 317));have z:aA w p:=Xl;have B2:=sH z;have s:ak (Bx p (w.heap.size+1) (v2 0 0)):=⟨by rw[cd];exact Bx.jt _ _ _ (by simp)⟩;have X4:ak (Bx p w.heap.size (Lk.row ⟨I,K,st,some C,l,t⟩)):=⟨by rw[cd];exact(Bx.new _ _ _).ar ((Below.refl (w.heap.size+1) _).alloc (by simp) _) (by simp)⟩;have RH:=sH (r.o.Z z z.size);have ED:p.heap.size=w.heap.size+2:=by rw[cd];simp
 have i0:decide ((sub:Int)<0)=false:=fC;have i1:¬(l:Int)<=(sub:Int):=aq;have i2:=aR sub l;clear z r;go_enter func332,ntmps332;go_wp2;rw[<-cd];clear cd i1 i2 i0 M;go_loopg [13,14] (j+1) (fun gg F _ wr=>∃i:Nat,j-i<gg/\i<=j/\F=ae aj (i:Int)/\ak (aA p wr))
 ·exact⟨0,aq,aq,rfl,cB⟩
 obtain⟨i,hg,hi,rfl,a⟩:=hrel;have BW:=B2.t a.o;have D:=s.o.ar a.o s.o.lt;obtain⟨ee,hX⟩:=D.heap;by_cases P:i<j;rotate_left
 ·go_wp2_with (refine wpList_store_row rfl 317 (.tmp 10) (.tmp 73) rfl (w.heap.size+1) (v2 0 0) rfl aK ee _ hX aF aK dK ?_;have X9:=D.row (ds:=v2 0 0))
  obtain⟨fB,de⟩:=X9.heap;refine bodyPost_ret (bT results332 _ _ (w.heap.size+1) fB _ (0,0) _ aK de underlying317 rfl aF) rfl ?_;exact⟨0,0,false,rfl,below_setRow BW.o aq _⟩
 obtain⟨adh,y,rfl,W,Y,X⟩:=Kq (RH.o.Z a.o a.o.size) P;have HY:=sH W;have i4:=aR i j;clear W;by_cases h1:y.gl=v;rotate_left
 ·have E:(y.gl !=v)=true:=by simp[h1]
  clear h1;go_wp2;go_roundg (j-i)
  ·exact⟨i+1,aq,aq,aQ,a⟩
  omega
 have E:(y.gl !=v)=false:=nU;obtain⟨L,J,H,T⟩:=(X4.o.ar a.o X4.o.lt).k4;dsimp only at L J H T;clear h1;go_wp2;obtain⟨M0,M1,M2,M3,G0,G1⟩:=lc6 L J H T Y X;clear L J H T Y X D hX;refine aY (jd 50 (QF ta)) aF aF ?_;refine mLw ?_;refine lwA (QF ta) (fun f=> ?_) (fun v9 U=> ?_)
 ·go_simp
  refine aW (QF ta) ((TZ ⟨I,K,st,some C,l,t⟩ y cp f.1 (HY.o.Z f.2 f.2.size)).mono ?_);rintro e w5 ⟨Z,g,c5,rfl,h5,hb⟩;exact⟨_,rfl,⟨Z,g,c5,rfl,h5⟩,hb⟩
 obtain⟨_,_,Z,g,c5,rfl,m⟩:=U;have hm5:=m.bd;clear m;simp[Act.put];refine mLw ?_;intro f V;have RL:=sH (QF.get V);have BM:=BW.t f.2;have X7:=sH (s.o.ar (a.o.trans (f.2.mono a.o.size)) s.o.lt);obtain⟨w3,d⟩:=eX f.1;rw[<-d]at BM RL X7
 try dsimp only
 rw[<-d];clear d V M0 M1 M2 M3 G0 G1;obtain⟨ee,hX⟩:=X7.o.heap;by_cases oA:u<0
 ·exact adx
 obtain⟨q,rfl⟩:∃q:Nat,u=(q:Int):=⟨u.toNat,aq⟩;by_cases hq:q<g;rotate_left
 ·have N:(g:Int)<=(q:Int):=by omega
  have X9:=X7.o.row (ds:=v2 0 0);obtain⟨fB,de⟩:=X9.heap;go_wp2_with (refine wpList_store_row rfl 317 (.tmp 10) (.tmp 67) rfl (w.heap.size+1) (v2 0 0) rfl aK ee _ hX aF aK dK ?_);refine bodyPost_ret (bT results332 _ _ (w.heap.size+1) fB _ (0,0) _ aK de underlying317 rfl aF) rfl ?_;exact⟨0,0,false,rfl,below_setRow BM.o aq _⟩
 have N:¬(g:Int)<=(q:Int):=aq;have uK:=aR q g;obtain⟨ads,b,O,B,rfl,t0,t1,t2⟩:=Gd RL.o hq;cases b
 ·exact adx
 ·have X9:=X7.o.row (ds:=v2 O B)
  obtain⟨fB,de⟩:=X9.heap;go_wp2_with (refine wpList_store_row rfl 317 (.tmp 10) (.tmp 72) rfl (w.heap.size+1) (v2 O B) rfl aK ee _ hX aF aK dK ?_);refine bodyPost_ret (bT results332 _ _ (w.heap.size+1) fB _ (0,0) _ aK de underlying317 rfl aF) rfl ?_;exact⟨O,B,true,rfl,below_setRow BM.o aq _⟩
theorem qy:∀v:Value,Kx.kd v=0->∃z,v=ae aj z:=fun v a=>by
 unfold Kx.kd at a;split at a
 ·exact⟨_,rfl⟩
 ·cases a
 ·cases a
theorem WV{cs:Array Value}(h:cs.toList.map Kx.kd=[0,0]):∃a b:Int,cs=v2 a b:=by
 obtain⟨l,hl⟩:=eY cs.toList;rw[hl]at h;rcases l with _|⟨u,_|⟨v,_|⟨y,l⟩⟩⟩<;>simp at h
 obtain⟨a,rfl⟩:=qy _ h.1;obtain⟨b,rfl⟩:=qy _ h.2;exact⟨a,b,VK⟩
theorem Wc{cs:Array Value}(h:cs.toList.map Kx.kd=[0,0,0,0]):∃a b c d:Int,cs=v4 a b c d:=by
 obtain⟨l,hl⟩:=eY cs.toList;rw[hl]at h;rcases l with _|⟨u,_|⟨v,_|⟨x,_|⟨y,_|⟨z,l⟩⟩⟩⟩⟩<;>simp at h
 obtain⟨a,rfl⟩:=qy _ h.1;obtain⟨b,rfl⟩:=qy _ h.2.1;obtain⟨c,rfl⟩:=qy _ h.2.2.1;obtain⟨d,rfl⟩:=qy _ h.2.2.2;exact⟨a,b,c,d,VK⟩
def PRs(w:World)(B:Nat)(Q:aE->Prop)(n:Nat)(e:Ending)(a:World):Prop:=∃(A:aC) (m c:Nat) (b:Bool),e= .returned (.tuple #[.slice A m c, .bool b])/\(b=true->m=n/\fM a B Q A m c)/\aA w a
theorem acM(s:G:=by
 go_wp2
 go_quiet (fail);generalize eD:w2.drewN _=w3;have B3:ak (aA W1 w3):=⟨acw⟩;have b3:aA w2 w3:=acs;have G0:=au E0.o b3;have H0:=au F0.o b3;have G0s:=sH G0;have H0s:=sH H0;clear eD b3 e0 f0 e7 e8 f7 G0 H0
 try clear k1
 try clear k2
 go_wp2;go_loopg [13,14,15,16,17,18] (sn+1) (fun gg jr _ _ _ _ _ wr=>∃i:Nat,sn-i<gg/\i<=sn/\jr=ae aj (i:Int)/\ak (aA w3 wr))
 ·exact⟨0,aq,aq,rfl,cB⟩
 obtain⟨i,hg,Vm,rfl,BE⟩:=hrel;have BF:=B3.t BE.o;have BW:=B1.t BF.o;obtain⟨d0,d1,d2,d3⟩:=(X2.o.ar BF.o X2.o.lt).k4;dsimp only at d0 d1 d2 d3;by_cases aH:i<sn;rotate_left
 ·go_wp2
  go_ret2;exact⟨none,0,0,false,rfl,aD,BW.o⟩
 obtain⟨ve,x,rfl,hx,e0,e1,e2,e3,e4,e5,e6,e7,e8,e9,re,rI⟩:=jh (A:=S) (n:=sn) (c:=sc) (RK.o.rS.Z BF.o BF.o.size) aH;have HX:=sH hx;have i5:=aR i sn;have g0:=au G0s.o BE.o;have D0s:=sH (And.intro d0 (And.intro d1 (And.intro d2 d3)));clear hx;go_wp2;obtain⟨M0,M1,M2,M3,LG,E0,E1,E2⟩:=lc8 d0 d1 d2 d3 g0 e0 e1 e2;obtain⟨E3,E4,E5,E6,E7⟩:=lc5 e3 e4 e5 e6 e7;obtain⟨E8,E9,E10,YF⟩:=lc4 e8 e9 re rI;clear d0 d1 d2 d3 g0 e0 e1 e2 e3 e4 e5 e6 e7 e8 e9 re rI;refine Kx.aY (fun d=>if d=some 71 then some (Kx.ZP TMk)else if d=some 14 then some (Kx.ZK wr.heap.size [0,0,0,0])else none) (fun d=>d==some 71||d==some 14) (fun d hd=>vh) aF aF aF ?_;refine mKx ?_;refine kxA (Kx.ZP TMk) (fun nq=> ?_) (fun v9 aV=> ?_)
 ·go_simp
  refine Kx.aW (Kx.ZP TMk) ((Ki x x0 nq.1 (HX.o.Z nq.2 nq.2.size)).mono ?_);rintro e w5 ⟨ma,mb,mc,md,z,rfl,hb⟩;exact⟨_,rfl,⟨ma,mb,mc,md,z,rfl⟩,hb⟩
 obtain⟨_,_,ma,mb,mc,md,b,rfl⟩:=aV;simp[Act.put];refine mKx ?_;refine kxA (Kx.ZK wr.heap.size [0,0,0,0]) (fun nq=> ?_) (fun v9 aV=> ?_)
 ·go_simp
  exact Kx.jC nq _ _ _ rfl aD
 obtain⟨_,_,g4,rfl,Sl,_⟩:=aV;simp[Act.put];refine Kx.dO aK aK (fun w9 cv qv=> ?_) ?_
 ·obtain⟨nq,rfl⟩:=cv
  exact Kx.dR 322 (.tmp 14) (.tmp 72) rfl g4 (v4 ma mb mc md) rfl rfl (Kx.ZK.get qv.2) aF dK Sl
 simp[Act.put];refine mKx ?_;intro nq hE;obtain⟨cs,hX,lZ⟩:=Kx.ZK.get hE.2;obtain⟨q1,q2,q3,q4,rfl⟩:=Wc lZ;have Ke:=sH hX;have B5:=BE.t nq.2;have h0:=au H0s.o B5.o;have m0:=M0 nq;have m1:=M1 nq;have m2:=M2 nq;have m3:=M3 nq;obtain⟨w5,zA⟩:=eX nq.1;rw[<-zA]at Ke B5 h0 m0 m1 m2 m3
 try dsimp only
 rw[<-zA];clear zA hE M0 M1 M2 M3 LG E0 E1 E2 E3 E4 E5 E6 E7 E8 E9 E10 YF hX lZ;cases b
 ·go_wp2
  go_roundg (sn-i)
  ·exact⟨i+1,aq,aq,aQ,B5⟩
  omega
 have YY:=B3.t B5.o;have c1:=Ke.o.cell 1;simp at c1;have RK5:=sH (RK.o.Z YY.o YY.o.size);go_wp2;obtain⟨M0,M1,M2,M3,LH,LC⟩:=lc6 m0 m1 m2 m3 h0 c1;clear m0 m1 m2 m3 h0 c1;refine Kx.aY (fun d=>if d=some 87 then some (Kx.ZP TAn)else if d=some 16 then some (Kx.ZK w5.heap.size [0,0])else none) (fun d=>d==some 87||d==some 16) (fun d hd=>vh) aF aF aF ?_;refine mKx ?_;refine kxA (Kx.ZP TAn) (fun nq=> ?_) (fun v9 aV=> ?_)
 ·go_simp
  refine Kx.aW (Kx.ZP TAn) ((AR ⟨kk,fl,st,some ve,sn,sc⟩ i y0 q2 (-1) nq.1 (RK5.o.Z nq.2 nq.2.size) aH).mono ?_);rintro e w5 ⟨ma,mb,z,rfl,hb⟩;exact⟨_,rfl,⟨ma,mb,z,rfl⟩,hb⟩
 obtain⟨_,_,aa,ab,b,rfl⟩:=aV;simp[Act.put];refine mKx ?_;refine kxA (Kx.ZK w5.heap.size [0,0]) (fun nq=> ?_) (fun v9 aV=> ?_)
 ·go_simp
  exact Kx.jC nq _ _ _ rfl aD
 obtain⟨_,_,g6,rfl,hg6,_⟩:=aV;simp[Act.put];refine Kx.dO aK aK (fun w9 cv qv=> ?_) ?_
 ·obtain⟨nq,rfl⟩:=cv
  exact Kx.dR 317 (.tmp 16) (.tmp 88) rfl g6 (v2 aa ab) rfl rfl (Kx.ZK.get qv.2) aF dK hg6
 simp[Act.put];refine mKx ?_;intro nq hE;obtain⟨cs,hX,lZ⟩:=Kx.ZK.get hE.2;obtain⟨r1,r2,rfl⟩:=WV lZ;have Bp:=sH hX;have qK:=sH (Ke.o.ar nq.2 Ke.o.lt);have B6:=B5.t nq.2;have Vn:=YY.t nq.2;obtain⟨w6,ik⟩:=eX nq.1;rw[<-ik]at Bp qK B6 Vn
 try dsimp only
 rw[<-ik];clear ik hE M0 M1 M2 M3 LH LC hX lZ Ke;cases b
 ·go_wp2
  go_roundg (sn-i)
  ·exact⟨i+1,aq,aq,aQ,B6⟩
  omega
 have AK:=B1.t Vn.o;have GL6:=sH (GL.o.Z Vn.o Vn.o.size);have h14:=qK.o.lt;have h16:=Bp.o.lt;have Qj:=AK.o.size;have FX:ak (∀(A7:aC) (c7:Nat) (w7:World),fM w7 w6.heap.size (bV lo hi) A7 (0+n) c7->aA w6 w7->∃(g7:Nat) (z0 z1 z2 z3 z4 z5 z6 z7 z8 z9:Int),A7=some ⟨g7,0,none⟩/\w6.heap.size<=g7/\ak (fM w7 w6.heap.size (bV lo hi) (some ⟨g7,0,none⟩) n c7)/\ak (aA w w7)/\
  w7.cell? ⟨g7,at_*10+2,none⟩=some (ae aj z2)/\w7.cell? ⟨g7,at_*10+3,none⟩=some (ae aj z3)/\w7.cell? ⟨g7,at_*10+4,none⟩=some (ae aj z4)/\w7.cell? ⟨g7,at_*10+5,none⟩=some (ae aj z5)/\w7.cell? ⟨g7,at_*10+6,none⟩=some (ae aj z6)/\
  w7.frozen? ⟨g7,at_*10+2,none⟩=false/\w7.frozen? ⟨g7,at_*10+3,none⟩=false/\w7.frozen? ⟨g7,at_*10+4,none⟩=false/\w7.frozen? ⟨g7,at_*10+5,none⟩=false/\w7.frozen? ⟨g7,at_*10+6,none⟩=false/\
  w7.cell? ⟨g4,2,none⟩=some (ae aj q3)/\w7.cell? ⟨g4,3,none⟩=some (ae aj q4)/\w7.cell? ⟨g6,0,none⟩=some (ae aj r1)/\w7.cell? ⟨g6,1,none⟩=some (ae aj r2)/\(¬g4=g7)/\(¬g6=g7)):=⟨fun A7 c7 w7 o7 b7=>by
  rw[Nat.zero_add]at o7;obtain⟨g7,rfl,zj,Kf⟩:=o7.form aq;obtain⟨z0,z1,z2,z3,z4,z5,z6,z7,z8,z9,_,s0,s1,s2,s3,s4,s5,s6,s7,s8,s9⟩:=o7.ba ha;exact⟨g7,z0,z1,z2,z3,z4,z5,z6,z7,z8,z9,rfl,zj,⟨o7⟩,⟨AK.o.trans (b7.mono Qj)⟩,s2,s3,s4,s5,s6,o7.fz _,o7.fz _,o7.fz _,o7.fz _,o7.fz _,(qK.o.ar b7 qK.o.lt).cell 2,(qK.o.ar b7 qK.o.lt).cell 3,(Bp.o.ar b7 Bp.o.lt).cell 0,(Bp.o.ar b7 Bp.o.lt).cell 1,aq,aq⟩⟩
 go_wp2_with (at_builtin;refine cw mf rfl (.tmp 92) (.tmp 93) rfl rfl (Oq.nil w6 w6.heap.size _ _ _) rfl GL6.o aq cr ?_;intro A7 c7 w7 o7 b7;obtain⟨g7,z0,z1,z2,z3,z4,z5,z6,z7,z8,z9,rfl,zj,O7,ZN,s2,s3,s4,s5,s6,fz2,fz3,fz4,fz5,fz6,u2,u3,t0,t1,aeo,aea⟩:=FX.o A7 c7 w7 o7 b7;clear o7 b7);have OF:∀a b c d e:Int,fM (((((w7.setCell ⟨g7,at_*10+2,none⟩ (ae aj a)).setCell ⟨g7,at_*10+3,none⟩ (ae aj b)).setCell ⟨g7,at_*10+4,none⟩ (ae aj c)).setCell ⟨g7,at_*10+5,none⟩ (ae aj d)).setCell ⟨g7,at_*10+6,none⟩ (ae aj e)) w.heap.size (bV lo hi) (some ⟨g7,0,none⟩) n c7:=fun a b c d e=>
  (((((O7.o.cN Qj).set ha (q:=2) aq a (fun x _ hx=>cL aq hx)).set ha (q:=3) aq b (fun x _ hx=>cL aq hx)).set ha (q:=4) aq c (fun x _ hx=>cL aq hx)).set ha (q:=5) aq d (fun x _ hx=>cL aq hx)).set ha (q:=6) aq e (fun x _ hx=>cL aq hx)
 have hB:w.heap.size<=g7:=aq;have BF9:∀a b c d e:Int,aA w (((((w7.setCell ⟨g7,at_*10+2,none⟩ (ae aj a)).setCell ⟨g7,at_*10+3,none⟩ (ae aj b)).setCell ⟨g7,at_*10+4,none⟩ (ae aj c)).setCell ⟨g7,at_*10+5,none⟩ (ae aj d)).setCell ⟨g7,at_*10+6,none⟩ (ae aj e)):=fun a b c d e=>
  Below.setCell (Below.setCell (Below.setCell (Below.setCell (Below.setCell ZN.o (p:=⟨g7,at_*10+2,none⟩) hB _) (p:=⟨g7,at_*10+3,none⟩) hB _) (p:=⟨g7,at_*10+4,none⟩) hB _) (p:=⟨g7,at_*10+5,none⟩) hB _) (p:=⟨g7,at_*10+6,none⟩) hB _
 go_ret2;exact⟨_,n,c7,true,rfl,fun _=>⟨rfl,OF _ _ _ _ _⟩,BF9 _ _ _ _ _⟩):G:=s
theorem TV(f:db)(k:Lk)(lo hi:Int)(A:aC)(n c at_:Nat)(w:World)(h:ca w w.heap.size f)(o:lS w w.heap.size k)(D:gi w (bV lo hi) A n)(U:n<=50000)(ha:at_<n):
 Calls prog 312 #[f.v,k.v, .slice A n c,ae aj (at_:Int)] w (PRs w w.heap.size (bV lo hi) n):=by
 obtain⟨W1,j,B1,Q,X2⟩:=box2 w f.row 82 k.row 132;have R:=sH (h.Z B1.o B1.o.size);have RK:=sH (o.Z B1.o B1.o.size);have GL:=sH (D.Z B1.o B1.o.size);have m:=o.rS.bd;clear h D o;have i3:=aR at_ n;obtain⟨kk,fl,st,S,sn,sc⟩:=k;dsimp only at m;go_enter func312,ntmps312;go_wp2_with fail;rw[<-j];clear j;refine(Zn f ⟨kk,fl,st,S,sn,sc⟩ (bV lo hi) A n c at_ W1 R.o GL.o aq ha).mono ?_;rintro e w2 ⟨p,b,rfl,C,hb⟩;have B2:=sH hb;have s:=B1.t hb;clear hb;cases b
 ·go_wp2
  go_ret2;exact⟨none,0,0,false,rfl,aD,s.o⟩
 have u:=C rfl;have P:=aR p n;obtain⟨F,x0,O,N,J,X,Y,Z,g,G,L,rfl,E,e0,_,_,_,_,_,_,e7,e8,_⟩:=(GL.o.Z B2.o B2.o.size).ba ha;obtain⟨r,y0,M,T,y3,V,H,I,y,W,y9,l,B,f0,_,_,_,_,_,_,f7,_⟩:=(GL.o.Z B2.o B2.o.size).ba u;obtain rfl:F=r:=Option.some.inj l;have E0:=sH e0;have F0:=sH f0;clear E B l C;have main:∃K:Int,True:=⟨0,trivial⟩;have v:((g !=0)=false)∨((g !=0)=true/\(g==y)=false)∨((g !=0)=true/\(g==y)=true):=by
  by_cases h:g=0
  ·exact .inl (by simp[h])
  ·by_cases h2:g=y
   ·exact .inr (.inr ⟨by simp[h],pO⟩)
   ·exact .inr (.inl ⟨by simp[h],pO⟩)
 rcases v with k1|⟨k1,k2⟩|⟨k1,k2⟩
 ·exact acM
 ·exact acM
 ·go_wp2
  go_quiet (fail);go_wp2_with fail;generalize eD:w2.drewN _=w3;have B3:ak (aA W1 w3):=⟨acw⟩;have b3:aA w2 w3:=acs;have G0:=au E0.o b3;have H0:=au F0.o b3;have G0s:=sH G0;have H0s:=sH H0;clear eD b3 e0 f0 e7 e8 f7 G0 H0
  try clear k1
  try clear k2
  go_wp2;go_loopg [13,14,15,16,17,18] (sn+1) (fun gg jr _ _ _ _ _ wr=>∃i:Nat,sn-i<gg/\i<=sn/\jr=ae aj (i:Int)/\ak (aA w3 wr))
  ·exact⟨0,aq,aq,rfl,cB⟩
  obtain⟨i,hg,Vm,rfl,BE⟩:=hrel;have BF:=B3.t BE.o;have BW:=B1.t BF.o;obtain⟨d0,d1,d2,d3⟩:=(X2.o.ar BF.o X2.o.lt).k4;dsimp only at d0 d1 d2 d3;by_cases aH:i<sn;rotate_left
  ·go_wp2
   go_ret2;exact⟨none,0,0,false,rfl,aD,BW.o⟩
  obtain⟨ve,x,rfl,hx,e0,e1,e2,e3,e4,e5,e6,e7,e8,e9,re,rI⟩:=jh (A:=S) (n:=sn) (c:=sc) (RK.o.rS.Z BF.o BF.o.size) aH;have HX:=sH hx;have i5:=aR i sn;have g0:=au G0s.o BE.o;have D0s:=sH (And.intro d0 (And.intro d1 (And.intro d2 d3)));clear hx;go_wp2;obtain⟨M0,M1,M2,M3,LG,E0,E1,E2⟩:=lc8 d0 d1 d2 d3 g0 e0 e1 e2;obtain⟨E3,E4,E5,E6,E7⟩:=lc5 e3 e4 e5 e6 e7;obtain⟨E8,E9,E10,YF⟩:=lc4 e8 e9 re rI;clear d0 d1 d2 d3 g0 e0 e1 e2 e3 e4 e5 e6 e7 e8 e9 re rI;refine Kx.aY (fun d=>if d=some 71 then some (Kx.ZP TMk)else if d=some 14 then some (Kx.ZK wr.heap.size [0,0,0,0])else none) (fun d=>d==some 71||d==some 14) (fun d hd=>vh) aF aF aF ?_;refine mKx ?_;refine kxA (Kx.ZP TMk) (fun nq=> ?_) (fun v9 aV=> ?_)
  ·go_simp
   refine Kx.aW (Kx.ZP TMk) ((Ki x x0 nq.1 (HX.o.Z nq.2 nq.2.size)).mono ?_);rintro e w5 ⟨ma,mb,mc,md,z,rfl,hb⟩;exact⟨_,rfl,⟨ma,mb,mc,md,z,rfl⟩,hb⟩
  obtain⟨_,_,ma,mb,mc,md,b,rfl⟩:=aV;simp[Act.put];refine mKx ?_;refine kxA (Kx.ZK wr.heap.size [0,0,0,0]) (fun nq=> ?_) (fun v9 aV=> ?_)
  ·go_simp
   exact Kx.jC nq _ _ _ rfl aD
  obtain⟨_,_,g4,rfl,Sl,_⟩:=aV;simp[Act.put];refine Kx.dO aK aK (fun w9 cv qv=> ?_) ?_
  ·obtain⟨nq,rfl⟩:=cv
   exact Kx.dR 322 (.tmp 14) (.tmp 72) rfl g4 (v4 ma mb mc md) rfl rfl (Kx.ZK.get qv.2) aF dK Sl
  simp[Act.put];refine mKx ?_;intro nq hE;obtain⟨cs,hX,lZ⟩:=Kx.ZK.get hE.2;obtain⟨q1,q2,q3,q4,rfl⟩:=Wc lZ;have Ke:=sH hX;have B5:=BE.t nq.2;have h0:=au H0s.o B5.o;have m0:=M0 nq;have m1:=M1 nq;have m2:=M2 nq;have m3:=M3 nq;obtain⟨w5,zA⟩:=eX nq.1;rw[<-zA]at Ke B5 h0 m0 m1 m2 m3
  try dsimp only
  rw[<-zA];clear zA hE M0 M1 M2 M3 LG E0 E1 E2 E3 E4 E5 E6 E7 E8 E9 E10 YF hX lZ;cases b
  ·go_wp2
   go_roundg (sn-i)
   ·exact⟨i+1,aq,aq,aQ,B5⟩
   omega
  have YY:=B3.t B5.o;have c1:=Ke.o.cell 1;simp at c1;have RK5:=sH (RK.o.Z YY.o YY.o.size);go_wp2;obtain⟨M0,M1,M2,M3,LH,LC⟩:=lc6 m0 m1 m2 m3 h0 c1;clear m0 m1 m2 m3 h0 c1;refine Kx.aY (fun d=>if d=some 87 then some (Kx.ZP TAn)else if d=some 16 then some (Kx.ZK w5.heap.size [0,0])else none) (fun d=>d==some 87||d==some 16) (fun d hd=>vh) aF aF aF ?_;refine mKx ?_;refine kxA (Kx.ZP TAn) (fun nq=> ?_) (fun v9 aV=> ?_)
  ·go_simp
   refine Kx.aW (Kx.ZP TAn) ((AR ⟨kk,fl,st,some ve,sn,sc⟩ i y0 q2 G nq.1 (RK5.o.Z nq.2 nq.2.size) aH).mono ?_);rintro e w5 ⟨ma,mb,z,rfl,hb⟩;exact⟨_,rfl,⟨ma,mb,z,rfl⟩,hb⟩
  obtain⟨_,_,aa,ab,b,rfl⟩:=aV;simp[Act.put];refine mKx ?_;refine kxA (Kx.ZK w5.heap.size [0,0]) (fun nq=> ?_) (fun v9 aV=> ?_)
  ·go_simp
   exact Kx.jC nq _ _ _ rfl aD
  obtain⟨_,_,g6,rfl,hg6,_⟩:=aV;simp[Act.put];refine Kx.dO aK aK (fun w9 cv qv=> ?_) ?_
  ·obtain⟨nq,rfl⟩:=cv
   exact Kx.dR 317 (.tmp 16) (.tmp 88) rfl g6 (v2 aa ab) rfl rfl (Kx.ZK.get qv.2) aF dK hg6
  simp[Act.put];refine mKx ?_;intro nq hE;obtain⟨cs,hX,lZ⟩:=Kx.ZK.get hE.2;obtain⟨r1,r2,rfl⟩:=WV lZ;have Bp:=sH hX;have qK:=sH (Ke.o.ar nq.2 Ke.o.lt);have B6:=B5.t nq.2;have Vn:=YY.t nq.2;obtain⟨w6,ik⟩:=eX nq.1;rw[<-ik]at Bp qK B6 Vn
  try dsimp only
  rw[<-ik];clear ik hE M0 M1 M2 M3 LH LC hX lZ Ke;cases b
  ·go_wp2
   go_roundg (sn-i)
   ·exact⟨i+1,aq,aq,aQ,B6⟩
   omega
  have AK:=B1.t Vn.o;have GL6:=sH (GL.o.Z Vn.o Vn.o.size);have h14:=qK.o.lt;have h16:=Bp.o.lt;have Qj:=AK.o.size;have FX:ak (∀(A7:aC) (c7:Nat) (w7:World),fM w7 w6.heap.size (bV lo hi) A7 (0+n) c7->aA w6 w7->∃(g7:Nat) (z0 z1 z2 z3 z4 z5 z6 z7 z8 z9:Int),A7=some ⟨g7,0,none⟩/\w6.heap.size<=g7/\ak (fM w7 w6.heap.size (bV lo hi) (some ⟨g7,0,none⟩) n c7)/\ak (aA w w7)/\
   w7.cell? ⟨g7,at_*10+2,none⟩=some (ae aj z2)/\w7.cell? ⟨g7,at_*10+3,none⟩=some (ae aj z3)/\w7.cell? ⟨g7,at_*10+4,none⟩=some (ae aj z4)/\w7.cell? ⟨g7,at_*10+5,none⟩=some (ae aj z5)/\w7.cell? ⟨g7,at_*10+6,none⟩=some (ae aj z6)/\
   w7.frozen? ⟨g7,at_*10+2,none⟩=false/\w7.frozen? ⟨g7,at_*10+3,none⟩=false/\w7.frozen? ⟨g7,at_*10+4,none⟩=false/\w7.frozen? ⟨g7,at_*10+5,none⟩=false/\w7.frozen? ⟨g7,at_*10+6,none⟩=false/\
   w7.cell? ⟨g4,2,none⟩=some (ae aj q3)/\w7.cell? ⟨g4,3,none⟩=some (ae aj q4)/\w7.cell? ⟨g6,0,none⟩=some (ae aj r1)/\w7.cell? ⟨g6,1,none⟩=some (ae aj r2)/\(¬g4=g7)/\(¬g6=g7)):=⟨fun A7 c7 w7 o7 b7=>by
   rw[Nat.zero_add]at o7;obtain⟨g7,rfl,zj,Kf⟩:=o7.form aq;obtain⟨z0,z1,z2,z3,z4,z5,z6,z7,z8,z9,_,s0,s1,s2,s3,s4,s5,s6,s7,s8,s9⟩:=o7.ba ha;exact⟨g7,z0,z1,z2,z3,z4,z5,z6,z7,z8,z9,rfl,zj,⟨o7⟩,⟨AK.o.trans (b7.mono Qj)⟩,s2,s3,s4,s5,s6,o7.fz _,o7.fz _,o7.fz _,o7.fz _,o7.fz _,(qK.o.ar b7 qK.o.lt).cell 2,(qK.o.ar b7 qK.o.lt).cell 3,(Bp.o.ar b7 Bp.o.lt).cell 0,(Bp.o.ar b7 Bp.o.lt).cell 1,aq,aq⟩⟩
  go_wp2_with (at_builtin;refine cw mf rfl (.tmp 92) (.tmp 93) rfl rfl (Oq.nil w6 w6.heap.size _ _ _) rfl GL6.o aq cr ?_;intro A7 c7 w7 o7 b7;obtain⟨g7,z0,z1,z2,z3,z4,z5,z6,z7,z8,z9,rfl,zj,O7,ZN,s2,s3,s4,s5,s6,fz2,fz3,fz4,fz5,fz6,u2,u3,t0,t1,aeo,aea⟩:=FX.o A7 c7 w7 o7 b7;clear o7 b7);have OF:∀a b c d e:Int,fM (((((w7.setCell ⟨g7,at_*10+2,none⟩ (ae aj a)).setCell ⟨g7,at_*10+3,none⟩ (ae aj b)).setCell ⟨g7,at_*10+4,none⟩ (ae aj c)).setCell ⟨g7,at_*10+5,none⟩ (ae aj d)).setCell ⟨g7,at_*10+6,none⟩ (ae aj e)) w.heap.size (bV lo hi) (some ⟨g7,0,none⟩) n c7:=fun a b c d e=>
   (((((O7.o.cN Qj).set ha (q:=2) aq a (fun x _ hx=>cL aq hx)).set ha (q:=3) aq b (fun x _ hx=>cL aq hx)).set ha (q:=4) aq c (fun x _ hx=>cL aq hx)).set ha (q:=5) aq d (fun x _ hx=>cL aq hx)).set ha (q:=6) aq e (fun x _ hx=>cL aq hx)
  have hB:w.heap.size<=g7:=aq;have BF9:∀a b c d e:Int,aA w (((((w7.setCell ⟨g7,at_*10+2,none⟩ (ae aj a)).setCell ⟨g7,at_*10+3,none⟩ (ae aj b)).setCell ⟨g7,at_*10+4,none⟩ (ae aj c)).setCell ⟨g7,at_*10+5,none⟩ (ae aj d)).setCell ⟨g7,at_*10+6,none⟩ (ae aj e)):=fun a b c d e=>
   Below.setCell (Below.setCell (Below.setCell (Below.setCell (Below.setCell ZN.o (p:=⟨g7,at_*10+2,none⟩) hB _) (p:=⟨g7,at_*10+3,none⟩) hB _) (p:=⟨g7,at_*10+4,none⟩) hB _) (p:=⟨g7,at_*10+5,none⟩) hB _) (p:=⟨g7,at_*10+6,none⟩) hB _
  go_ret2;exact⟨_,n,c7,true,rfl,fun _=>⟨rfl,OF _ _ _ _ _⟩,BF9 _ _ _ _ _⟩
def kC(lo a:Int)(g:aE):Prop:=bV lo a g/\-1<=nth g 5/\nth g 5<=50000
theorem Ig{lo a z:Int}{x:aE}(h:kC lo a x):kC lo a (x.set 2 z):=⟨cL aq h.1,by have:=h.2;unfold nth at*;simpa[List.getElem?_set]using this⟩
theorem acz(s:G:=by
 obtain⟨u,rfl⟩:∃u:Nat,x6=(u:Int):=⟨x6.toNat,aq⟩
 have hui:u<i:=aq;have j6:=aR u i;clear h6;obtain⟨g2,rfl,_,_⟩:=O2.o.form aq;go_wp2_with fail;obtain⟨w2,kL⟩:∃w2,w2=wr.alloc (.cells (v10 x0 x1 x2 x3 x4 (-1) (u:Int) x7 x8 x9) 108):=⟨_,rfl⟩;have XX:ak (Bx w2 wr.heap.size (v10 x0 x1 x2 x3 x4 (-1) (u:Int) x7 x8 x9)):=⟨XF⟩;have BX:ak (aA wr w2):=⟨Xk⟩;rw[<-kL];clear kL e0 e1 e2 e3 e4 e5 e6 e7 e8 e9;obtain⟨z0,z1,z2,z3,z4,z5,z6,z7,z8,z9,_,_,_,_,k3,k4,_⟩:=(O2.o.ar BX.o).ba hui;have s3:=XX.o.cell 4;have s5:=XX.o.cell 6;simp at s3 s5;have K3:=aw k4;have S3:=aw s3;have S5:=aw s5
 clear k3 k4 s3 s5;refine aT (fun _=>none) 10 rfl aF aF aF aF aF rfl ?_
 repeat(refine bR aK aK aK ?_;intro K9 cg;go_big_quiet_op;go_big_quiet_on)
 intro nq hE;have BA:=BX.o.trans (nq.2.mono BX.o.size);have XA:=XX.o.ar nq.2 XX.o.lt;have cc:=XA.cell 4;simp at cc;have fz:=XA.fz 4;have XB:ak (∀v:Int,Bx (nq.1.setCell ⟨wr.heap.size,4,none⟩ (ae aj v)) wr.heap.size ((v10 x0 x1 x2 x3 x4 (-1) (u:Int) x7 x8 x9).setIfInBounds 4 (ae aj v))):=⟨fun v=>XA.kJ 4 _⟩;have BB:ak (∀v:Int,aA wr (nq.1.setCell ⟨wr.heap.size,4,none⟩ (ae aj v))):=⟨fun v=>Below.setCell BA (p:=⟨wr.heap.size,4,none⟩) cr _⟩;clear K3 S3 S5;go_simp;generalize aV:wrap64 _=v4;clear aV;have XX:ak _:=⟨XB.o v4⟩;have BX:ak _:=⟨BB.o v4⟩;generalize cv:nq.1.setCell _ _=w9;rw[cv]at XX BX;clear cv cc fz hE XB BB XA BA;have XX:ak (Bx w9 wr.heap.size (v10 x0 x1 x2 x3 v4 (-1) (u:Int) x7 x8 x9)):=XX;obtain⟨q0,q1,q2,q3,q4,q5,q6,q7,q8,q9⟩:=XX.o.yh;have f6:=XX.o.fz 6;have O5:ak (fM (w9.setCell ⟨wr.heap.size,6,none⟩ (ae aj (-1))) w.heap.size (kC lo hi) _ i c2):=⟨O2.o.ar (Below.setCell BX.o (p:=⟨wr.heap.size,6,none⟩) cr _)⟩;have B5:ak (aA w (w9.setCell ⟨wr.heap.size,6,none⟩ (ae aj (-1)))):=⟨BE.o.trans ((Below.setCell BX.o (p:=⟨wr.heap.size,6,none⟩) cr _).mono hs)⟩;have hs9:=BX.o.size;go_wp2_with (at_builtin;refine bU mf rfl (.tmp 66) (.tmp 68) rfl rfl (O5.o.alloc _) rfl [x0,x1,x2,x3,v4,-1,-1,x7,x8,x9] rfl (cJ _ _ _ _ _ aD rfl) ⟨QX.o,VY⟩ aq cA ?_;intro A8 c8 w8 o8 b8;have O8:ak _:=⟨o8⟩;have B8:ak (aA w w8):=⟨(B5.o.alloc cA _).trans b8⟩;clear o8 b8);go_roundg (n-i)
 case measure=>omega
 case rel=>exact⟨i+1,A8,c8,aq,aq,rfl,aQ,O8,B8⟩):G:=s
theorem adi(s:G:=by
 obtain⟨u,rfl⟩:∃u:Nat,x6=(u:Int):=⟨x6.toNat,aq⟩
 have j5:decide (u<i)=false:=fC;have j6:decide ((u:Int)<(i:Int))=false:=fC;clear h6;have O5:ak (fM (wr.alloc (.cells (v10 x0 x1 x2 x3 x4 (-1) (-1) x7 x8 x9) 108)) w.heap.size (kC lo hi) A2 i c2):=⟨O2.o.ar (av _ _)⟩;have B5:ak (aA w (wr.alloc (.cells (v10 x0 x1 x2 x3 x4 (-1) (-1) x7 x8 x9) 108))):=⟨BE.o.alloc hs _⟩;have hs9:wr.heap.size<=(wr.alloc (.cells (v10 x0 x1 x2 x3 x4 (-1) (-1) x7 x8 x9) 108)).heap.size:=aD;go_wp2_with (at_builtin;refine bU mf rfl (.tmp 66) (.tmp 68) rfl rfl (O5.o.alloc _) rfl [x0,x1,x2,x3,x4,-1,-1,x7,x8,x9] rfl (cJ _ _ _ _ _ aD rfl) ⟨QX.o,VY⟩ aq cA ?_;intro A8 c8 w8 o8 b8;have O8:ak _:=⟨o8⟩;have B8:ak (aA w w8):=⟨(B5.o.alloc cA _).trans b8⟩;clear o8 b8);go_roundg (n-i)
 case measure=>omega
 case rel=>exact⟨i+1,A8,c8,aq,aq,rfl,aQ,O8,B8⟩):G:=s
theorem acG(s:G:=by
 have j5:decide (0<=x6)=false:=fC
 clear h6;have O5:ak (fM (wr.alloc (.cells (v10 x0 x1 x2 x3 x4 (-1) (-1) x7 x8 x9) 108)) w.heap.size (kC lo hi) A2 i c2):=⟨O2.o.ar (av _ _)⟩;have B5:ak (aA w (wr.alloc (.cells (v10 x0 x1 x2 x3 x4 (-1) (-1) x7 x8 x9) 108))):=⟨BE.o.alloc hs _⟩;have hs9:wr.heap.size<=(wr.alloc (.cells (v10 x0 x1 x2 x3 x4 (-1) (-1) x7 x8 x9) 108)).heap.size:=aD;go_wp2_with (at_builtin;refine bU mf rfl (.tmp 66) (.tmp 68) rfl rfl (O5.o.alloc _) rfl [x0,x1,x2,x3,x4,-1,-1,x7,x8,x9] rfl (cJ _ _ _ _ _ aD rfl) ⟨QX.o,VY⟩ aq cA ?_;intro A8 c8 w8 o8 b8;have O8:ak _:=⟨o8⟩;have B8:ak (aA w w8):=⟨(B5.o.alloc cA _).trans b8⟩;clear o8 b8);go_roundg (n-i)
 case measure=>omega
 case rel=>exact⟨i+1,A8,c8,aq,aq,rfl,aQ,O8,B8⟩):G:=s
theorem Ld(lo hi:Int)(A:aC)(n c:Nat)(w:World)(h:gi w (bV lo hi) A n)(r:n<=50000):Calls prog 117 #[.slice A n c] w (Qz w (kC lo hi) n):=by
 have R:ak _:=⟨h⟩;clear h;go_enter func117,ntmps117;go_wp2;go_loopg [3,4,5] (n+1) (fun gg v3 v4 _ wr=>∃(i:Nat) (A2:aC) (c2:Nat),n-i<gg/\i<=n/\v3= .slice A2 i c2/\v4=ae aj (i:Int)/\ak (fM wr w.heap.size (kC lo hi) A2 i c2)/\ak (aA w wr))
 ·exact⟨0,none,0,aq,aq,rfl,rfl,⟨Oq.nil _ _ _ _ _⟩,cB⟩
 obtain⟨i,A2,c2,s,l,rfl,rfl,O2,BE⟩:=hrel;by_cases g:i<n;rotate_left
 ·obtain rfl:i=n:=by omega
  go_wp2;go_ret;exact⟨_,_,rfl,O2.o,BE.o⟩
 obtain⟨q,x0,x1,x2,x3,x4,a,x6,x7,x8,x9,rfl,j,e0,e1,e2,e3,e4,e5,e6,e7,e8,e9⟩:=(R.o.Z BE.o BE.o.size).ba g;have QX:ak (lo<=x1/\x1<hi):=⟨j⟩;have hs:=BE.o.size;have o:=aR i n;clear j;by_cases d:0<=a/\a<i
 ·obtain⟨t,rfl⟩:∃t:Nat,a=(t:Int):=⟨a.toNat,aq⟩
  have e:t<i:=aq;have k:=aR t i;clear d;go_wp2_with fail;obtain⟨w2,kL⟩:∃w2,w2=wr.alloc (.cells (v10 x0 x1 x2 x3 x4 (t:Int) x6 x7 x8 x9) 108):=⟨_,rfl⟩;have XX:ak (Bx w2 wr.heap.size (v10 x0 x1 x2 x3 x4 (t:Int) x6 x7 x8 x9)):=⟨XF⟩;have BX:ak (aA wr w2):=⟨Xk⟩;rw[<-kL];clear kL e0 e1 e2 e3 e4 e5 e6 e7 e8 e9;obtain⟨g2,rfl,_,_⟩:=O2.o.form aq;obtain⟨z0,z1,z2,z3,z4,z5,z6,z7,z8,z9,_,_,_,_,k3,k4,_⟩:=(O2.o.ar BX.o).ba e;have s3:=XX.o.cell 3;have s5:=XX.o.cell 5;simp at s3 s5;have K3:=aw k3;have S3:=aw s3;have S5:=aw s5
  clear k3 k4 s3 s5;refine aT (fun _=>none) 10 rfl aF aF aF aF aF rfl ?_
  repeat(refine bR aK aK aK ?_;intro K9 cg;go_big_quiet_op;go_big_quiet_on)
  intro nq hE;have BA:=BX.o.trans (nq.2.mono BX.o.size);have XA:=XX.o.ar nq.2 XX.o.lt;have cc:=XA.cell 3;simp at cc;have fz:=XA.fz 3;have XB:ak (∀v:Int,Bx (nq.1.setCell ⟨wr.heap.size,3,none⟩ (ae aj v)) wr.heap.size ((v10 x0 x1 x2 x3 x4 (t:Int) x6 x7 x8 x9).setIfInBounds 3 (ae aj v))):=⟨fun v=>XA.kJ 3 _⟩;have BB:ak (∀v:Int,aA wr (nq.1.setCell ⟨wr.heap.size,3,none⟩ (ae aj v))):=⟨fun v=>Below.setCell BA (p:=⟨wr.heap.size,3,none⟩) cr _⟩;clear K3 S3 S5;go_simp;generalize aV:wrap64 _=v3;clear aV;have XX:ak _:=⟨XB.o v3⟩;have BX:ak _:=⟨BB.o v3⟩;generalize cv:nq.1.setCell _ _=w9;rw[cv]at XX BX;clear cv cc fz hE XB BB XA BA;have XX:ak (Bx w9 wr.heap.size (v10 x0 x1 x2 v3 x4 (t:Int) x6 x7 x8 x9)):=XX;go_wp2_with fail;obtain⟨z0,z1,z2,z3,z4,z5,z6,z7,z8,z9,_,_,_,_,k3,k4,_⟩:=(O2.o.ar BX.o).ba e;have s3:=XX.o.cell 4;have s5:=XX.o.cell 5;simp at s3 s5;have K3:=aw k4;have S3:=aw s3;have S5:=aw s5
  clear k3 k4 s3 s5;refine aT (fun _=>none) 10 rfl aF aF aF aF aF rfl ?_
  repeat(refine bR aK aK aK ?_;intro K9 cg;go_big_quiet_op;go_big_quiet_on)
  intro nq hE;have BA:=BX.o.trans (nq.2.mono BX.o.size);have XA:=XX.o.ar nq.2 XX.o.lt;have cc:=XA.cell 4;simp at cc;have fz:=XA.fz 4;have XB:ak (∀v:Int,Bx (nq.1.setCell ⟨wr.heap.size,4,none⟩ (ae aj v)) wr.heap.size ((v10 x0 x1 x2 v3 x4 (t:Int) x6 x7 x8 x9).setIfInBounds 4 (ae aj v))):=⟨fun v=>XA.kJ 4 _⟩;have BB:ak (∀v:Int,aA wr (nq.1.setCell ⟨wr.heap.size,4,none⟩ (ae aj v))):=⟨fun v=>Below.setCell BA (p:=⟨wr.heap.size,4,none⟩) cr _⟩;clear K3 S3 S5;go_simp;generalize aV:wrap64 _=v4;clear aV;have XX:ak _:=⟨XB.o v4⟩;have BX:ak _:=⟨BB.o v4⟩;generalize cv:nq.1.setCell _ _=w9;rw[cv]at XX BX;clear cv cc fz hE XB BB XA BA;have XX:ak (Bx w9 wr.heap.size (v10 x0 x1 x2 v3 v4 (t:Int) x6 x7 x8 x9)):=XX;obtain⟨q0,q1,q2,q3,q4,q5,q6,q7,q8,q9⟩:=XX.o.yh;have f6:=XX.o.fz 6;have O5:ak (fM (w9.setCell ⟨wr.heap.size,6,none⟩ (ae aj (-1))) w.heap.size (kC lo hi) _ i c2):=⟨O2.o.ar (Below.setCell BX.o (p:=⟨wr.heap.size,6,none⟩) cr _)⟩;have B5:ak (aA w (w9.setCell ⟨wr.heap.size,6,none⟩ (ae aj (-1)))):=⟨BE.o.trans ((Below.setCell BX.o (p:=⟨wr.heap.size,6,none⟩) cr _).mono hs)⟩;have hs9:=BX.o.size;go_wp2_with (at_builtin;refine bU mf rfl (.tmp 66) (.tmp 68) rfl rfl (O5.o.alloc _) rfl [x0,x1,x2,v3,v4,(t:Int),-1,x7,x8,x9] rfl (cJ _ _ _ _ _ aD rfl) ⟨QX.o,VY⟩ aq cA ?_;intro A8 c8 w8 o8 b8;have O8:ak _:=⟨o8⟩;have B8:ak (aA w w8):=⟨(B5.o.alloc cA _).trans b8⟩;clear o8 b8);go_roundg (n-i)
  case measure=>omega
  case rel=>exact⟨i+1,A8,c8,aq,aq,rfl,aQ,O8,B8⟩
 ·have f:a<0∨(0<=a/\(i:Int)<=a):=by omega
  clear d;rcases f with d|d
  ·have m:decide (0<=a)=false:=fC
   clear d;have b:x6<0∨(0<=x6/\(i:Int)<=x6)∨(0<=x6/\x6<(i:Int)):=aq;rcases b with h6|h6|h6
   ·exact acG
   ·exact adi
   ·exact acz
  ·obtain⟨t,rfl⟩:∃t:Nat,a=(t:Int):=⟨a.toNat,aq⟩
   have m:decide (t<i)=false:=fC;have k:decide ((t:Int)<(i:Int))=false:=fC;clear d;have b:x6<0∨(0<=x6/\(i:Int)<=x6)∨(0<=x6/\x6<(i:Int)):=aq;rcases b with h6|h6|h6
   ·exact acG
   ·exact adi
   ·exact acz
abbrev bE(A:aC)(m c:Nat)(x:Int)(b:Bool)(l:Int):Array Value:= #[.slice A m c,ae aj x, .bool b,ae aj l]
def PDn(w:World)(Q:aE->Prop)(n:Nat)(e:Ending)(a:World):Prop:=∃(A:aC) (m c x:Nat) (b:Bool) (l:Int),e= .returned (.agg (bE A m c x b l))/\(b=true->m=n/\n<=c/\x<=n+1/\gi a Q A n)/\aA w a
theorem Oq.jw{k g:Nat}{Q:aE->Prop}(h:Oq w B e k Q A n c)(l:g<B):bO A (some ⟨g,0,none⟩):=by
 obtain⟨gs,a,o,j⟩:=h;rcases j.2 with⟨b,_⟩|⟨p,cap,cur,b,i,m,r⟩
 ·injection b with a
  rw[a];exact iF _
 ·injection b with a
  rw[a];intro x d f;simp at d f;omega
theorem jM:(prog.info? 281).map (·.size)=some 4:=by kernel_rfl
theorem Ok(f:db)(k:Lk)(lo x:Int)(A:aC)(n c at_:Nat)(w:World)(h:ca w w.heap.size f)(W:lS w w.heap.size k)(Y:gi w (bV lo x) A n)(G:n<=50000)(K:at_<n):
 Calls prog 290 #[f.v,k.v, .slice A n c,ae aj (at_:Int)] w (PDn w (bV lo x) n):=by
 obtain⟨E,aP,r,V,o⟩:=box2 w f.row 82 k.row 132;have R:=sH (h.Z r.o r.o.size);have Z:=sH (W.Z r.o r.o.size);have X:=sH (Y.Z r.o r.o.size);have N:E.heap.size=w.heap.size+1+1:=oL;obtain⟨c0,U,v,T,c4,c5⟩:=V.o.f6;obtain⟨J,H,F,Q⟩:=o.o.k4;have y:k.kind=6∨k.kind=7∨k.kind=8∨k.kind=9∨k.kind=10∨k.kind=11∨((k.kind==6)=false/\(k.kind==7)=false/\(k.kind==8)=false/\(k.kind==9)=false/\(k.kind==10)=false/\(k.kind==11)=false):=cA;obtain⟨kk,fl,st,S,sn,sc⟩:=k;dsimp only at y J H F Q;rcases y with rfl|rfl|rfl|rfl|rfl|rfl|⟨k1,k2,k3,k4,k5,k6⟩
 all_goals
  go_enter func290,ntmps290;go_wp2_with fail;rw[<-aP];generalize D:E.alloc (.cells (bE none 0 0 0 false 0) 281)=t;have o:ak (Bx t (w.heap.size+1+1) (bE none 0 0 0 false 0)):=⟨by rw[<-D];exact Bx.jt _ _ _ N⟩;have b:aA E t:=by rw[<-D];exact av _ _
  have u:=r.t b;have O:=sH (R.o.Z b b.size);have I:=sH (Z.o.Z b b.size);have M:=sH (X.o.Z b b.size);have c0:=au c0 b;have U:=au U b;have v:=au v b;have T:=au T b;have c4:=au c4 b;have c5:=au c5 b
  have J:=au J b;have H:=au H b;have F:=au F b;have Q:=au Q b
  have p:w.heap.size+1+1<t.heap.size:=o.o.lt
 rotate_right
 ·obtain⟨m,i⟩:=o.o.heap
  refine bodyPost_ret (results_cell_row results290 _ _ (w.heap.size+1+1) m _ (0,0) _ aK i underlying281 rfl aF) rfl ?_;exact⟨none,0,0,0,false,0,rfl,aD,u.o⟩
 iterate 3
  ·first
    |refine(Sg f _ lo x A n c at_ t O.o I.o M.o G K).mono ?_
    |refine(Rb f _ lo x A n c at_ t O.o I.o M.o G K).mono ?_
   rintro e B ⟨j,g,a,z,l,rfl,P,C⟩;have q:=sH P;obtain⟨m,d⟩:=(o.o.ar C o.o.lt).heap;have L:ak (aA w (B.setRow (w.heap.size+1+1) (bE j g a (z:Int) l 0))):=⟨below_setRow (u.o.trans (C.mono u.o.size)) aq _⟩;go_wp2_with (refine wpList_store_row rfl 281 (.tmp 8) _ rfl (w.heap.size+1+1) (bE j g a (z:Int) l 0) rfl rfl m _ d jM aK dK ?_);have i:(B.setRow (w.heap.size+1+1) (bE j g a (z:Int) l 0)).heap[w.heap.size+1+1]? =some (.cells (bE j g a (z:Int) l 0) m (0,0)):=setRow_heap _ _ _ _ _ _ d;refine bodyPost_ret (results_cell_row results290 _ _ (w.heap.size+1+1) m _ (0,0) _ aK i underlying281 rfl aF) rfl ?_;exact⟨j,g,a,z,l,0,rfl,fun e=>by obtain⟨rfl,g2,s⟩:=q.o e;exact⟨rfl,s.le,g2,(s.ia (s.jw p) _).rq aq⟩,L.o⟩
 all_goals
  refine(TV f _ lo x A n c at_ t O.o I.o M.o G K).mono ?_;rintro e B ⟨j,g,a,l,rfl,P,C⟩;have q:=sH P;obtain⟨m,d⟩:=(o.o.ar C o.o.lt).heap;have L:ak (aA w (B.setRow (w.heap.size+1+1) (bE j g a ((at_:Int)+1) l 0))):=⟨below_setRow (u.o.trans (C.mono u.o.size)) aq _⟩;go_wp2_with (refine wpList_store_row rfl 281 (.tmp 8) _ rfl (w.heap.size+1+1) (bE j g a ((at_:Int)+1) l 0) rfl rfl m _ d jM aK dK ?_);have i:(B.setRow (w.heap.size+1+1) (bE j g a ((at_:Int)+1) l 0)).heap[w.heap.size+1+1]? =some (.cells (bE j g a ((at_:Int)+1) l 0) m (0,0)):=setRow_heap _ _ _ _ _ _ d;refine bodyPost_ret (results_cell_row results290 _ _ (w.heap.size+1+1) m _ (0,0) _ aK i underlying281 rfl aF) rfl ?_;exact⟨j,g,a,at_+1,l,0,rfl,fun e=>by obtain⟨rfl,s⟩:=q.o e;exact⟨rfl,s.le,aq,(s.ia (s.jw p) _).rq aq⟩,L.o⟩
abbrev En:=Int×Int×Bool
def JX(e:En):List Value:=[ae aj e.1,ae aj e.2.1, .bool e.2.2]
def yM(w:World)(B:Nat)(A:aC)(n:Nat)(es:List En):Prop:=es.length=n/\(0<n->∃a,A=some a/\a.block<B/\(∃cur b,w.heap[a.block]? =some (.cells cur 210 b))/\∀j e,es[j]? =some e->w.cell? (a.add (j*3))=some (ae aj e.1)/\w.cell? (bW (a.add (j*3)) 1)=some (ae aj e.2.1)/\w.cell? (bW (a.add (j*3)) 2)=some (.bool e.2.2))
section
variable {w w' : World} {B B' n : Nat} {A : aC} {es : List En}
theorem yM.Z(h:yM w B A n es)(a:Below B w w')(p:B<=B'):yM w' B' A n es:=⟨h.1,fun d=>by
 obtain⟨g,e,b,⟨cur,c,m⟩,f⟩:=h.2 d;refine⟨g,e,aq,⟨cur,c,(a.block _ b).trans m⟩,fun j e l=> ?_⟩;obtain⟨k,o,i⟩:=f j e l;exact⟨(a.cell (by rw[aO];exact b)).trans k,(a.cell (by simp only[aO];exact b)).trans o,(a.cell (by simp only[aO];exact b)).trans i⟩⟩
theorem yM.at(h:yM w B A n es){j:Nat}(c:j<n):∃(a:Addr) (e:En),A=some a/\es[j]? =some e/\w.cell? (a.add (j*3))=some (ae aj e.1)/\w.cell? (bW (a.add (j*3)) 1)=some (ae aj e.2.1)/\w.cell? (bW (a.add (j*3)) 2)=some (.bool e.2.2):=by
 obtain⟨a,e,_,_,d⟩:=h.2 aq;have b:j<es.length:=by rw[h.1];exact c
 have:=d j _ (List.getElem?_eq_getElem b);exact⟨a,_,e,List.getElem?_eq_getElem b,this⟩
theorem RQ(e:En):(JX e).length=3:=rfl
theorem aB.typ{g f:Nat}{vs:List Value}(h:aB w B e f (some ⟨g,0,none⟩) n c vs):∃cur d,w.heap[g]? =some (.cells cur e d):=by
 rcases h.2 with⟨a,_⟩|⟨i,cap,cur,a,_,b,_⟩
 ·cases a
 ·injection a with h1
  injection h1 with h1
  injection h1 with h1
  subst h1;exact⟨_,_,b⟩
theorem TQ(h:aB w B 210 3 A n c (es.flatMap JX))(b:es.length=n):yM w w.heap.size A n es:=⟨b,fun f=>by
 obtain⟨g,rfl,_,a⟩:=aB.form h f;refine⟨_,rfl,a,aB.typ h,fun j e d=> ?_⟩;have k:j<n:=by rw[<-b];exact(List.getElem?_eq_some_iff.1 d).1
 have key:∀q,q<3->w.cell? ⟨g,j*3+q,none⟩=(JX e)[q]? :=fun q i=>by
  rw[aB.cellAt h _ aq,kf JX RQ es j q e d i]
 refine⟨?_, ?_, ?_⟩
 ·have:=key 0 aq;rwa [bB]
 ·have:=key 1 aq;rwa [bB]
 ·have:=key 2 aq;rwa [bB]⟩
theorem yM.cut{t:TypeId}{bytes:Nat}(T:aS P t e 3 bytes){c j:Nat}(r:j<=n)(o:n<=c)(h:Int)(l:h=j):
 ∃g d,(∀w:World,(Instr.slice t (.slice A n c) none (some (ae aj h)) none).run P w= .ok (.slice g j d) w)/\j<=d/\d<=c/\∀w B es,yM w B A n es->yM w B g j (es.take j):=by
 subst l;refine⟨if c=0 then A else A.map (·.add 0),c,fun w=> ?_,aq,aq,fun w B es f=>⟨by rw[List.length_take,f.1];omega,fun p=> ?_⟩⟩
 ·rw[run_slice_h w t A n c (cP T) .i64 j aq aq,cQ T]
  simp[Result.andThen,sliced]
 ·obtain⟨k,rfl,i,m,a⟩:=f.2 aq
  rw[if_neg aq];refine⟨k,Hn,i,m,fun q e b=>a q e ?_⟩;rw[List.getElem?_take]at b;split at b
  ·exact b
  ·cases b
end
def iu(es:List En)(v:Int):Prop:=(∃l o t,es=(l,o,false)::t)/\0<=v/\v<=((es.countP (·.2.2):Nat):Int)
theorem zQ(b:Int):iu [(b,0,false)] 0:=⟨⟨_,_,_,rfl⟩,aq,aD⟩
theorem iu.len{es:List En}(h:iu es v):0<es.length:=by
 obtain⟨⟨l,o,t,rfl⟩,_⟩:=h;simp
theorem iu.abd{es:List En}(h:iu es v):v<=es.length:=by
 have:= @List.countP_le_length _ (fun e:En=>e.2.2) es;have:=h.2.2;omega
theorem iu.add{es:List En}(h:iu es v)(x:En):iu (es++[x]) v:=by
 obtain⟨⟨l,o,t,rfl⟩,a,b⟩:=h;refine⟨⟨l,o,t++[x],rfl⟩,a, ?_⟩;rw[List.countP_append];omega
theorem iu.aeR{es:List En}(h:iu es v)(l o:Int):iu (es++[(l,o,true)]) (v+1):=by
 obtain⟨⟨l,o,t,rfl⟩,b,a⟩:=h;refine⟨⟨l,o,t++[_],rfl⟩,aq, ?_⟩;rw[List.countP_append];simp at a⊢;omega
theorem vM{es:List En}{l o:Int}{t:List En}(e:es=(l,o,false)::t){m:Nat}(b:0<m):∃a,es.take m=(l,o,false)::a:=by
 subst e;obtain⟨m,rfl⟩:∃k,m=k+1:=⟨m-1,aq⟩;exact⟨_,List.take_succ_cons ..⟩
theorem mM{es:List En}{e:En}(h:es[m]? =some e):(es.take (m+1)).countP (·.2.2)=(es.take m).countP (·.2.2)+(if e.2.2 then 1 else 0):=by
 obtain⟨a,rfl⟩:=List.getElem?_eq_some_iff.1 h;rw[List.take_succ_eq_append_getElem a,List.countP_append,List.countP_singleton]
theorem iu.pop{es:List En}(h:iu es v){m:Nat}(k:es.length=m+1)(j:0<m){e:En}(d:es[m]? =some e)(c:e.2.2=false):iu (es.take m) v:=by
 have a:=mM d;rw[List.take_of_length_le aq,c]at a;obtain⟨⟨l,o,t,g⟩,i,p⟩:=h;obtain⟨f,b⟩:=vM g j;refine⟨⟨l,o,f,b⟩,i, ?_⟩;simp at a;omega
def tO(es:List En)(m:Nat):Prop:=m<=es.length/\(es.take m).countP (·.2.2)=es.countP (·.2.2)
theorem tO.start(es:List En):tO es es.length:=⟨Nat.le_refl _,by rw[List.take_of_length_le cr]⟩
theorem tO.pos{es:List En}(h:tO es m)(a:iu es v)(d:0<v):0<m:=by
 rcases m with _|m
 ·have b:=h.2
  have c:=a.2.2;simp at b;omega
 ·omega
theorem tO.step{es:List En}{e:En}(h:tO es (m+1))(b:es[m]? =some e)(c:e.2.2=false):tO es m:=by
 have a:=mM b;rw[c]at a;exact⟨Bl,by rw[<-h.2,a];simp⟩
theorem tO.stop{es:List En}{e:En}(h:tO es (m+1))(g:iu es v)(k:0<v)(a:es[m]? =some e)(b:e.2.2=true):iu (es.take m) (v-1):=by
 have d:=mM a;rw[b,h.2]at d;obtain⟨⟨l,o,t,c⟩,q,p⟩:=g;have j:0<m:=by
  rcases m with _|m
  ·subst c
   simp at a;subst a;cases b
  ·omega
 obtain⟨i,f⟩:=vM c j;refine⟨⟨l,o,i,f⟩,aq, ?_⟩;simp at d;omega
end Go.Proofs.YtpidckelbgbbkaaGreatDoor
