/- Part of LineCovers. -/
import Derived.Test.YtklncadpkniojaaGreatDoorAE
import Derived.Test.YtklncadpkniojaaGreatDoorAD
namespace Go.Proofs.YtklncadpkniojaaGreatDoor
open Go.ChangeShapes Go.WideShapes Go.ChangeAt Go.RowKit Go.Proofs.Tryz
open Go renaming World->ahh,Value->ahj,Calls->ahk,TypeId->ahm,Ending->ahn
open Go.RowKit renaming Below->ahi,wrap64->ahl
open Go.Value renaming int->ae
open Go.IntKind renaming i64->aj
set_option linter.all false
set_option maxRecDepth 100000
set_option maxHeartbeats 16000000
variable{P Q:aC->Prop}{cs:Array ahj}{B N c d g k m n:Nat}{G:Prop}{W w:ahh}{e:ahm}{A:aA}{L:List aC->Prop}{l:Int}
def iP(P:aC->Prop)(lo a:Int)(gs:List aC):Prop:=bk lo a gs/\∀g∈gs,P g
def qX(g:aC):Prop:= -1<=nth g 5/\nth g 5<=50000
theorem iP.each{lo b:Int}(gs:List aC)(h:iP P lo b gs):∀g∈gs,Fq lo b g/\P g:=fun g a=>⟨h.1.1 (nth g 1) (List.mem_map.2 ⟨g,a,rfl⟩),h.2 g a⟩
def wL(P:aC->Prop)(cs:aC)(i:Nat)(xs:List aC):Prop:=aL xs=cs.take i/\∀g∈xs,P g
theorem wL.nil(P:aC->Prop)(cs:aC):wL P cs 0 []:=⟨rfl,aQ⟩
theorem wL.more{cs:aC}{i:Nat}{xs:List aC}(h:wL P cs i xs){g:aC}(b:i<cs.length)(c:nth g 1=nth cs i)(d:P g):wL P cs (i+1) (xs++[g]):=by
 refine⟨?_,fun x a=> ?_⟩
 .rw[fM,h.1,List.take_succ_eq_append_getElem b,<-cB b,<-c]
  rfl
 .rcases List.mem_append.1 a with a|a
  .exact h.2 x a
  .simp at a;subst a;exact d
theorem wL.full{lo a:Int}{cs:aC}{xs:List aC}(h:wL P cs n xs)(b:CS lo a cs)(c:cs.length=n):iP P lo a xs:=⟨by show CS _ _ _;rw[h.1,List.take_of_length_le (by omega)];exact b,h.2⟩
theorem tg{gs:List aC}{j:Nat}(a:j<gs.length):fC gs j∈gs:=by
 have e:fC gs j=gs[j]:=by simp[fC,a]
 rw[e];exact List.getElem_mem a
theorem aeA(s:G:=by
 obtain⟨u,rfl⟩:∃u:Nat,x6=(u:Int):=⟨x6.toNat,ak⟩
 have hui:u<i:=ak;have j6:=aU u i;clear h6;obtain⟨g2,rfl,_,_⟩:=O2.o.form ak;go_wp2_with fail;have⟨w2,lf⟩:=eX (wr.alloc (.cells (v10 x0 x1 x2 x3 x4 (-1) (u:Int) x7 x8 x9) 120));have XX:aq (Bx w2 wr.heap.size (v10 x0 x1 x2 x3 x4 (-1) (u:Int) x7 x8 x9)):=⟨Y9⟩;have BX:aq (az wr w2):=⟨YZ⟩;rw[<-lf];clear lf e0 e1 e2 e3 e4 e5 e6 e7 e8 e9;obtain⟨z0,z1,z2,z3,z4,z5,z6,z7,z8,z9,_,_,_,_,k3,k4,_⟩:=(O2.o.ar BX.o).o.bD hui;have s3:=XX.o.cell 4;have s5:=XX.o.cell 6;simp at s3 s5;have⟨K3,S3,S5⟩:=lc3 k4 s3 s5;clear k3 k4 s3 s5;refine aS (fun _=>none) 10 rfl aF aF aF aF aF rfl ?_;refine mLw ?_;intro nq hE;have BA:=BX.o.trans (nq.2.mono BX.o.size);have XA:=XX.o.ar nq.2 XX.o.lt;have cc:=XA.cell 4;simp at cc;have fz:=XA.fz 4;have XB:aq (∀v:Int,Bx (nq.1.setCell ⟨wr.heap.size,4,none⟩ (ae aj v)) wr.heap.size ((v10 x0 x1 x2 x3 x4 (-1) (u:Int) x7 x8 x9).setIfInBounds 4 (ae aj v))):=⟨fun v=>XA.jR 4 _⟩;have BB:aq (∀v:Int,az wr (nq.1.setCell ⟨wr.heap.size,4,none⟩ (ae aj v))):=⟨fun v=>Below.setCell BA (p:=⟨wr.heap.size,4,none⟩) bW _⟩;clear K3 S3 S5;go_simp;generalize aV:ahl _=v4;clear aV;have XX:=sH (XB.o v4);have BX:=sH (BB.o v4);generalize dv:nq.1.setCell _ _=w9;rw[dv]at XX BX;clear dv cc fz hE XB BB XA BA;have XX:aq (Bx w9 wr.heap.size (v10 x0 x1 x2 x3 v4 (-1) (u:Int) x7 x8 x9)):=XX;have⟨q0,q1,q2,q3,q4,q5,q6,q7,q8,q9⟩:=XX.o.zP;have f6:=XX.o.fz 6;have O5:aq (fR (w9.setCell ⟨wr.heap.size,6,none⟩ (ae aj (-1))) w.heap.size (wL qX (aL gs) i) _ i c2):=⟨O2.o.ar (Below.setCell BX.o (p:=⟨wr.heap.size,6,none⟩) bW _)⟩;have B5:aq (az w (w9.setCell ⟨wr.heap.size,6,none⟩ (ae aj (-1)))):=⟨BE.o.trans ((Below.setCell BX.o (p:=⟨wr.heap.size,6,none⟩) bW _).mono hs)⟩;have hs9:=BX.o.size;go_wp2_with (at_builtin;refine bK (L':=wL qX (aL gs) (i+1)) my rfl (.tmp 66) (.tmp 68) rfl rfl (O5.o.alloc _) rfl [x0,x1,x2,x3,v4,-1,-1,x7,x8,x9] rfl (cg _ _ _ _ _ aQ rfl) (fun xs _ _ h=>h.more QX.o.2 QX.o.1 WX) ak cw ?_;intro A8 c8 w8 o8 b8 _ _;have O8:=sH o8;have B8:aq (az w w8):=⟨(B5.o.alloc cw _).trans b8⟩;clear o8 b8);go_roundg(n-i)
 .exact⟨i+1,A8,c8,ak,ak,rfl,aT,O8,B8⟩
 omega):G:=s
theorem aeT(s:G:=by
 obtain⟨u,rfl⟩:∃u:Nat,x6=(u:Int):=⟨x6.toNat,ak⟩
 have j5:decide (u<i)=false:=gW;have j6:decide ((u:Int)<(i:Int))=false:=gW;clear h6;have O5:aq (fR (wr.alloc (.cells (v10 x0 x1 x2 x3 x4 (-1) (-1) x7 x8 x9) 120)) w.heap.size (wL qX (aL gs) i) A2 i c2):=⟨O2.o.ar (av _ _)⟩;have B5:aq (az w (wr.alloc (.cells (v10 x0 x1 x2 x3 x4 (-1) (-1) x7 x8 x9) 120))):=⟨BE.o.alloc hs _⟩;have hs9:wr.heap.size<=(wr.alloc (.cells (v10 x0 x1 x2 x3 x4 (-1) (-1) x7 x8 x9) 120)).heap.size:=aQ;go_wp2_with (at_builtin;refine bK (L':=wL qX (aL gs) (i+1)) my rfl (.tmp 66) (.tmp 68) rfl rfl (O5.o.alloc _) rfl [x0,x1,x2,x3,x4,-1,-1,x7,x8,x9] rfl (cg _ _ _ _ _ aQ rfl) (fun xs _ _ h=>h.more QX.o.2 QX.o.1 WX) ak cw ?_;intro A8 c8 w8 o8 b8 _ _;have O8:=sH o8;have B8:aq (az w w8):=⟨(B5.o.alloc cw _).trans b8⟩;clear o8 b8);go_roundg(n-i)
 .exact⟨i+1,A8,c8,ak,ak,rfl,aT,O8,B8⟩
 omega):G:=s
theorem ad9(s:G:=by
 have j5:decide (0<=x6)=false:=gW
 clear h6;have O5:aq (fR (wr.alloc (.cells (v10 x0 x1 x2 x3 x4 (-1) (-1) x7 x8 x9) 120)) w.heap.size (wL qX (aL gs) i) A2 i c2):=⟨O2.o.ar (av _ _)⟩;have B5:aq (az w (wr.alloc (.cells (v10 x0 x1 x2 x3 x4 (-1) (-1) x7 x8 x9) 120))):=⟨BE.o.alloc hs _⟩;have hs9:wr.heap.size<=(wr.alloc (.cells (v10 x0 x1 x2 x3 x4 (-1) (-1) x7 x8 x9) 120)).heap.size:=aQ;go_wp2_with (at_builtin;refine bK (L':=wL qX (aL gs) (i+1)) my rfl (.tmp 66) (.tmp 68) rfl rfl (O5.o.alloc _) rfl [x0,x1,x2,x3,x4,-1,-1,x7,x8,x9] rfl (cg _ _ _ _ _ aQ rfl) (fun xs _ _ h=>h.more QX.o.2 QX.o.1 WX) ak cw ?_;intro A8 c8 w8 o8 b8 _ _;have O8:=sH o8;have B8:aq (az w w8):=⟨(B5.o.alloc cw _).trans b8⟩;clear o8 b8);go_roundg(n-i)
 .exact⟨i+1,A8,c8,ak,ak,rfl,aT,O8,B8⟩
 omega):G:=s
theorem Pb(lo j:Int)(A:aA)(n c:Nat)(w:ahh)(h:kT w (bk lo j) A n)(x:n<=50000):ahk prog 122 #[.slice A n c] w (Sc w (iP qX lo j) n):=by
 obtain⟨gs,k,f⟩:=h;have R:=sH f;have HN:aq (gs.length=n):=⟨f.1⟩;have q:aq (CS lo j (aL gs)):=⟨k⟩;clear k f;go_enter func122,ntmps122;go_wp2;go_loopg[3,4,5](n+1)(fun gg v3 v4 _ wr=>∃(i:Nat) (A2:aA) (c2:Nat),n-i<gg/\i<=n/\v3=.slice A2 i c2/\v4=ae aj (i:Int)/\aq (fR wr w.heap.size (wL qX (aL gs) i) A2 i c2)/\aq (az w wr))
 .exact⟨0,none,0,ak,ak,rfl,rfl,⟨OL.nil _ _ _ _ (wL.nil _ _)⟩,cA⟩
 obtain⟨i,A2,c2,y,m,rfl,rfl,O2,BE⟩:=hrel;by_cases aK:i<n;rotate_left
 .obtain rfl:i=n:=by omega
  go_wp2;go_ret;exact⟨_,_,rfl,O2.o.imp fun xs _ _ h=>h.full q.o (by rw[dM,HN.o]),BE.o⟩
 obtain⟨s,x0,x1,x2,x3,x4,a,x6,x7,x8,x9,rfl,hQ,e0,e1,e2,e3,e4,e5,e6,e7,e8,e9⟩:=(R.o.Z BE.o BE.o.size).bD aK;have QX:aq (x1=nth (aL gs) i/\i<(aL gs).length):=⟨abO⟩;have hs:=BE.o.size;have z:=aU i n;clear hQ;by_cases d:0<=a/\a<i
 .obtain⟨t,rfl⟩:∃t:Nat,a=(t:Int):=⟨a.toNat,ak⟩
  have e:t<i:=ak;have l:=aU t i;clear d;go_wp2_with fail;have⟨w2,lf⟩:=eX (wr.alloc (.cells (v10 x0 x1 x2 x3 x4 (t:Int) x6 x7 x8 x9) 120));have XX:aq (Bx w2 wr.heap.size (v10 x0 x1 x2 x3 x4 (t:Int) x6 x7 x8 x9)):=⟨Y9⟩;have BX:aq (az wr w2):=⟨YZ⟩;rw[<-lf];clear lf e0 e1 e2 e3 e4 e5 e6 e7 e8 e9;obtain⟨g2,rfl,_,_⟩:=O2.o.form ak;obtain⟨z0,z1,z2,z3,z4,z5,z6,z7,z8,z9,_,_,_,_,k3,k4,_⟩:=(O2.o.ar BX.o).o.bD e;have s3:=XX.o.cell 3;have s5:=XX.o.cell 5;simp at s3 s5;have⟨K3,S3,S5⟩:=lc3 k3 s3 s5;clear k3 k4 s3 s5;refine aS (fun _=>none) 10 rfl aF aF aF aF aF rfl ?_;refine mLw ?_;intro nq hE;have BA:=BX.o.trans (nq.2.mono BX.o.size);have XA:=XX.o.ar nq.2 XX.o.lt;have cc:=XA.cell 3;simp at cc;have fz:=XA.fz 3;have XB:aq (∀v:Int,Bx (nq.1.setCell ⟨wr.heap.size,3,none⟩ (ae aj v)) wr.heap.size ((v10 x0 x1 x2 x3 x4 (t:Int) x6 x7 x8 x9).setIfInBounds 3 (ae aj v))):=⟨fun v=>XA.jR 3 _⟩;have BB:aq (∀v:Int,az wr (nq.1.setCell ⟨wr.heap.size,3,none⟩ (ae aj v))):=⟨fun v=>Below.setCell BA (p:=⟨wr.heap.size,3,none⟩) bW _⟩;clear K3 S3 S5;go_simp;generalize aV:ahl _=v3;clear aV;have XX:=sH (XB.o v3);have BX:=sH (BB.o v3);generalize dv:nq.1.setCell _ _=w9;rw[dv]at XX BX;clear dv cc fz hE XB BB XA BA;have XX:aq (Bx w9 wr.heap.size (v10 x0 x1 x2 v3 x4 (t:Int) x6 x7 x8 x9)):=XX;go_wp2_with fail;obtain⟨z0,z1,z2,z3,z4,z5,z6,z7,z8,z9,_,_,_,_,k3,k4,_⟩:=(O2.o.ar BX.o).o.bD e;have s3:=XX.o.cell 4;have s5:=XX.o.cell 5;simp at s3 s5;have⟨K3,S3,S5⟩:=lc3 k4 s3 s5;clear k3 k4 s3 s5;refine aS (fun _=>none) 10 rfl aF aF aF aF aF rfl ?_;refine mLw ?_;intro nq hE;have BA:=BX.o.trans (nq.2.mono BX.o.size);have XA:=XX.o.ar nq.2 XX.o.lt;have cc:=XA.cell 4;simp at cc;have fz:=XA.fz 4;have XB:aq (∀v:Int,Bx (nq.1.setCell ⟨wr.heap.size,4,none⟩ (ae aj v)) wr.heap.size ((v10 x0 x1 x2 v3 x4 (t:Int) x6 x7 x8 x9).setIfInBounds 4 (ae aj v))):=⟨fun v=>XA.jR 4 _⟩;have BB:aq (∀v:Int,az wr (nq.1.setCell ⟨wr.heap.size,4,none⟩ (ae aj v))):=⟨fun v=>Below.setCell BA (p:=⟨wr.heap.size,4,none⟩) bW _⟩;clear K3 S3 S5;go_simp;generalize aV:ahl _=v4;clear aV;have XX:=sH (XB.o v4);have BX:=sH (BB.o v4);generalize dv:nq.1.setCell _ _=w9;rw[dv]at XX BX;clear dv cc fz hE XB BB XA BA;have XX:aq (Bx w9 wr.heap.size (v10 x0 x1 x2 v3 v4 (t:Int) x6 x7 x8 x9)):=XX;have⟨q0,q1,q2,q3,q4,q5,q6,q7,q8,q9⟩:=XX.o.zP;have f6:=XX.o.fz 6;have O5:aq (fR (w9.setCell ⟨wr.heap.size,6,none⟩ (ae aj (-1))) w.heap.size (wL qX (aL gs) i) _ i c2):=⟨O2.o.ar (Below.setCell BX.o (p:=⟨wr.heap.size,6,none⟩) bW _)⟩;have B5:aq (az w (w9.setCell ⟨wr.heap.size,6,none⟩ (ae aj (-1)))):=⟨BE.o.trans ((Below.setCell BX.o (p:=⟨wr.heap.size,6,none⟩) bW _).mono hs)⟩;have hs9:=BX.o.size;go_wp2_with (at_builtin;refine bK (L':=wL qX (aL gs) (i+1)) my rfl (.tmp 66) (.tmp 68) rfl rfl (O5.o.alloc _) rfl [x0,x1,x2,v3,v4,(t:Int),-1,x7,x8,x9] rfl (cg _ _ _ _ _ aQ rfl) (fun xs _ _ h=>h.more QX.o.2 QX.o.1 WX) ak cw ?_;intro A8 c8 w8 o8 b8 _ _;have O8:=sH o8;have B8:aq (az w w8):=⟨(B5.o.alloc cw _).trans b8⟩;clear o8 b8);go_roundg(n-i)
  .exact⟨i+1,A8,c8,ak,ak,rfl,aT,O8,B8⟩
  omega
 .have g:a<0∨(0<=a/\(i:Int)<=a):=by omega
  clear d;rcases g with d|d
  .have r:decide (0<=a)=false:=gW
   clear d;have b:x6<0∨(0<=x6/\(i:Int)<=x6)∨(0<=x6/\x6<(i:Int)):=ak;rcases b with h6|h6|h6
   .exact ad9
   .exact aeT
   .exact aeA
  .obtain⟨t,rfl⟩:∃t:Nat,a=(t:Int):=⟨a.toNat,ak⟩
   have r:decide (t<i)=false:=gW;have l:decide ((t:Int)<(i:Int))=false:=gW;clear d;have b:x6<0∨(0<=x6/\(i:Int)<=x6)∨(0<=x6/\x6<(i:Int)):=ak;rcases b with h6|h6|h6
   .exact ad9
   .exact aeT
   .exact aeA
abbrev bG(A:aA)(m c:Nat)(x:Int)(b:Bool)(l:Int):Array ahj:=#[.slice A m c,ae aj x,.bool b,ae aj l]
def PDn(w:ahh)(Q:List aC->Prop)(n:Nat)(e:ahn)(a:ahh):Prop:=∃(A:aA) (m c x:Nat) (b:Bool) (l:Int),e=.returned (.agg (bG A m c x b l))/\(b=true->m=n/\n<=c/\x<=n+1/\kT a Q A n)/\az w a
theorem Oq.gj(h:Oq w B e k Q A n c)(m:g<B):bM A (some ⟨g,0,none⟩):=by
 obtain⟨gs,a,o,d⟩:=h;rcases d.2 with⟨b,_⟩|⟨p,cap,cur,b,f,l,r⟩
 .injection b with a
  rw[a];exact lX _
 .injection b with a
  rw[a];intro x j i;simp at j i;omega
theorem jQ:(prog.info? 288).map (·.size)=some 4:=by kernel_rfl
theorem OL.gj(h:OL w B e k L A n c)(a:g<B):bM A (some ⟨g,0,none⟩):=h.o.gj a
theorem Mt(f:cY)(k:Lk)(lo B:Int)(A:aA)(n c at_:Nat)(w:ahh)(h:bZ w w.heap.size f)(Z:mA w w.heap.size k)(X:kT w (bk lo B) A n)(J:n<=50000)(H:at_<n):
 ahk prog 293 #[f.v,k.v,.slice A n c,ae aj (at_:Int)] w (PDn w (bk lo B) n):=by
 have⟨G,aP,s,W,p⟩:=box2 w f.row 96 k.row 161;have R:=sH (h.Z s.o s.o.size);have V:=sH (Z.Z s.o s.o.size);have Y:=sH (X.Z s.o s.o.size);have P:G.heap.size=w.heap.size+1+1:=oO;have⟨c0,T,z,U,c4,c5⟩:=W.o.f6;have⟨M,F,Q,N⟩:=p.o.k4;have D:k.kind=6∨k.kind=7∨k.kind=8∨k.kind=9∨k.kind=10∨k.kind=11∨((k.kind==6)=false/\(k.kind==7)=false/\(k.kind==8)=false/\(k.kind==9)=false/\(k.kind==10)=false/\(k.kind==11)=false):=cw;obtain⟨kk,fl,st,S,sn,sc⟩:=k;dsimp only at D M F Q N;rcases D with rfl|rfl|rfl|rfl|rfl|rfl|⟨k1,k2,k3,k4,k5,k6⟩
 all_goals
  go_enter func293,ntmps293;go_wp2_with fail;rw[<-aP];clear aP;generalize v:G.alloc (.cells (bG none 0 0 0 false 0) 288)=t;have p:aq (Bx t (w.heap.size+1+1) (bG none 0 0 0 false 0)):=⟨by rw[<-v];exact Bx.gY _ _ _ P⟩;have b:az G t:=by rw[<-v];exact av _ _
  have x:=s.t b;have K:=sH (R.o.Z b b.size);have E:=sH (V.o.Z b b.size);have I:=sH (Y.o.Z b b.size);have c0:=au c0 b;have T:=au T b;have z:=au z b;have U:=au U b;have c4:=au c4 b;have c5:=au c5 b
  have M:=au M b;have F:=au F b;have Q:=au Q b;have N:=au N b
  have o:w.heap.size+1+1<t.heap.size:=p.o.lt
 rotate_right
 .obtain⟨m,l⟩:=p.o.heap
  refine bodyPost_ret (results_cell_row results293 _ _ (w.heap.size+1+1) m _ (0,0) _ aB l underlying288 rfl aF) rfl ?_;exact⟨none,0,0,0,false,0,rfl,aQ,x.o⟩
 iterate 3
  .first
    |refine(We f _ lo B A n c at_ t K.o E.o I.o J H).mono ?_
    |refine(Tf f _ lo B A n c at_ t K.o E.o I.o J H).mono ?_
   rintro e y ⟨g,j,a,u,d,rfl,O,C⟩;have r:=sH O;obtain⟨m,i⟩:=(p.o.ar C p.o.lt).heap;have L:aq (az w (y.setRow (w.heap.size+1+1) (bG g j a (u:Int) d 0))):=⟨below_setRow (x.o.trans (C.mono x.o.size)) ak _⟩;go_wp2_with (refine wpList_store_row rfl 288 (.tmp 8) _ rfl (w.heap.size+1+1) (bG g j a (u:Int) d 0) rfl rfl m _ i jQ aB dJ ?_);have l:(y.setRow (w.heap.size+1+1) (bG g j a (u:Int) d 0)).heap[w.heap.size+1+1]? =some (.cells (bG g j a (u:Int) d 0) m (0,0)):=setRow_heap _ _ _ _ _ _ i;refine bodyPost_ret (results_cell_row results293 _ _ (w.heap.size+1+1) m _ (0,0) _ aB l underlying288 rfl aF) rfl ?_;exact⟨g,j,a,u,d,0,rfl,fun e=>by obtain⟨rfl,g2,q⟩:=r.o e;exact⟨rfl,q.le,g2,(q.fH (q.gj o) _).rl ak⟩,L.o⟩
 all_goals
  refine(VX f _ lo B A n c at_ t K.o E.o I.o J H).mono ?_;rintro e y ⟨g,j,a,d,rfl,O,C⟩;have r:=sH O;obtain⟨m,i⟩:=(p.o.ar C p.o.lt).heap;have L:aq (az w (y.setRow (w.heap.size+1+1) (bG g j a ((at_:Int)+1) d 0))):=⟨below_setRow (x.o.trans (C.mono x.o.size)) ak _⟩;go_wp2_with (refine wpList_store_row rfl 288 (.tmp 8) _ rfl (w.heap.size+1+1) (bG g j a ((at_:Int)+1) d 0) rfl rfl m _ i jQ aB dJ ?_);have l:(y.setRow (w.heap.size+1+1) (bG g j a ((at_:Int)+1) d 0)).heap[w.heap.size+1+1]? =some (.cells (bG g j a ((at_:Int)+1) d 0) m (0,0)):=setRow_heap _ _ _ _ _ _ i;refine bodyPost_ret (results_cell_row results293 _ _ (w.heap.size+1+1) m _ (0,0) _ aB l underlying288 rfl aF) rfl ?_;exact⟨g,j,a,at_+1,d,0,rfl,fun e=>by obtain⟨rfl,q⟩:=r.o e;exact⟨rfl,q.le,ak,(q.fH (q.gj o) _).rl ak⟩,L.o⟩
def ZX(N:Nat)(cs:Array ahj):Sat:=⟨fun v w=>∃g:Nat,v=.pointer (some ⟨g,0,none⟩)/\N<=g/\Bx w g cs,fun v w e ⟨g,c,d,a⟩ b=>⟨g,c,d,a.ar b a.lt⟩⟩
theorem xe{w0:ahh}(n:aG w0)(cs:Array ahj)(t:ahm):(ZX w0.heap.size cs).p (.pointer (some ⟨n.1.heap.size,0,none⟩)) (n.1.alloc (.cells cs t))/\(∃m:aG w0,n.1.alloc (.cells cs t)=m.1)/\ahi n.1.heap.size n.1 (n.1.alloc (.cells cs t)):=
 ⟨⟨_,rfl,n.2.size,Bx.new _ _ _⟩,⟨⟨_,n.2.trans ((av _ _).mono n.2.size)⟩,rfl⟩,av _ _⟩
theorem ZX.get(h:(ZX N cs).p (.pointer (some ⟨g,0,none⟩)) w):Bx w g cs:=by
 obtain⟨a,e,_,h⟩:=h;injection e with e
 injection e with e
 injection e with e
 subst e;exact h
def J7(Q:List aC->Prop)(n:Nat)(w:ahh)(A:aA)(m c x:Nat)(b:Bool):Prop:=b=true->m=n/\n<=c/\x<=n+1/\kT w Q A n
def Sa(Q:List aC->Prop)(n:Nat):Sat:=⟨fun v w=>∃(A:aA) (m c x:Nat) (b:Bool) (l:Int),v=.agg (bG A m c x b l)/\J7 Q n w A m c x b,fun v w g ⟨A,m,c,x,b,l,f,a⟩ d=>⟨A,m,c,x,b,l,f,fun e=>⟨(a e).1,(a e).2.1,(a e).2.2.1,(a e).2.2.2.Z d d.size⟩⟩⟩
theorem Sa.get{Q:List aC->Prop}{x:Nat}{b:Bool}(h:(Sa Q n).p (.agg (bG A m c x b l)) w):J7 Q n w A m c x b:=by
 obtain⟨r,k,c',i,o,s,e,h⟩:=h;simp[bG]at e;obtain⟨⟨f,j,d⟩,q,g,p⟩:=e;have a:x=i:=ak;subst a;subst f;subst j;subst d;subst g
 exact h
theorem Bx.dn{b:Nat}{x:Int}{z:Bool}(h:Bx w b (bG A m c x z l)):w.cell? ⟨b,0,none⟩=some (.slice A m c)/\w.cell? ⟨b,1,none⟩=some (ae aj x)/\w.cell? ⟨b,2,none⟩=some (.bool z)/\w.cell? ⟨b,3,none⟩=some (ae aj l):=⟨h.cell 0,h.cell 1,h.cell 2,h.cell 3⟩
theorem Rq.ne(h:Rq w B k Q A n)(p:Bx w g cs)(u:cs.size<k)(i:0<n){f:Addr}(m:A=some f):f.block≠g:=by
 obtain⟨d,c,r,q⟩:=h i;obtain rfl:f=d:=Option.some.inj (m.symm.trans c);intro e;obtain⟨l,s,_,j⟩:=q 0 i;have a:=j (k-1) (l[k-1]' ak) (by rw[List.getElem?_eq_getElem]);obtain⟨t,o⟩:=p;unfold World.cell? at a;rw[aO,aO,e,o]at a;simp only at a;split at a
 .cases a
 .have b:=(Array.getElem?_eq_some_iff.1 a).1
  unfold Addr.add at b;split at b<;>split at b<;>(try simp only[Nat.zero_mul]at b)<;>omega
theorem Pd{d:ahh}{i q:Nat}{c:Addr}{v:ahj}(e:∀b,b≠g->d.heap[b]? =w.heap[b]?)(a:c.block≠g)(h:w.cell? ((c.add i).add q)=some v):d.cell? ((c.add i).add q)=some v:=by
 unfold World.cell? at h⊢;rw[aO,aO]at h⊢;rw[e _ a];exact h
theorem RL.off{c:ahh}(h:RL w B k L A n)(y:Bx w g cs)(z:cs.size<k)(l:∀b,b≠g->c.heap[b]? =w.heap[b]?):RL c B k L A n:=by
 have t:Rq w B k (fun _=>True) A n:=h.rq fun _ _ _ _=>trivial
 obtain⟨gs,f,u,s,i⟩:=h;refine⟨gs,f,u,s,fun d=> ?_⟩;obtain⟨v,e,a,o⟩:=i d;exact⟨v,e,a,fun j r m q x p=>Pd l (t.ne y z d e) (o j r m q x p)⟩
theorem RL.row(h:kT w L A n)(a:Bx w g cs)(c:cs.size<10)(ds:Array ahj):kT (w.setRow g ds) L A n:=by
 have:=RL.off h a c fun b a=>setRow_other w g b ds a
 unfold kT;simpa using this
def VK(d:Nat):Prop:=∀(f:cY) (lo a:Int) (b at_ l:Int) (A:aA) (n c:Nat) (w:ahh),bZ w w.heap.size f->kT w (bk lo a) A n->n<=c->n<=50000->
 ahk prog 252 #[f.v,ae aj b,.slice A n c,ae aj at_,ae aj l,ae aj (d:Int)] w (PDn w (bk lo a) n)
def neT(N:Nat)(Q:List aC->Prop)(n:Nat)(d:Option Tmp):Option Sat:=if d=some 55 then some (Sa Q n)else if d=some 14 then some (ZX N (bG none 0 0 0 false 0))else none
theorem Qi(d:Nat)(H:VK (d+1))(f:cY)(lo r:Int)(l:Int)(A:aA)(n c:Nat)(NA:aA)(j nc:Nat)(P:aA)(m pc:Nat)(w:ahh)(h:bZ w w.heap.size f)(hl:kT w (bk lo r) A n)(hN:cK w w.heap.size zF NA j nc)(hP:Fv w 0 n P m pc)(G:n<=c)(hn:n<=50000)(hd:d<=8):
 ahk prog 292 #[f.v,.slice A n c,.slice P m pc,.slice NA j nc,ae aj l,ae aj (d:Int)] w (PDn w (bk lo r) n):=by
 have HO:=sH H;have⟨Q,B⟩:=eX ((w.alloc (.cells f.row 96)).alloc (.cells (bG none 0 0 0 false 0) 288));have⟨O,q⟩:=eX (w.alloc (.cells f.row 96));have bF:az w O:=by rw[q];exact av _ _
 have xF:Bx O w.heap.size f.row:=by rw[q];exact Bx.new _ _ _
 have hsF:O.heap.size=w.heap.size+1:=by rw[q];simp
 have bU:Q=O.alloc (.cells (bG none 0 0 0 false 0) 288):=by rw[B,q]
 have b2:az O Q:=jx;have X1:=sH (xF.ar b2 xF.lt);have N:aq (Bx Q (w.heap.size+1) (bG none 0 0 0 false 0)):=⟨by rw[bU];exact Bx.gY _ _ _ hsF⟩;have t:=sH (bF.trans (b2.mono bF.size));have R:=sH (h.Z t.o t.o.size);have C:=sH (hl.Z t.o t.o.size);have RN:=sH (hN.Z t.o t.o.size);have RP:=sH (hP.ar t.o);have Z9:=hN.bd;have kU:=N.o.lt;go_enter func292,ntmps292;go_wp2;rw[<-B];clear B;go_loopg[1,4,13,14](j+1)(fun gg v1 v4 X _ wr=>∃(i:Nat) (A:aA) (c:Nat) (l:Int),j-i<gg/\i<=j/\v1=.slice A n c/\v4=ae aj l/\X=ae aj (i:Int)/\n<=c/\aq (az Q wr)/\aq (kT wr (bk lo r) A n))
 .exact⟨0,A,c,l,ak,ak,rfl,rfl,rfl,ak,cA,C⟩
 obtain⟨i,A,c,l,hg,Sk,rfl,rfl,rfl,G,b,C⟩:=hrel;have Y:=b.o.size;have M:=sH (RP.o.ar b.o);by_cases U:i<j
 .obtain⟨ad,y,z,rfl,e0,e1⟩:=xB (RN.o.Z b.o b.o.size) U
  have i4:=aU i j;by_cases hy0:y<0
  .go_wp2
   go_roundg(j-i)
   .exact⟨i+1,A,c,l,ak,ak,rfl,rfl,aT,G,b,C⟩
   omega
  obtain⟨a,rfl⟩:∃a:Nat,y=(a:Int):=⟨y.toNat,ak⟩;by_cases ham:a<m;rotate_left
  .have h1:((m:Int)<=(a:Int)):=by omega
   go_wp2;go_roundg(j-i)
   .exact⟨i+1,A,c,l,ak,ak,rfl,rfl,aT,G,b,C⟩
   omega
  have h1:¬((m:Int)<=(a:Int)):=ak;have h2:((a:Int)<(m:Int)):=ak;obtain⟨xs,_,_,u,_⟩:=M.o;obtain⟨gp,rfl,_,_⟩:=aw.form u ak;have p0:=bT u ham;generalize nth xs a=p at*;have⟨c0,c1,aW,c3,c4,c5⟩:=(X1.o.ar b.o X1.o.lt).f6;have RW:=sH (R.o.Z b.o b.o.size);have hO':=sH u;go_wp2;have⟨L0,L1,L2,L3,L4⟩:=lc5 c0 c1 aW c3 c4;have⟨L5,M0,M1,MP⟩:=lc4 c5 e0 e1 p0;refine aS (neT wr.heap.size (bk lo r) n) 20 rfl aF aF aF aF aF rfl ?_;refine mLw ?_;refine lwA (Sa (bk lo r) n) (fun o=> ?_) (fun v9 x=> ?_)
  .go_simp
   refine aX (Sa (bk lo r) n) ((HO.o f lo r z p l A n c o.1 (RW.o.Z o.2 o.2.size) (C.o.Z o.2 o.2.size) G ak).mono ?_);rintro e w5 ⟨E,I,c6,K,D,F,rfl,h6,hb⟩;exact⟨_,rfl,⟨E,I,c6,K,D,F,rfl,h6⟩,hb⟩
  obtain⟨_,_,E,I,c6,K,D,F,rfl,_⟩:=x;simp[Act.put];refine lwA (ZX wr.heap.size (bG none 0 0 0 false 0)) (fun o=> ?_) (fun v9 x=> ?_)
  .go_simp
   exact xe o _ _
  obtain⟨_,_,g,rfl,T,_⟩:=x;simp[Act.put];intro o W;have v:=ZX.get W.2;have s:=sH (Sa.get (by first|exact W.1.2|exact W.1));obtain⟨eD,zt⟩:=v.heap;refine wp_store_row 288 (.tmp 14) (.tmp 55) rfl g _ rfl rfl eD _ zt jQ rfl dJ ?_;have X8:=sH (v.row (ds:=bG E I c6 (K:Int) D F));have⟨w8,k⟩:=eX (o.1.setRow g (bG E I c6 (K:Int) D F));have S:az wr w8:=by rw[k];exact below_setRow o.2 T _
  have B8:=sH (b.o.trans (S.mono Y));have G8:=sH (C.o.Z S S.size);have H8:aq (J7 (bk lo r) n w8 E I c6 K D):=⟨fun e=>⟨(s.o e).1,(s.o e).2.1,(s.o e).2.2.1,by rw[k];exact((s.o e).2.2.2).row v (by decide) _⟩⟩;rw[<-k]at X8;rw[<-k];clear k;have⟨q0,q1,q2,q3⟩:=X8.o.dn;cases D
  .go_wp2
   go_roundg(j-i)
   .exact⟨i+1,A,c,F,ak,ak,rfl,rfl,aT,G,B8,G8⟩
   omega
  .obtain⟨rfl,V,h62,h63⟩:=H8.o rfl
   have G9:=sH h63;go_wp2;go_roundg(j-i)
   .exact⟨i+1,E,c6,F,ak,ak,rfl,rfl,aT,V,B8,G9⟩
   omega
 .obtain rfl:i=j:=by omega
  obtain⟨xs,Hx,_,u,hx⟩:=M.o;obtain⟨gp,rfl,_,_⟩:=aw.form u ak;obtain⟨L,hL,hLn⟩:∃L:Nat,nth xs (m-1)=L/\L<n:=by
   have hl:=u.len;have:=hx (nth xs (m-1)) Bk;exact⟨(nth xs (m-1)).toNat,ak,ak⟩
  have p0:=bT u (show m-1<m by omega);rw[hL]at p0;have em:(((m:Int)-1)=((m-1:Nat):Int)):=ak;have i4:((m-1:Nat):Int)<(m:Int):=ak;obtain⟨Z,J⟩:=(N.o.ar b.o N.o.lt).heap;have dr:(wr.setRow (w.heap.size+1) (bG A n c ((L:Int)+1) true l)).heap[w.heap.size+1]? =some (.cells (bG A n c ((L:Int)+1) true l) Z (0,0)):=setRow_heap _ _ _ _ _ _ J;have B5:aq (az w (wr.setRow (w.heap.size+1) (bG A n c ((L:Int)+1) true l))):=⟨below_setRow (t.o.trans (b.o.mono t.o.size)) ak _⟩;have G5:aq (kT (wr.setRow (w.heap.size+1) (bG A n c ((L:Int)+1) true l)) (bk lo r) A n):=⟨C.o.row (N.o.ar b.o N.o.lt) cr _⟩;go_wp2_with (refine wpList_store_row rfl 288 (.tmp 12) (.tmp 71) rfl (w.heap.size+1) (bG A n c ((L:Int)+1) true l) rfl rfl Z _ J jQ aB dJ ?_);refine bodyPost_ret (results_cell_row results292 _ _ (w.heap.size+1) Z _ (0,0) _ aB dr underlying288 rfl aF) rfl ?_;exact⟨A,n,c,L+1,true,l,rfl,fun _=>⟨rfl,G,ak,G5.o⟩,B5.o⟩
theorem VC(w:ahh)(o1 b:Obj)(cs:Array ahj)(t:ahm):az w (((w.alloc o1).alloc (.cells cs t)).alloc b)/\Bx (((w.alloc o1).alloc (.cells cs t)).alloc b) (w.heap.size+1) cs:=by
 have⟨a,e1⟩:=eX (w.alloc o1);rw[<-e1];have d:a.heap.size=w.heap.size+1:=by rw[e1];simp
 have c:az w a:=Rf;have x:=Bx.gY a cs t d;exact⟨(c.alloc ak _).alloc cw _,x.ar (av _ _) x.lt⟩
theorem Ys{o1:Obj}{i e j c4:Array ahj}{p u o v:ahm}(h:W=(((w.alloc (.cells i v)).alloc (.cells e p)).alloc (.cells j u)).alloc (.cells c4 o)):az w W/\Bx W w.heap.size i/\Bx W (w.heap.size+1) e/\Bx W (w.heap.size+1+1) j/\Bx W (w.heap.size+1+1+1) c4/\W.heap.size=w.heap.size+4:=by
 have⟨c,e1⟩:=eX (w.alloc (.cells i v));have⟨a,f⟩:=eX (c.alloc (.cells e p));have⟨b,g⟩:=eX (a.alloc (.cells j u));have h:W=b.alloc (.cells c4 o):=by rw[h,g,f,e1]
 have t:c.heap.size=w.heap.size+1:=by rw[e1];simp
 have r:a.heap.size=w.heap.size+1+1:=by rw[f];simp[t]
 have s:b.heap.size=w.heap.size+1+1+1:=by rw[g];simp[r]
 have y:az w c:=Rf;have n:az c a:=by rw[f];exact av _ _
 have k:az a b:=by rw[g];exact av _ _
 have d:az b W:=Ke;have q:Bx c w.heap.size i:=by rw[e1];exact Bx.new _ _ _
 have m:Bx a (w.heap.size+1) e:=by rw[f];exact Bx.gY _ _ _ t
 have l:Bx b (w.heap.size+1+1) j:=by rw[g];exact Bx.gY _ _ _ r
 have x:Bx W (w.heap.size+1+1+1) c4:=by rw[h];exact Bx.gY _ _ _ s
 exact⟨y.trans (((n.mono ak).trans (k.mono ak)).trans (d.mono ak)),((q.ar n q.lt).ar k ak).ar d ak,(m.ar k m.lt).ar d ak,l.ar d l.lt,x,by rw[h];simp[s]⟩
theorem aeB(s:G:=by
 go_enter func252,ntmps252
 go_wp2_with fail
 all_goals(
  obtain⟨b9,hX⟩:=VC w (.cells f.row 96) (.cells (bG none 0 0 0 false l) 288) (bG none 0 0 0 false l) 288;obtain⟨ty,dr⟩:=hX.heap;refine bodyPost_ret (results_cell_row results252 _ _ (w.heap.size+1) ty _ (0,0) _ aB dr underlying288 rfl aF) rfl ?_;exact⟨none,0,0,0,false,l,rfl,aQ,b9⟩)):G:=s
theorem iL(d:Nat)(hd:d<=9)(H:d<=8->VK (d+1)):VK d:=by
 intro f lo T lk at_ l A n c w h hl hc hn;have HO:=sH H;have vX:=h.rL.bd;by_cases h1:lk<0
 .exact aeB
 obtain⟨j,rfl⟩:∃j:Nat,lk=(j:Int):=⟨lk.toNat,ak⟩;by_cases h2:j<f.ln;rotate_left
 .have Dl:(f.ln:Int)<=(j:Int):=by omega
  go_enter func252,ntmps252;go_wp2_with fail
  all_goals(
   obtain⟨b9,hX⟩:=VC w (.cells f.row 96) (.cells (bG none 0 0 0 false l) 288) (bG none 0 0 0 false l) 288;obtain⟨ty,dr⟩:=hX.heap;refine bodyPost_ret (results_cell_row results252 _ _ (w.heap.size+1) ty _ (0,0) _ aB dr underlying288 rfl aF) rfl ?_;exact⟨none,0,0,0,false,l,rfl,aQ,b9⟩)
 have Dl:¬(f.ln:Int)<=(j:Int):=ak;by_cases h3:at_<0
 .exact aeB
 obtain⟨a,rfl⟩:∃a:Nat,at_=(a:Int):=⟨at_.toNat,ak⟩;by_cases h4:a<n;rotate_left
 .have Wn:(n:Int)<=(a:Int):=by omega
  go_enter func252,ntmps252;go_wp2_with fail
  all_goals(
   obtain⟨b9,hX⟩:=VC w (.cells f.row 96) (.cells (bG none 0 0 0 false l) 288) (bG none 0 0 0 false l) 288;obtain⟨ty,dr⟩:=hX.heap;refine bodyPost_ret (results_cell_row results252 _ _ (w.heap.size+1) ty _ (0,0) _ aB dr underlying288 rfl aF) rfl ?_;exact⟨none,0,0,0,false,l,rfl,aQ,b9⟩)
 have Wn:¬(n:Int)<=(a:Int):=ak;by_cases h5:d<=8;rotate_left
 .have h5':=aU 8 d
  go_enter func252,ntmps252;go_wp2_with fail
  all_goals(
   obtain⟨b9,hX⟩:=VC w (.cells f.row 96) (.cells (bG none 0 0 0 false l) 288) (bG none 0 0 0 false l) 288;obtain⟨ty,dr⟩:=hX.heap;refine bodyPost_ret (results_cell_row results252 _ _ (w.heap.size+1) ty _ (0,0) _ aB dr underlying288 rfl aF) rfl ?_;exact⟨none,0,0,0,false,l,rfl,aQ,b9⟩)
 have h5':=cv 8 d;clear h1 h3;obtain⟨ad,k,eL,hk,e0,e1,e2,e3⟩:=rD h.rL h2;obtain⟨J,x0,x1,x2,x3,x4,x5,x6,p,x8,x9,rfl,hQ,eg,_⟩:=hl.iX.bD h4;have⟨K,aP⟩:=eX ((((w.alloc (.cells f.row 96)).alloc (.cells (bG none 0 0 0 false 0) 288)).alloc (.cells (bG none 0 0 0 false l) 288)).alloc (.cells k.row 161));obtain⟨Z,xf,x2',x3',xk,kU⟩:=Ys (o1:=.cells f.row 96) aP;have B:aq (az w K):=⟨Z⟩;have X1:aq (Bx K w.heap.size f.row):=⟨xf⟩;have z:aq (Bx K (w.heap.size+1) (bG none 0 0 0 false 0)):=⟨x2'⟩;have E:aq (Bx K (w.heap.size+1+1) (bG none 0 0 0 false l)):=⟨x3'⟩;have X4:aq (Bx K (w.heap.size+1+1+1) k.row):=⟨xk⟩;have R:aq (bZ K K.heap.size f):=⟨h.Z Z Z.size⟩;have RK:aq (mA K K.heap.size k):=⟨hk.Z Z Z.size⟩;have GL:aq (kT K (bk lo T) (some J) n):=⟨hl.Z Z Z.size⟩;have EG:aq (K.cell? (J.add (a*10))=some (ae aj x0)):=⟨au eg Z⟩;have po:(j:Int)<(f.ln:Int):=ak;have IJ:=aU a n;have ox:=hk.rS.bd;clear H h hl hk Z xf x2' x3' xk hQ eg;obtain⟨em,G,gn,gc,MM,mn,mc,L,ln,lc,F,fn,fc,S,sn,sc⟩:=f;obtain⟨kk,fl,st,KS,X,sv⟩:=k;dsimp only at*;subst eL;have b3:az w (((w.alloc (.cells #[ae aj em,.slice G gn gc,.slice MM mn mc,.slice (some ad) ln lc,.slice F fn fc,.slice S sn sc] 96)).alloc (.cells #[.slice none 0 0,ae aj 0,.bool false,ae aj 0] 288)).alloc (.cells #[.slice none 0 0,ae aj 0,.bool false,ae aj l] 288)):=((av _ _).alloc aQ _).alloc cw _;have e0:=au e0 b3;have e1:=au e1 b3;have e2:=au e2 b3;have e3:=au e3 b3
 clear b3;have dj:decide ((j:Int)<0)=false:=gW;have da:decide ((a:Int)<0)=false:=gW;go_enter func252,ntmps252;go_wp2;rw[<-aP];clear aP e0 e1 e2 e3;have⟨c0,N,m,P,c4,c5⟩:=X1.o.f6;have⟨V,Q,U,M⟩:=X4.o.k4;have eg:=EG.o;dsimp only at c0 N m P c4 c5 V Q U M eg;have⟨L0,L1,L2,L3,L4,L5,M0,M1⟩:=lc8 c0 N m P c4 c5 V Q;have⟨M2,M3,LQ⟩:=lc3 U M eg;clear c0 N m P c4 c5 V Q U M eg;refine aD (kF 57 SB) aF aF ?_
 repeat(refine cF aB aB aB ?_;intro K9 di;go_big_quiet_op;go_big_quiet_on)
 refine lsA SB (fun s=> ?_) (fun v9 aV=> ?_)
 .go_simp
  exact bg (pH ⟨em,G,gn,gc,MM,mn,mc,some ad,ln,lc,F,fn,fc,S,sn,sc⟩ ⟨kk,fl,st,KS,X,sv⟩ x0 s.1 (R.o.Z s.2 s.2.size))
 obtain⟨b,rfl⟩:=aV;simp[Act.put]
 repeat(refine cF aB aB aB ?_;intro K9 di;go_big_quiet_op;go_big_quiet_on)
 intro s;obtain⟨D,C⟩:=s;clear L0 L1 L2 L3 L4 L5 M0 M1 M2 M3 LQ EG;have b3:az w D:=B.o.trans (C.mono B.o.size);have r3:=R.o.Z C C.size;have k3:=RK.o.Z C C.size;have g3:=GL.o.Z C C.size;have x1:=X1.o.ar C X1.o.lt;have x2:=z.o.ar C z.o.lt;have x3:=E.o.ar C E.o.lt;have x4:=X4.o.ar C X4.o.lt;clear B R RK GL X1 z E X4;have B:=sH b3;have R:=sH r3;have RK:=sH k3;have GL:=sH g3;have X1:=sH x1;have z:=sH x2;have E:=sH x3;have X4:=sH x4;have uV:=C.size;dsimp only;clear b3 r3 k3 g3 x1 x2 x3 x4 C;cases b;rotate_left
 .have⟨q0,q1,q2,q3⟩:=(E.o.ar (Below.refl D.heap.size D) E.o.lt).dn
  obtain⟨ty,g⟩:=(z.o.ar (Below.refl D.heap.size D) z.o.lt).heap;have dr:(D.setRow (w.heap.size+1) (bG none 0 0 0 false l)).heap[w.heap.size+1]? =some (.cells (bG none 0 0 0 false l) ty (0,0)):=setRow_heap _ _ _ _ _ _ g;have Y:aq (az w (D.setRow (w.heap.size+1) (bG none 0 0 0 false l))):=⟨below_setRow (B.o.trans (Below.mono (Below.refl D.heap.size D) B.o.size)) ak _⟩;go_wp2_with (refine wpList_store_row rfl 288 (.tmp 12) (.tmp 58) rfl (w.heap.size+1) (bG none 0 0 0 false l) rfl rfl ty _ g jQ aB dJ ?_);refine bodyPost_ret (results_cell_row results252 _ _ (w.heap.size+1) ty _ (0,0) _ aB dr underlying288 rfl aF) rfl ?_;exact⟨none,0,0,0,false,l,rfl,aQ,Y.o⟩
 have⟨c0,N,m,P,c4,c5⟩:=X1.o.f6;have⟨V,Q,U,M⟩:=X4.o.k4;dsimp only at c0 N m P c4 c5 V Q U M;by_cases h12:kk=12
 .subst h12
  have MT:=sH (Hp ⟨em,G,gn,gc,MM,mn,mc,some ad,ln,lc,F,fn,fc,S,sn,sc⟩ ⟨12,fl,st,KS,X,sv⟩ (Fq lo T) (some J) n c a D R.o RK.o GL.o.iX ak h4);go_wp2_with fail;refine MT.o.mono ?_;rintro e w4 ⟨i,A6,m6,c6,b6,rfl,h6,O⟩;have W:=sH h6;have u:=sH O;clear h6 O MT c0 N m P c4 c5 V Q U M;cases b6
  .clear W
   have⟨q0,q1,q2,q3⟩:=(E.o.ar u.o E.o.lt).dn;obtain⟨ty,g⟩:=(z.o.ar u.o z.o.lt).heap;have dr:(w4.setRow (w.heap.size+1) (bG none 0 0 0 false l)).heap[w.heap.size+1]? =some (.cells (bG none 0 0 0 false l) ty (0,0)):=setRow_heap _ _ _ _ _ _ g;have Y:aq (az w (w4.setRow (w.heap.size+1) (bG none 0 0 0 false l))):=⟨below_setRow (B.o.trans (Below.mono u.o B.o.size)) ak _⟩;go_wp2_with (refine wpList_store_row rfl 288 (.tmp 12) (.tmp 77) rfl (w.heap.size+1) (bG none 0 0 0 false l) rfl rfl ty _ g jQ aB dJ ?_);refine bodyPost_ret (results_cell_row results252 _ _ (w.heap.size+1) ty _ (0,0) _ aB dr underlying288 rfl aF) rfl ?_;exact⟨none,0,0,0,false,l,rfl,aQ,Y.o⟩
  by_cases t:l=0
  .have hl1:(l==0)=true:=by simp[t]
   clear t W;have⟨q0,q1,q2,q3⟩:=(E.o.ar u.o E.o.lt).dn;obtain⟨ty,g⟩:=(z.o.ar u.o z.o.lt).heap;have dr:(w4.setRow (w.heap.size+1) (bG none 0 0 0 false l)).heap[w.heap.size+1]? =some (.cells (bG none 0 0 0 false l) ty (0,0)):=setRow_heap _ _ _ _ _ _ g;have Y:aq (az w (w4.setRow (w.heap.size+1) (bG none 0 0 0 false l))):=⟨below_setRow (B.o.trans (Below.mono u.o B.o.size)) ak _⟩;go_wp2_with (refine wpList_store_row rfl 288 (.tmp 12) (.tmp 77) rfl (w.heap.size+1) (bG none 0 0 0 false l) rfl rfl ty _ g jQ aB dJ ?_);refine bodyPost_ret (results_cell_row results252 _ _ (w.heap.size+1) ty _ (0,0) _ aB dr underlying288 rfl aF) rfl ?_;exact⟨none,0,0,0,false,l,rfl,aQ,Y.o⟩
  have hl1:(l==0)=false:=by simp[t]
  clear t;obtain⟨tJ,hP⟩:=W.o rfl;have⟨c0,N,m,P,c4,c5⟩:=(X1.o.ar u.o X1.o.lt).f6;have⟨V,Q,U,M⟩:=(X4.o.ar u.o X4.o.lt).k4;dsimp only at tJ c0 N m P c4 c5 V Q U M;obtain⟨vm,x,rfl,hx,_,_,_,_,_,_,e6,_⟩:=jk (RK.o.Z u.o u.o.size).rS tJ;have HN:=sH hx.rN;have HP:aq (Fv w4 0 n A6 m6 c6):=⟨hP.cJ (Nat.zero_le _)⟩;have R4:=sH (R.o.Z u.o u.o.size);have G4:=sH (GL.o.Z u.o u.o.size);have i5:=aU i X;obtain⟨ty,g⟩:=(z.o.ar u.o z.o.lt).heap;have HX5:=sH g;have IC:=u.o.size;clear W hP hx g;go_wp2;have⟨L0,L1,L2,L3,L4,L5,M3,M6⟩:=lc8 c0 N m P c4 c5 M e6;clear c0 N m P c4 c5 V Q U M e6;refine aS (iZ 90 (Sa (bk lo T) n)) 13 rfl aF aF aF aF aF rfl ?_;refine mLw ?_;refine lwA (Sa (bk lo T) n) (fun s=> ?_) (fun v9 aV=> ?_)
  .go_simp
   refine aX (Sa (bk lo T) n) ((Qi d (HO.o h5) ⟨em,G,gn,gc,MM,mn,mc,some ad,ln,lc,F,fn,fc,S,sn,sc⟩ lo T _ (some J) n c x.N x.nn x.nc A6 m6 c6 s.1 (R4.o.Z s.2 s.2.size) (G4.o.Z s.2 s.2.size) (HN.o.Z s.2 s.2.size) (HP.o.ar s.2) hc ak h5).mono ?_);rintro e w5 ⟨r,m7,q,p,y,I,rfl,h7,O⟩;exact⟨_,rfl,⟨r,m7,q,p,y,I,rfl,h7⟩,O⟩
  obtain⟨_,_,r,m7,q,p,y,I,rfl,_⟩:=aV;simp[Act.put];intro s hE;have Tp:=sH (Sa.get (by first|exact hE.2|exact hE));have v:=(s.2.block (w.heap.size+1) ak).trans HX5.o;clear hE L0 L1 L2 L3 L4 L5 M3 M6;refine wp_store_row 288 (.tmp 12) (.tmp 90) rfl (w.heap.size+1) _ rfl rfl ty _ v jQ rfl dJ ?_;have dr:(s.1.setRow (w.heap.size+1) (bG r m7 q (p:Int) y I)).heap[w.heap.size+1]? =some (.cells (bG r m7 q (p:Int) y I) ty (0,0)):=setRow_heap _ _ _ _ _ _ v;have Y:aq (az w (s.1.setRow (w.heap.size+1) (bG r m7 q (p:Int) y I))):=⟨below_setRow (B.o.trans ((u.o.trans (s.2.mono u.o.size)).mono B.o.size)) ak _⟩;have G5:aq (J7 (bk lo T) n (s.1.setRow (w.heap.size+1) (bG r m7 q (p:Int) y I)) r m7 q p y):=⟨fun e=>⟨(Tp.o e).1,(Tp.o e).2.1,(Tp.o e).2.2.1,(Tp.o e).2.2.2.row ⟨ty,v⟩ cr _⟩⟩;go_wp2_with fail;refine bodyPost_ret (results_cell_row results252 _ _ (w.heap.size+1) ty _ (0,0) _ aB dr underlying288 rfl aF) rfl ?_;exact⟨r,m7,q,p,y,I,rfl,G5.o,Y.o⟩
 have YM:(kk==12)=false:=by simp[h12]
 clear h12;have SG:=sH (Mt ⟨em,G,gn,gc,MM,mn,mc,some ad,ln,lc,F,fn,fc,S,sn,sc⟩ ⟨kk,fl,st,KS,X,sv⟩ lo T (some J) n c a D R.o RK.o GL.o hn h4);go_wp2_with fail;refine SG.o.mono ?_;rintro e w5 ⟨r,m7,q,p,y,I,rfl,h7,O⟩;have H7:=sH h7;have bw:az D (w5.alloc (.cells (bG r m7 q (p:Int) y I) 288)):=O.alloc O.size _;have X8:aq (Bx (w5.alloc (.cells (bG r m7 q (p:Int) y I) 288)) w5.heap.size (bG r m7 q (p:Int) y I)):=⟨Bx.new _ _ _⟩;have B8:=B.t bw;obtain⟨ty,g⟩:=(z.o.ar bw z.o.lt).heap;have⟨q0,q1,q2,q3⟩:=(E.o.ar O E.o.lt).dn;have q0:=fun o=>aI q0 o;have q1:=fun o=>aI q1 o;have q2:=fun o=>aI q2 o;have q3:=fun o=>aI q3 o
 have hb5:=O.size;have B9:=B.t O;have hX4:aq (w5.heap[w.heap.size+1]? =some (.cells (bG none 0 0 0 false 0) ty (0,0))):=⟨((av w5 _).block _ ak).symm.trans g⟩;clear h7 O bw SG c0 N m P c4 c5 V Q U M;have BN:aq (az w ((w5.alloc (.cells (bG r m7 q (p:Int) y I) 288)).setRow (w.heap.size+1) (bG none 0 0 0 false l))):=⟨below_setRow B8.o ak _⟩;cases y
 .clear H7 X8
  have dr:=setRow_heap _ _ _ (bG none 0 0 0 false l) _ _ g;go_wp2_with (refine wpList_store_row rfl 288 (.tmp 12) (.tmp 103) rfl (w.heap.size+1) (bG none 0 0 0 false l) rfl rfl ty _ g jQ aB dJ ?_);refine bodyPost_ret (results_cell_row results252 _ _ (w.heap.size+1) ty _ (0,0) _ aB dr underlying288 rfl aF) rfl ?_;exact⟨none,0,0,0,false,l,rfl,aQ,BN.o⟩
 by_cases t:l=0
 .have hl1:(l==0)=true:=by simp[t]
  clear t H7 X8;have dr:=setRow_heap _ _ _ (bG none 0 0 0 false l) _ _ g;go_wp2_with (refine wpList_store_row rfl 288 (.tmp 12) (.tmp 103) rfl (w.heap.size+1) (bG none 0 0 0 false l) rfl rfl ty _ g jQ aB dJ ?_);refine bodyPost_ret (results_cell_row results252 _ _ (w.heap.size+1) ty _ (0,0) _ aB dr underlying288 rfl aF) rfl ?_;exact⟨none,0,0,0,false,l,rfl,aQ,BN.o⟩
 have hl1:(l==0)=false:=by simp[t]
 clear t X8;have⟨w6,gV⟩:=eX (w5.alloc (.cells (bG r m7 q (p:Int) true (ahl (l-1))) 288));have b6:az w5 w6:=by rw[gV];exact av _ _
 have B6:aq (az w w6):=⟨B9.o.trans (b6.mono ak)⟩;have v:=(b6.block (w.heap.size+1) ak).trans hX4.o;have W:aq (J7 (bk lo T) n w6 r m7 q p true):=⟨fun e=>⟨(H7.o e).1,(H7.o e).2.1,(H7.o e).2.2.1,(H7.o e).2.2.2.Z b6 b6.size⟩⟩;have dr:=setRow_heap _ _ _ (bG r m7 q (p:Int) true (ahl (l-1))) _ _ v;have Y:aq (az w (w6.setRow (w.heap.size+1) (bG r m7 q (p:Int) true (ahl (l-1))))):=⟨below_setRow B6.o ak _⟩;have G5:aq (J7 (bk lo T) n (w6.setRow (w.heap.size+1) (bG r m7 q (p:Int) true (ahl (l-1)))) r m7 q p true):=⟨fun e=>⟨(W.o e).1,(W.o e).2.1,(W.o e).2.2.1,(W.o e).2.2.2.row ⟨ty,v⟩ cr _⟩⟩;clear b6 H7 g;go_wp2_with (rw[<-gV];refine wpList_store_row rfl 288 (.tmp 12) (.tmp 107) rfl (w.heap.size+1) (bG r m7 q (p:Int) true (ahl (l-1))) rfl rfl ty _ v jQ aB dJ ?_);refine bodyPost_ret (results_cell_row results252 _ _ (w.heap.size+1) ty _ (0,0) _ aB dr underlying288 rfl aF) rfl ?_;exact⟨r,m7,q,p,true,ahl (l-1),rfl,G5.o,Y.o⟩
theorem J1:VK 0:=
 iL 0 ak fun _=>iL 1 ak fun _=>iL 2 ak fun _=>iL 3 ak fun _=>iL 4 ak fun _=>iL 5 ak fun _=>iL 6 ak fun _=>iL 7 ak fun _=>iL 8 ak fun _=>iL 9 ak fun h=>absurd h ak
def PSp(w:ahh)(Q:List aC->Prop)(n:Nat)(e:ahn)(a:ahh):Prop:=∃(A:aA) (c:Nat) (l:Int),e=.returned (.tuple #[.slice A n c,ae aj l])/\n<=c/\kT a Q A n/\az w a
def ZSp(Q:List aC->Prop)(n:Nat):Sat:=⟨fun v w=>∃(A:aA) (c:Nat) (l:Int),v=.tuple #[.slice A n c,ae aj l]/\n<=c/\kT w Q A n,fun v w f ⟨A,c,l,b,e,d⟩ a=>⟨A,c,l,b,e,d.Z a a.size⟩⟩
theorem ZSp.get{Q:List aC->Prop}(h:(ZSp Q n).p (.tuple #[.slice A n c,ae aj l]) w):n<=c/\kT w Q A n:=by
 obtain⟨g,c',f,e,h⟩:=h;simp at e;obtain⟨⟨a,b⟩,d⟩:=e;subst d;subst a;subst b
 exact h
theorem ZD(f:cY)(lo s:Int)(G N l:Int)(A:aA)(n c:Nat)(w:ahh)(h:bZ w w.heap.size f)(O:kT w (bk lo s) A n)(j:n<=c)(M:n<=50000):
 ahk prog 214 #[f.v,ae aj G,ae aj N,.slice A n c,ae aj l] w (PSp w (bk lo s) n):=by
 have⟨L,p,m,H⟩:=box1 w f.row 96;have R:=sH (h.Z m.o m.o.size);have d:=sH (O.Z m.o m.o.size);go_enter func214,ntmps214;go_wp2;rw[<-p];clear p;go_loopg[3,4,12,13,14](n+3)(fun gg v3 v4 C _ _ wr=>∃(i:Nat) (A:aA) (c:Nat) (l:Int),n+2-i<gg/\i<=n+1/\v3=.slice A n c/\v4=ae aj l/\C=ae aj (i:Int)/\n<=c/\aq (kT wr (bk lo s) A n)/\aq (az L wr))
 .exact⟨0,A,c,l,ak,ak,rfl,rfl,rfl,j,d,cA⟩
 obtain⟨i,A,c,l,hg,Q,rfl,rfl,rfl,j,d,g⟩:=hrel;by_cases v:i<n;rotate_left
 .have F:=cv i n
  go_wp2;go_ret2;exact⟨A,c,l,rfl,j,d.o,m.o.trans (g.o.mono m.o.size)⟩
 obtain⟨x,x0,x1,x2,x3,x4,V,b,x7,W,x9,rfl,hQ,_,_,_,_,_,_,_,_,_,Z⟩:=d.o.iX.bD v;have i4:=aU i n;have⟨c0,X,P,c3,c4,c5⟩:=(H.o.ar g.o H.o.lt).f6;have T:=sH (J1 f lo s G (i:Int) l (some x) n c wr (R.o.Z g.o g.o.size) d.o j M);go_wp2_with fail
 .refine T.o.mono ?_
  rintro e I ⟨q,o,c6,b,y,k,rfl,K,J⟩;have E:=sH K;have z:az wr (I.alloc (.cells (bG q o c6 (b:Int) y k) 288)):=J.alloc J.size _;have r:=g.t z;have S:=sH (d.o.Z z z.size);have t:=av I (.cells (bG q o c6 (b:Int) y k) 288);cases y
  .clear E t
   go_wp2;go_roundg(n+2-i)
   .exact⟨i+1,some x,c,k,ak,ak,rfl,rfl,aT,j,S,r⟩
   omega
  obtain⟨rfl,a,U,D⟩:=E.o rfl;have u:=sH (D.Z t t.size);by_cases Y:i+1<=b
  .have B:(i:Int)+1<=(b:Int):=by omega
   go_wp2_with fail
   all_goals first
    |(go_roundg(o+2-i)<;>first|omega|exact⟨b,q,c6,k,ak,ak,rfl,rfl,rfl,a,u,r⟩)
    |(go_roundg(o+2-i)<;>first|omega|exact⟨i+1,q,c6,k,ak,ak,rfl,rfl,aT,a,u,r⟩)
  .have B:¬(i:Int)+1<=(b:Int):=by omega
   go_wp2;go_roundg(o+2-i)
   .exact⟨i+1,q,c6,k,ak,ak,rfl,rfl,aT,a,u,r⟩
   omega
 .go_roundg(n+2-i)
  case measure=>omega
  case rel=>exact⟨i+1,some x,c,l,ak,ak,rfl,rfl,aT,j,d,g⟩
theorem adq(f:cY)(lo m:Int)(G:aA)(a V:Nat)(A:aA)(n c:Nat)(w:ahh)(h:bZ w w.heap.size f)(Q:kT w (bk lo m) A n)(q:n<=c)(O:n<=50000)(H:Rq w w.heap.size 2 Oi G a)(S:a<=1000000000):
 ahk prog 123 #[f.v,.slice G a V,.slice A n c] w (fun e F=>∃(A:aA) (c:Nat),e=.returned (.slice A n c)/\n<=c/\kT F (bk lo m) A n/\az w F):=by
 have⟨M,p,b,C⟩:=box1 w f.row 96;have R:=sH (h.Z b.o b.o.size);have r:=sH (Q.Z b.o b.o.size);have I:=sH (H.Z b.o b.o.size);go_enter func123,ntmps123;go_wp2;rw[<-p];clear p;go_loopg[2,7,8,15](a+1)(fun gg v2 v7 J _ wr=>∃(i:Nat) (A:aA) (c:Nat) (l:Int),a-i<gg/\i<=a/\v2=.slice A n c/\v7=ae aj l/\J=ae aj (i:Int)/\n<=c/\aq (kT wr (bk lo m) A n)/\aq (az M wr))
 .exact⟨0,A,c,65536,ak,ak,rfl,rfl,rfl,q,r,cA⟩
 obtain⟨i,A,c,l,hg,T,rfl,rfl,rfl,q,r,k⟩:=hrel;by_cases t:i<a;rotate_left
 .have B:=cv i a
  go_wp2;go_ret;exact⟨A,c,rfl,q,r.o,b.o.trans (k.o.mono b.o.size)⟩
 obtain⟨ad,x,y,rfl,_,P,W⟩:=(I.o.Z k.o k.o.size).AQ t;have i4:=aU i a;have⟨c0,K,u,X,c4,c5⟩:=(C.o.ar k.o C.o.lt).f6;have L:=sH (R.o.Z k.o k.o.size);go_wp2;have⟨L0,L1,Z,L3,L4,L5,M0,M1⟩:=lc8 c0 K u X c4 c5 P W;refine ba (iZ 29 (ZSp (bk lo m) n)) aF aF ?_;refine mLw ?_;refine lwA (ZSp (bk lo m) n) (fun d=> ?_) (fun Y s=> ?_)
 .go_simp
  refine aX (ZSp (bk lo m) n) ((ZD f lo m x y l A n c d.1 (L.o.Z d.2 d.2.size) (r.o.Z d.2 d.2.size) q O).mono ?_);rintro e w5 ⟨v,c6,z,rfl,g,o,U⟩;exact⟨_,rfl,⟨v,c6,z,rfl,g,o⟩,U⟩
 obtain⟨_,_,v,c6,z,rfl,_⟩:=s;simp[Act.put];refine mLw ?_;intro d N;obtain⟨g,o⟩:=ZSp.get N;have D:=sH o;have E:=k.t d.2;have⟨w6,j⟩:=eX d.1;rw[<-j]at D E
 try dsimp only
 rw[<-j];clear j;go_wp2;go_roundg(a-i)
 .exact⟨i+1,v,c6,z,ak,ak,rfl,rfl,aT,g,D,E⟩
 omega
def PUU(w:ahh)(e:ahn)(a:ahh):Prop:=∃q r:Int,e=.returned (.tuple #[.int .u64 q,.int .u64 r])/\w=a
def PU(w:ahh)(e:ahn)(a:ahh):Prop:=∃q:Int,e=.returned (.int .u64 q)/\w=a
def PZ(w:ahh)(e:ahn)(a:ahh):Prop:=∃q:Int,e=.returned (ae aj q)/\w=a
theorem UH(a b den c:Int)(w:ahh)(g:1<=den)(j:den<=16384):ahk prog 253 #[.int .u64 a,.int .u64 b,.int .u64 den,.int .u64 c] w (PUU w):=by
 go_enter func253,ntmps253;go_wp2;go_loopg[10,11,12] 65 (fun gg v10 d e wr=>∃(i:Nat) (x y:Int),i<gg/\i<=64/\v10=.int .u64 x/\d=.int .u64 y/\e=ae aj ((i:Int)-1)/\wr=w)
 .exact⟨64,0,0,ak,ak,rfl,rfl,rfl,rfl⟩
 obtain⟨i,x,y,h,k,rfl,rfl,rfl,rfl⟩:=hrel;rcases i with _|i
 .go_wp2
  go_ret2;exact⟨_,_,rfl,rfl⟩
 .have f:(((i+1:Nat):Int)-1)=(i:Int):=by omega
  rw[f];go_wp2_with fail
  all_goals
   go_roundg(i+1)
   .exact⟨i,_,_,ak,ak,rfl,rfl,aT,rfl⟩
   omega
theorem Ph(n:Int)(w:ahh):ahk prog 254 #[ae aj n] w (PU w):=by
 go_enter func254,ntmps254;go_wp2_with fail
 all_goals
  go_ret;exact⟨_,rfl,rfl⟩
theorem Vd(n a b:Int)(w:ahh):ahk prog 255 #[ae aj n,ae aj a,ae aj b] w (PZ w):=by
 go_enter func255,ntmps255;go_wp2_with fail
 all_goals
  go_ret;exact⟨_,rfl,rfl⟩
theorem yw(n s:Int)(a:Int)(w:ahh)(c:1<=a)(g:a<=16384):ahk prog 216 #[ae aj n,ae aj s,ae aj a] w (PZ w):=by
 have f:¬a<1:=ak;go_enter func216,ntmps216;go_wp2_with fail;refine(Ph _ _).mono ?_;rintro e _ ⟨q,rfl,rfl⟩;go_wp2_with fail;refine(Ph _ _).mono ?_;rintro e _ ⟨h,rfl,rfl⟩;go_wp2_with fail;refine(UH _ _ _ _ _ ak ak).mono ?_;rintro e _ ⟨b,d,rfl,rfl⟩;go_wp2_with fail
 all_goals
  refine(Vd _ _ _ _).mono ?_;rintro e _ ⟨q4,rfl,rfl⟩;go_wp2;go_ret;exact⟨_,rfl,rfl⟩
theorem Jw(r:Int):Wf .i32 (a7 r).fg:=by
 have h:iF.all (fun x=>(Lit.int .i32 x.2.2.fg).wf)=true:=yE;cases a:look iF r with
 |none=>rw[mC a];decide
 |some p=>
  obtain⟨lo,c,b,_,_⟩:=pq _ _ _ a;have:=List.all_eq_true.1 h _ b;rw[mB a];split<;>exact this
def PR(w:ahh)(e:ahn)(a:ahh):Prop:=∃q:Int,e=.returned (.int .i32 q)/\Wf .i32 q/\az w a
def ZR:Sat:=⟨fun v _=>∃z:Int,v=.int .i32 z/\Wf .i32 z,fun _ _ _ h _=>h⟩
theorem vg{r:Int}(h:Wf .i32 r): -2147483648<=r/\r<=2147483647:=by
 unfold Wf Lit.wf at h;simp at h;exact h
theorem acn(r l:Int)(w:ahh)(h:Wf .i32 r):ahk prog 250 #[.int .i32 r,ae aj l] w (PR w):=by
 obtain⟨b,d⟩:=vg h;have f:=sH (Jw r);have c:=sH h;go_enter func250,ntmps250;go_wp2_with fail;refine(fD r b d w).mono ?_;rintro e g ⟨rfl,a⟩;generalize(a7 r).fg=m at*;go_wp2_with fail
 all_goals
  go_ret
  first
   |exact⟨_,rfl,f.o,a⟩
   |exact⟨_,rfl,c.o,a⟩
theorem SF(L:aA)(a N:Nat)(ts:aC)(G:aA)(m S:Nat)(w:ahh)(h:aM .i32 w L a N ts)(I:Iw w w.heap.size .i64 aH G m)(hn:a<=100000)(hm:m<=100000):
 ahk prog 209 #[.slice L a N,.slice G m S] w (Nw w 21 .i32 (Wf .i32) a):=by
 have E:aq _:=⟨h⟩;have T:aq _:=⟨I⟩;have X:aq ((prog.info? 21).map (·.zero)=some (some (.int .i32 0))):=⟨aF⟩;clear h I;go_enter func209,ntmps209;go_wp2_with (refine cS (p:=Wf .i32) Ko X.o cr rfl (.tmp 8) (.tmp 8) rfl a rfl rfl rfl rfl ak w.heap.size bW ?_;intro g w1 o1 J;have K:aq _:=⟨o1⟩;have M:aq _:=⟨J⟩;clear o1 J);go_loopg[6](a+1)(fun gg v6 wr=>∃(i:Nat),a-i<gg/\i<=a/\v6=ae aj (i:Int)/\aq (Ow wr w.heap.size 21 .i32 (Wf .i32) (some ⟨g,0,none⟩) a a)/\aq (az w wr))
 .exact⟨0,ak,ak,rfl,K,M⟩
 obtain⟨i,hg,hi,rfl,k,A⟩:=hrel;clear K M;by_cases b:i<a;rotate_left
 .obtain rfl:i=a:=by omega
  go_wp2;go_ret;exact⟨_,_,rfl,k.o,A.o⟩
 have i4:=aU i a;obtain⟨U,z,rfl,C,o⟩:=(E.o.FT A.o).iw.get b;obtain⟨z1,u,e1⟩:=k.o.get b;have f1:=k.o.fz i;have HZ:aq _:=⟨C⟩;have t:aq _:=⟨k.o.set i C⟩;have c:aq (az w (wr.setCell ⟨g,i,none⟩ (.int .i32 z))):=⟨Below.setCell A.o (p:=⟨g,i,none⟩) k.o.lt.1 _⟩;clear C u;by_cases x:i<m;rotate_left
 .have Z:=cv i m
  go_wp2;go_roundg(a-i)
  case measure=>omega
  case rel=>exact⟨i+1,ak,ak,aT,t,c⟩
 have Z:=aU i m;go_wp2;generalize j:wr.setCell ⟨g,i,none⟩ (.int .i32 z)=w2;rw[j]at t c;clear j o e1 f1;obtain⟨B,O,F,f,o⟩:=(E.o.FT c.o).iw.get b;obtain rfl:U=B:=by injection F
 obtain⟨R,y,rfl,_,H⟩:=(T.o.Z c.o c.o.size).get x;have s:aq _:=⟨f⟩;have L0:=aE o;have L1:=aE H
 clear o H F f;refine aS (iZ 37 ZR) 12 rfl aF aF aF aF aF rfl ?_
 repeat(refine fU aB aB aB ?_;intro Y D;go_big_quiet_op;go_big_quiet_on)
 refine kD ZR aB aB (fun w9 v=> ?_) (fun v9 r=> ?_)
 .obtain⟨d,rfl⟩:=v
  go_simp;refine aX ZR ((acn O y d.1 s.o).mono ?_);rintro e w5 ⟨q,rfl,l,hb⟩;exact⟨_,rfl,⟨q,rfl,l⟩,hb⟩
 obtain⟨_,_,q,rfl,l⟩:=r;simp[Act.put]
 repeat(refine fU aB aB aB ?_;intro Y D;go_big_quiet_op;go_big_quiet_on)
 intro d V;have n:aq _:=⟨t.o.ar d.2⟩;have P:aq (az w d.1):=⟨c.o.trans (d.2.mono c.o.size)⟩;obtain⟨z5,_,e5⟩:=n.o.get b;have f5:=n.o.fz i;have Q:aq _:=⟨n.o.set i l⟩;have W:aq (az w (d.1.setCell ⟨g,i,none⟩ (.int .i32 q))):=⟨Below.setCell P.o (p:=⟨g,i,none⟩) n.o.lt.1 _⟩;clear V L0 L1 l;go_simp;go_wp2;go_roundg(a-i)
 case measure=>omega
 case rel=>exact⟨i+1,ak,ak,aT,Q,W⟩
theorem Nc(s:ByteArray)(w:ahh):ahk prog 205 #[.string s] w (PB w):=by
 go_enter func205,ntmps205;go_wp2_with fail
 all_goals
  go_ret;exact⟨_,rfl,Below.refl _ _⟩
theorem xw(s:ByteArray)(w:ahh):ahk prog 248 #[.string s] w (PZ w):=by
 go_enter func248,ntmps248;go_wp2_with fail
 all_goals
  go_ret;exact⟨_,rfl,rfl⟩
def PBe(w:ahh)(e:ahn)(a:ahh):Prop:=∃z:Bool,e=.returned (.bool z)/\w=a
theorem Yx(n:Int)(k:Nat)(w:ahh)(b:k<=1000000):ahk prog 206 #[ae aj n,ae aj (k:Int)] w (PBe w):=by
 go_enter func206,ntmps206;by_cases h:k<16
 .have a:(k:Int)<16:=by omega
  go_wp2;go_ret;exact⟨_,rfl,rfl⟩
 .have a:¬(k:Int)<16:=by omega
  go_wp2;go_ret;exact⟨_,rfl,rfl⟩
theorem Zt(a f k g b d l j e c:Int)(w:ahh):ahk prog 217 #[.agg #[ae aj a,ae aj f,ae aj k,ae aj g,ae aj b,ae aj d,ae aj l,ae aj j,ae aj e,ae aj c]] w (PB w):=by
 go_enter func217,ntmps217;by_cases h:a=0
 .have i:(a==0)=true:=by simp[h]
  go_wp2;go_ret;exact⟨_,rfl,av _ _⟩
 .have i:(a==0)=false:=by simp[h]
  go_wp2;go_ret;exact⟨_,rfl,av _ _⟩
theorem Vg(A:aA)(n c:Nat)(w:ahh)(h:Iw w w.heap.size .i64 aH A n)(v:n<=100000):ahk prog 210 #[.slice A n c] w (Nw w 3 .i64 aH n):=by
 have R:=sH h;go_enter func210,ntmps210;go_wp2;go_loopg[3,4,5](n+1)(fun gg v3 v4 _ wr=>∃(i:Nat) (d:aA) (e:Nat),n-i<gg/\i<=n/\v3=.slice d i e/\v4=ae aj (i:Int)/\aq (Ow wr w.heap.size 3 .i64 aH d i e)/\aq (az w wr))
 .exact⟨0,none,0,ak,ak,rfl,rfl,⟨Ow.nil _ _ _ _ _⟩,cA⟩
 obtain⟨i,d,e,q,r,rfl,rfl,j,a⟩:=hrel;by_cases b:i<n;rotate_left
 .obtain rfl:i=n:=by omega
  go_wp2;go_ret;exact⟨_,_,rfl,j.o,a.o⟩
 have u:=aU i n;obtain⟨t,z,rfl,_,p⟩:=(R.o.Z a.o a.o.size).get b;have l:=a.o.size;go_wp2_with (at_builtin;refine bO lO rfl (.tmp 24) (.tmp 26) rfl rfl (j.o.alloc _) rfl (bh _ _ _) trivial ak cw ?_;intro m c8 s g f;have k:=sH g;have o:=sH ((a.o.alloc l _).trans f);clear g f)
 all_goals
  go_roundg(n-i)
  .exact⟨i+1,m,c8,ak,ak,rfl,aT,k,o⟩
  omega
theorem TSt:aR prog 195 264 2 16:=bu underlying195 (z:=.agg #[ae aj 0,ae aj 0]) aF rfl ak ak
abbrev Ck(w:ahh)(B:Nat)(A:aA)(n c:Nat):Prop:=Oq w B 264 2 Oi A n c
def Off(lo a:Nat)(A:aA):Prop:=∀g,A=some ⟨g,0,none⟩->g<lo∨a<=g
theorem Off.apart{lo:Nat}{A:aA}(h:Off lo d A)(f:lo<=g)(j:g<d):bM A (some ⟨g,0,none⟩):=fun b e a=>by
 have i:=h b e;injection a with a
 injection a with a
 omega
theorem Off.grow{lo a N:Nat}{A d:aA}(h:Off lo a A)(i:a<=N)(f:∀g,d=some ⟨g,0,none⟩->A=some ⟨g,0,none⟩∨N<=g):Off lo a d:=fun g e=>by
 rcases f g e with b|b
 .exact h g b
 .omega
theorem Oq.kept{w w':ahh}{B n c:Nat}{A C:aA}(h:Oq w B e k Q A n c)(f:w.grownBy w' (Value.slice C m d).ownBlock)(i:bM A C)(j:C=none∨∃g,C=some ⟨g,0,none⟩):Oq w' B e k Q A n c:=by
 obtain⟨gs,a,l,b⟩:=h;exact⟨gs,a,l,aw.kept b f i j⟩
theorem Oq.lt2{w:ahh}{B n c:Nat}{A:aA}(h:Oq w B e k Q A n c)(e:A=some ⟨g,0,none⟩):B<=g/\g<w.heap.size:=by subst e;exact h.lt
abbrev cV(A:aA)(n c:Nat)(A2:aA)(n2 c2:Nat):Array ahj:=#[.slice A n c,.slice A2 n2 c2]
structure Pw(B N:Nat)(fr tr:Array ahj)(A:aA)(n c:Nat)(A2:aA)(n2 c2:Nat)(w:ahh):Prop where
 bf:Bx w N fr
 bp:Bx w (N+1) (cV A n c A2 n2 c2)
 bt:Bx w (N+1+1) tr
 bz:Bx w (N+1+1+1) (cV none 0 0 none 0 0)
 o1:Ck w B A n c
 o2:Ck w B A2 n2 c2
 ap:bM A A2
 f1:Off N (N+4) A
 f2:Off N (N+4) A2
section
variable{B N n c n2 c2:Nat}{fr tr:Array ahj}{A A2:aA}{w w':ahh}
theorem Pw.ar(h:Pw B N fr tr A n c A2 n2 c2 w)(a:az w w'):Pw B N fr tr A n c A2 n2 c2 w':=
 ⟨h.bf.ar a h.bf.lt,h.bp.ar a h.bp.lt,h.bt.ar a h.bt.lt,h.bz.ar a h.bz.lt,h.o1.ar a,h.o2.ar a,h.ap,h.f1,h.f2⟩
theorem Pw.Lc(h:Pw B N fr tr A n c A2 n2 c2 w)(l:B<=N){j:aA}{c':Nat}(o:Ck w' B j (n+1) c')(a:w.grownBy w' (Value.slice A n c).ownBlock)(k:∀g,j=some ⟨g,0,none⟩->A=some ⟨g,0,none⟩∨w.heap.size<=g):
 Pw B N fr tr j (n+1) c' A2 n2 c2 (w'.setCell ⟨N+1,0,none⟩ (.slice j (n+1) c')):=by
 have m:=h.bz.lt;have f:=h.o1.head;have i:=h.f1.grow ak k;have b:∀g,g≠N+1->(w'.setCell ⟨N+1,0,none⟩ (.slice j (n+1) c')).heap[g]? =w'.heap[g]? :=fun g a=>Below.heap_setCell _ _ _ _ a
 refine⟨?_,(h.bp.kept a (h.f1.apart ak ak) f).jR 0 _, ?_, ?_,Oq.mu o (i.apart ak ak) 0 _,Oq.mu (h.o2.kept a h.ap.symm f) (h.f2.apart ak ak) 0 _,h.ap.grow (fun g e=>(h.o2.lt2 e).2) k,i,h.f2⟩
 .obtain⟨t,d⟩:=h.bf.kept a (h.f1.apart ak ak) f
  exact⟨t,(b _ ak).trans d⟩
 .obtain⟨t,d⟩:=h.bt.kept a (h.f1.apart ak ak) f
  exact⟨t,(b _ ak).trans d⟩
 .obtain⟨t,d⟩:=h.bz.kept a (h.f1.apart ak ak) f
  exact⟨t,(b _ ak).trans d⟩
theorem Pw.Mk(h:Pw B N fr tr A n c A2 n2 c2 w)(l:B<=N){j:aA}{c':Nat}(o:Ck w' B j (n2+1) c')(a:w.grownBy w' (Value.slice A2 n2 c2).ownBlock)(k:∀g,j=some ⟨g,0,none⟩->A2=some ⟨g,0,none⟩∨w.heap.size<=g):
 Pw B N fr tr A n c j (n2+1) c' (w'.setCell ⟨N+1,1,none⟩ (.slice j (n2+1) c')):=by
 have m:=h.bz.lt;have f:=h.o2.head;have i:=h.f2.grow ak k;have b:∀g,g≠N+1->(w'.setCell ⟨N+1,1,none⟩ (.slice j (n2+1) c')).heap[g]? =w'.heap[g]? :=fun g a=>Below.heap_setCell _ _ _ _ a
 refine⟨?_,(h.bp.kept a (h.f2.apart ak ak) f).jR 1 _, ?_, ?_,Oq.mu (h.o1.kept a h.ap f) (h.f1.apart ak ak) 1 _,Oq.mu o (i.apart ak ak) 1 _,(h.ap.symm.grow (fun g e=>(h.o1.lt2 e).2) k).symm,h.f1,i⟩
 .obtain⟨t,d⟩:=h.bf.kept a (h.f2.apart ak ak) f
  exact⟨t,(b _ ak).trans d⟩
 .obtain⟨t,d⟩:=h.bt.kept a (h.f2.apart ak ak) f
  exact⟨t,(b _ ak).trans d⟩
 .obtain⟨t,d⟩:=h.bz.kept a (h.f2.apart ak ak) f
  exact⟨t,(b _ ak).trans d⟩
end
def PPn(w:ahh)(B N:Nat)(e:ahn)(w':ahh):Prop:=∃(A:aA) (n c:Nat) (A2:aA) (n2 c2:Nat),e=.returned (.agg (cV A n c A2 n2 c2))/\n<=N/\n2<=N/\Ck w' B A n c/\Ck w' B A2 n2 c2/\bM A A2/\ahi B w w'
abbrev oU(tag:ByteArray)(b:Int)(d:aA)(a e:Nat):Array ahj:=#[.string tag,ae aj b,.slice d a e]
theorem yf:(prog.info? 197).map (·.size)=some 2:=by kernel_rfl
theorem acG{w:ahh}{a c2 d c4:Array ahj}{b f g:ahm}(h:W=(((w.alloc (.cells a b)).alloc (.cells c2 e)).alloc (.cells d f)).alloc (.cells c4 g)):az w W/\Bx W w.heap.size a/\Bx W (w.heap.size+1) c2/\Bx W (w.heap.size+1+1) d/\Bx W (w.heap.size+1+1+1) c4/\W.heap.size=w.heap.size+4:=Ys (o1:=.cells a b) h
theorem eE(w:ahh)(a b:Obj):az w ((w.alloc a).alloc b):=(av _ _).alloc aQ _
theorem Po(f:cY)(A:aA)(n c:Nat)(A2:aA)(n2 c2:Nat)(tag:ByteArray)(P:Int)(x:aA)(b y:Nat)(B N:Nat)(w:ahh)(L:B<=w.heap.size)(h:bZ w B f)(hL:cK w B dR x b y)(vX:b<=64)(o1:Ck w B A n c)(o2:Ck w B A2 n2 c2)(ap:bM A A2)(hN:N<=1000000)(hn:n<=N)(Q:n2<=N):
 ahk prog 207 #[f.v,.agg (cV A n c A2 n2 c2),.agg (oU tag P x b y)] w (PPn w B (N+64)):=by
 have⟨O,E⟩:=eX ((((w.alloc (.cells f.row 96)).alloc (.cells (cV A n c A2 n2 c2) 197)).alloc (.cells (oU tag P x b y) 249)).alloc (.cells (cV none 0 0 none 0 0) 197));obtain⟨I,xf,x2,x3,x4,kU⟩:=acG E;have a:aq (Pw B w.heap.size f.row (oU tag P x b y) A n c A2 n2 c2 O):=⟨⟨xf,x2,x3,x4,o1.ar I,o2.ar I,ap,fun g e=> .inl (o1.lt2 e).2,fun g e=> .inl (o2.lt2 e).2⟩⟩;have R:=sH (h.Z (I.mono L) bW);have RL:=sH (hL.Z (I.mono L) bW);have B1:=sH (I.mono L);have hfl:=h.rL.bd;go_enter func207,ntmps207;go_wp2;rw[<-E];go_loopg[7,8,9,10](b+1)(fun gg v7 _ _ _ wr=>∃(i:Nat) (A:aA) (n c:Nat) (A2:aA) (n2 c2:Nat),b-i<gg/\i<=b/\v7=ae aj (i:Int)/\n<=N+i/\n2<=N+i/\aq (Pw B w.heap.size f.row (oU tag P x b y) A n c A2 n2 c2 wr)/\aq (ahi B O wr))
 .exact⟨0,A,n,c,A2,n2,c2,ak,ak,rfl,ak,ak,a,cA⟩
 obtain⟨i,A,n,c,A2,n2,c2,hg,hi,rfl,hn,Q,a,d⟩:=hrel;have⟨c0,c1,aW,m,c4,c5⟩:=a.o.bf.f6;have t0:wr.cell? ⟨w.heap.size+1+1,0,none⟩=some (.string tag):=a.o.bt.cell 0;have t2:wr.cell? ⟨w.heap.size+1+1,2,none⟩=some (.slice x b y):=a.o.bt.cell 2;have s:wr.cell? ⟨w.heap.size+1,0,none⟩=some (.slice A n c):=a.o.bp.cell 0;have r:wr.cell? ⟨w.heap.size+1,1,none⟩=some (.slice A2 n2 c2):=a.o.bp.cell 1;have hsW:=a.o.bz.lt;by_cases U:i<b;rotate_left
 .obtain⟨Z,F⟩:=a.o.bz.heap
  have Y:(wr.setRow (w.heap.size+1+1+1) (cV A n c A2 n2 c2)).heap[w.heap.size+1+1+1]? =some (.cells (cV A n c A2 n2 c2) Z (0,0)):=setRow_heap _ _ _ _ _ _ F;have B5:aq (ahi B w (wr.setRow (w.heap.size+1+1+1) (cV A n c A2 n2 c2))):=⟨below_setRow (B1.o.trans d.o) ak _⟩;have O1:aq (Ck (wr.setRow (w.heap.size+1+1+1) (cV A n c A2 n2 c2)) B A n c):=⟨a.o.o1.fH (a.o.f1.apart ak ak) (cV A n c A2 n2 c2)⟩;have O2:aq (Ck (wr.setRow (w.heap.size+1+1+1) (cV A n c A2 n2 c2)) B A2 n2 c2):=⟨a.o.o2.fH (a.o.f2.apart ak ak) (cV A n c A2 n2 c2)⟩;go_wp2_with (refine wpList_store_row rfl 197 (.tmp 6) (.tmp 67) rfl (w.heap.size+1+1+1) (cV A n c A2 n2 c2) rfl rfl Z _ F yf aB dJ ?_);refine bodyPost_ret (results_cell_row results207 _ _ (w.heap.size+1+1+1) Z _ (0,0) _ aB Y underlying197 rfl aF) rfl ?_;exact⟨A,n,c,A2,n2,c2,rfl,ak,ak,O1.o,O2.o,a.o.ap,B5.o⟩
 have i4:=aU i b;obtain⟨qd,T,rfl,e0⟩:=gT (RL.o.Z d.o bW) U;by_cases h1:T<0
 .go_wp2
  go_roundg(b-i)
  .exact⟨i+1,A,n,c,A2,n2,c2,ak,ak,aT,ak,ak,a,d⟩
  omega
 obtain⟨j,rfl⟩:∃j:Nat,T=(j:Int):=⟨T.toNat,ak⟩;by_cases h2:j<f.ln;rotate_left
 .have V:(f.ln:Int)<=(j:Int):=by omega
  go_wp2;go_roundg(b-i)
  .exact⟨i+1,A,n,c,A2,n2,c2,ak,ak,aT,ak,ak,a,d⟩
  omega
 have V:¬(f.ln:Int)<=(j:Int):=ak;have adi:(j:Int)<(f.ln:Int):=ak;obtain⟨ad,k,eL,hk,t,_⟩:=rD (R.o.Z d.o bW).rL h2;rw[eL]at m;by_cases k1:1<=k.kind/\k.kind<=5
 .obtain⟨k1,k2⟩:=k1
  go_wp2_with fail;refine(xw tag wr).mono ?_;rintro e _ ⟨q,rfl,rfl⟩;have m:=fun o=>aI m o;have t:=fun o=>aI t o;have s:=fun o=>aI s o;have r:=fun o=>aI r o
  have l:=sH (a.o.ar (eE wr (.cells #[ae aj (j:Int),ae aj q] 264) (.cells #[ae aj (j:Int),ae aj q] 264)));have z:=sH (d.o.trans ((eE wr (.cells #[ae aj (j:Int),ae aj q] 264) (.cells #[ae aj (j:Int),ae aj q] 264)).mono (show B<=wr.heap.size by omega)));have G:=sH (a.o.ar (av wr (.cells #[ae aj (j:Int),ae aj q] 264)));have D:=sH (d.o.trans ((av wr (.cells #[ae aj (j:Int),ae aj q] 264)).mono (show B<=wr.heap.size by omega)));go_wp2_with (at_builtin;refine nH TSt rfl (.tmp 50) (.tmp 52) rfl rfl l.o.o1 rfl [(j:Int),q] rfl (cg _ _ _ _ _ aQ rfl) trivial ak cw ?_;intro J c8 K M C u H;have v:=l.o.bp.kept u (l.o.f1.apart ak ak) l.o.o1.head;have q0:K.cell? ⟨w.heap.size+1,0,none⟩=some (.slice A n c):=v.cell 0;have g0:=v.fz 0;have S:=sH (l.o.Lc L M u H);have W:aq (ahi B O (K.setCell ⟨w.heap.size+1,0,none⟩ (.slice J (n+1) c8))):=⟨Below.setCell (z.o.trans C) (p:=⟨w.heap.size+1,0,none⟩) (by show B<=w.heap.size+1;omega) _⟩;clear M C u H v);go_roundg(b-i)
  .exact⟨i+1,J,n+1,c8,A2,n2,c2,ak,ak,aT,ak,ak,S,W⟩
  omega
 .by_cases k6:6<=k.kind/\k.kind<=12
  .obtain⟨k1,k2⟩:=k6
   have k3:¬k.kind<=5:=ak;have k4:1<=k.kind:=ak;go_wp2_with fail;refine(xw tag wr).mono ?_;rintro e _ ⟨q,rfl,rfl⟩;have m:=fun o=>aI m o;have t:=fun o=>aI t o;have s:=fun o=>aI s o;have r:=fun o=>aI r o
   have l:=sH (a.o.ar (eE wr (.cells #[ae aj (j:Int),ae aj q] 264) (.cells #[ae aj (j:Int),ae aj q] 264)));have z:=sH (d.o.trans ((eE wr (.cells #[ae aj (j:Int),ae aj q] 264) (.cells #[ae aj (j:Int),ae aj q] 264)).mono (show B<=wr.heap.size by omega)));have G:=sH (a.o.ar (av wr (.cells #[ae aj (j:Int),ae aj q] 264)));have D:=sH (d.o.trans ((av wr (.cells #[ae aj (j:Int),ae aj q] 264)).mono (show B<=wr.heap.size by omega)));go_wp2_with (at_builtin;refine nH TSt rfl (.tmp 62) (.tmp 64) rfl rfl l.o.o2 rfl [(j:Int),q] rfl (cg _ _ _ _ _ aQ rfl) trivial ak cw ?_;intro J c8 K M C u H;have v:=l.o.bp.kept u (l.o.f2.apart ak ak) l.o.o2.head;have q0:K.cell? ⟨w.heap.size+1,1,none⟩=some (.slice A2 n2 c2):=v.cell 1;have g0:=v.fz 1;have S:=sH (l.o.Mk L M u H);have W:aq (ahi B O (K.setCell ⟨w.heap.size+1,1,none⟩ (.slice J (n2+1) c8))):=⟨Below.setCell (z.o.trans C) (p:=⟨w.heap.size+1,1,none⟩) (by show B<=w.heap.size+1;omega) _⟩;clear M C u H v);go_roundg(b-i)
   .exact⟨i+1,A,n,c,J,n2+1,c8,ak,ak,aT,ak,ak,S,W⟩
   omega
  .have X:k.kind<1∨12<k.kind:=by omega
   rcases X with X|X
   .have k3:¬1<=k.kind:=by omega
    have k4:¬6<=k.kind:=ak;go_wp2_with fail;refine(xw tag wr).mono ?_;rintro e _ ⟨q,rfl,rfl⟩;have m:=fun o=>aI m o;have t:=fun o=>aI t o;have s:=fun o=>aI s o;have r:=fun o=>aI r o
    have l:=sH (a.o.ar (eE wr (.cells #[ae aj (j:Int),ae aj q] 264) (.cells #[ae aj (j:Int),ae aj q] 264)));have z:=sH (d.o.trans ((eE wr (.cells #[ae aj (j:Int),ae aj q] 264) (.cells #[ae aj (j:Int),ae aj q] 264)).mono (show B<=wr.heap.size by omega)));have G:=sH (a.o.ar (av wr (.cells #[ae aj (j:Int),ae aj q] 264)));have D:=sH (d.o.trans ((av wr (.cells #[ae aj (j:Int),ae aj q] 264)).mono (show B<=wr.heap.size by omega)));go_wp2;go_roundg(b-i)
    .exact⟨i+1,A,n,c,A2,n2,c2,ak,ak,aT,ak,ak,G,D⟩
    omega
   .have k3:1<=k.kind:=by omega
    have k4:6<=k.kind:=ak;have k5:¬k.kind<=5:=ak;have k6:¬k.kind<=12:=ak;go_wp2_with fail;refine(xw tag wr).mono ?_;rintro e _ ⟨q,rfl,rfl⟩;have m:=fun o=>aI m o;have t:=fun o=>aI t o;have s:=fun o=>aI s o;have r:=fun o=>aI r o
    have l:=sH (a.o.ar (eE wr (.cells #[ae aj (j:Int),ae aj q] 264) (.cells #[ae aj (j:Int),ae aj q] 264)));have z:=sH (d.o.trans ((eE wr (.cells #[ae aj (j:Int),ae aj q] 264) (.cells #[ae aj (j:Int),ae aj q] 264)).mono (show B<=wr.heap.size by omega)));have G:=sH (a.o.ar (av wr (.cells #[ae aj (j:Int),ae aj q] 264)));have D:=sH (d.o.trans ((av wr (.cells #[ae aj (j:Int),ae aj q] 264)).mono (show B<=wr.heap.size by omega)));go_wp2;go_roundg(b-i)
    .exact⟨i+1,A,n,c,A2,n2,c2,ak,ak,aT,ak,ak,G,D⟩
    omega
theorem sT{j:Nat}(h:cK w B FR A n c)(m:j<n):∃(a:Addr) (z:ByteArray) (i:Int) (b:aA) (d f:Nat),A=some a/\cK w B dR b d f/\w.cell? (a.add (j*3))=some (.string z)/\w.cell? (bP (a.add (j*3)) 1)=some (ae aj i)/\w.cell? (bP (a.add (j*3)) 2)=some (.slice b d f):=by
 obtain⟨a,e,_,o⟩:=h.2.2.2 ak;obtain⟨s,q,g⟩:=o j m;obtain⟨u0,l,rfl,⟨z,rfl,_⟩,u1,p,rfl,⟨i,rfl,_⟩,b,d,f,rfl,r⟩:=q;have k:=g 0 _ rfl;rw[ew]at k;exact⟨a,z,i,b,d,f,e,r,k,g 1 _ rfl,g 2 _ rfl⟩
theorem qC{e c f:Array ahj}{p k o:ahm}(h:W=((w.alloc (.cells e p)).alloc (.cells c k)).alloc (.cells f o)):az w W/\Bx W w.heap.size e/\Bx W (w.heap.size+1) c/\Bx W (w.heap.size+1+1) f/\W.heap.size=w.heap.size+3:=by
 have⟨b,e1⟩:=eX (w.alloc (.cells e p));have⟨a,d⟩:=eX (b.alloc (.cells c k));have h:W=a.alloc (.cells f o):=by rw[h,d,e1]
 have n:b.heap.size=w.heap.size+1:=by rw[e1];simp
 have m:a.heap.size=w.heap.size+1+1:=by rw[d];simp[n]
 have r:az w b:=Rf;have j:az b a:=by rw[d];exact av _ _
 have g:az a W:=Ke;have l:Bx b w.heap.size e:=by rw[e1];exact Bx.new _ _ _
 have i:Bx a (w.heap.size+1) c:=by rw[d];exact Bx.gY _ _ _ n
 have q:Bx W (w.heap.size+1+1) f:=by rw[h];exact Bx.gY _ _ _ m
 exact⟨r.trans ((j.mono ak).trans (g.mono ak)),(l.ar j l.lt).ar g ak,i.ar g i.lt,q,by rw[h];simp[m]⟩
structure Pu(N:Nat)(fr:Array ahj)(A:aA)(n c:Nat)(A2:aA)(n2 c2:Nat)(w:ahh):Prop where
 bf:Bx w N fr
 bz:Bx w (N+1) (cV none 0 0 none 0 0)
 bp:Bx w (N+1+1) (cV A n c A2 n2 c2)
 o1:Ck w (N+3) A n c
 o2:Ck w (N+3) A2 n2 c2
 ap:bM A A2
theorem Pu.ar{e:Nat}{g:Array ahj}{b:aA}{f:ahh}(h:Pu N g A n c b d e w)(a:az w f):Pu N g A n c b d e f:=
 ⟨h.bf.ar a h.bf.lt,h.bz.ar a h.bz.lt,h.bp.ar a h.bp.lt,h.o1.ar a,h.o2.ar a,h.ap⟩
theorem Pu.put{p q:Nat}{m:Array ahj}{o:aA}{b:ahh}(h:Pu N m A n c o p q w)(i:ahi (N+3) w b){B j d a k:Nat}{C e:aA}(l:N+3<=B)(o1:Ck b B C j d)(f:Ck b B e a k)(s:bM C e):Pu N m C j d e a k (b.setRow (N+1+1) (cV C j d e a k)):=by
 have r:=h.bp.ar i ak;have o1:=o1.cJ l;have f:=f.cJ l;refine⟨?_, ?_,r.row,o1.fH (o1.gj ak) _,f.fH (f.gj ak) _,s⟩
 .obtain⟨t,g⟩:=h.bf.ar i ak
  exact⟨t,(setRow_other _ _ _ _ ak).trans g⟩
 .obtain⟨t,g⟩:=h.bz.ar i ak
  exact⟨t,(setRow_other _ _ _ _ ak).trans g⟩
theorem aeW(s:G:=by
 go_wp2_with fail
 refine(Yx ft k w4 ak).mono ?_;rintro e _ ⟨b,rfl,rfl⟩;cases b
 .go_wp2
  go_roundg(f.fn-i)
  case measure=>omega
  case rel=>exact⟨i+1,k+1,A,n,c,A2,n2,c2,ak,ak,ak,aT,aT,ak,ak,P4,B4⟩
 .go_wp2_with fail
  refine(Po f A n c A2 n2 c2 tag sc LA ln lc (w.heap.size+3) (64*i) w4 ak R4.o H4.o vX P4.o.o1 P4.o.o2 P4.o.ap ak hn sj).mono ?_;rintro e w5 ⟨A6,n6,c6,A7,n7,c7,rfl,hn6,hn7,g1,g2,g3,g4⟩;obtain⟨ty,mo⟩:=(P4.o.bp.ar g4 ak).heap;have P5:aq _:=⟨P4.o.put g4 bW g1 g2 g3⟩;have B5:aq (ahi w.heap.size W1 (w5.setRow (w.heap.size+1+1) (cV A6 n6 c6 A7 n7 c7))):=⟨below_setRow (B4.o.trans (g4.mono ak)) ak _⟩;clear g1 g2 g3 g4 c0 c1 aW c3 c4 c5 p0 p1 t0 t1 t2;go_wp2_with (refine wpList_store_row rfl 197 (.tmp 7) (.tmp 49) rfl (w.heap.size+1+1) (cV A6 n6 c6 A7 n7 c7) rfl rfl ty _ mo yf aB dJ ?_);go_roundg(f.fn-i)
  case measure=>omega
  case rel=>exact⟨i+1,k+1,A6,n6,c6,A7,n7,c7,ak,ak,ak,aT,aT,ak,ak,P5,B5⟩):G:=s
theorem ad7(s:G:=by
 go_wp2_with fail
 refine(Po f A n c A2 n2 c2 tag sc LA ln lc (w.heap.size+3) (64*i) w4 ak R4.o H4.o vX P4.o.o1 P4.o.o2 P4.o.ap ak hn sj).mono ?_;rintro e w5 ⟨A6,n6,c6,A7,n7,c7,rfl,hn6,hn7,g1,g2,g3,g4⟩;obtain⟨ty,mo⟩:=(P4.o.bp.ar g4 ak).heap;have P5:aq _:=⟨P4.o.put g4 bW g1 g2 g3⟩;have B5:aq (ahi w.heap.size W1 (w5.setRow (w.heap.size+1+1) (cV A6 n6 c6 A7 n7 c7))):=⟨below_setRow (B4.o.trans (g4.mono ak)) ak _⟩;clear g1 g2 g3 g4 c0 c1 aW c3 c4 c5 p0 p1 t0 t1 t2;go_wp2_with (refine wpList_store_row rfl 197 (.tmp 7) (.tmp 49) rfl (w.heap.size+1+1) (cV A6 n6 c6 A7 n7 c7) rfl rfl ty _ mo yf aB dJ ?_);go_roundg(f.fn-i)
 case measure=>omega
 case rel=>exact⟨i+1,k,A6,n6,c6,A7,n7,c7,ak,ak,ak,aT,aT,ak,ak,P5,B5⟩):G:=s
theorem aeR(s:G:=by
 go_wp2
 go_roundg(f.fn-i)
 case measure=>omega
 case rel=>exact⟨i+1,k+1,A,n,c,A2,n2,c2,ak,ak,ak,aT,aT,ak,ak,P4,B4⟩):G:=s
theorem agc(f:cY)(r:Int)(ft:Int)(w:ahh)(h:bZ w w.heap.size f)(C:R' w w.heap.size f):
 ahk prog 118 #[f.v,ae aj r,ae aj ft] w (PPn w w.heap.size 5000):=by
 have⟨W1,g⟩:∃W1,W1=((w.alloc (.cells f.row 96)).alloc (.cells (cV none 0 0 none 0 0) 197)).alloc (.cells (cV none 0 0 none 0 0) 197):=⟨_,rfl⟩;obtain⟨t,I,H,G,Y⟩:=qC g;have d:aq (Pu w.heap.size f.row none 0 0 none 0 0 W1):=⟨⟨I,H,G,Oq.nil _ _ _ _ _,Oq.nil _ _ _ _ _,lX _⟩⟩;have R:aq (bZ W1 w.heap.size f):=⟨h.Z t bW⟩;have Q:aq (R' W1 w.heap.size f):=⟨C.Z t bW⟩;have X:aq (az w W1):=⟨t⟩;have T:=C.1;clear h C t I H G;go_enter func118,ntmps118;go_wp2;rw[<-g];clear g;go_loopg[8,9,10,11](f.fn+1)(fun gg L K _ _ wr=>∃(i k:Nat) (A:aA) (n c:Nat) (A2:aA) (n2 c2:Nat),f.fn-i<gg/\i<=f.fn/\k<=i/\L=ae aj (k:Int)/\K=ae aj (i:Int)/\n<=64*i/\n2<=64*i/\aq (Pu w.heap.size f.row A n c A2 n2 c2 wr)/\aq (ahi w.heap.size W1 wr))
 .exact⟨0,0,none,0,0,none,0,0,ak,ak,ak,rfl,rfl,ak,ak,d,cA⟩
 clear d;obtain⟨i,k,A,n,c,A2,n2,c2,hg,hi,hk,rfl,rfl,hn,sj,d,j⟩:=hrel;have O:=d.o.bp.lt;by_cases m:i<f.fn;rotate_left
 .have⟨c0,c1,aW,c3,c4,c5⟩:=d.o.bf.f6
  have p0:wr.cell? ⟨w.heap.size+1+1,0,none⟩=some (.slice A n c):=d.o.bp.cell 0;have p1:wr.cell? ⟨w.heap.size+1+1,1,none⟩=some (.slice A2 n2 c2):=d.o.bp.cell 1;obtain⟨ty,mo⟩:=d.o.bz.heap;have z:(wr.setRow (w.heap.size+1) (cV A n c A2 n2 c2)).heap[w.heap.size+1]? =some (.cells (cV A n c A2 n2 c2) ty (0,0)):=setRow_heap _ _ _ _ _ _ mo;have B5:aq (az w (wr.setRow (w.heap.size+1) (cV A n c A2 n2 c2))):=⟨below_setRow (X.o.trans j.o) ak _⟩;have V:aq (Ck (wr.setRow (w.heap.size+1) (cV A n c A2 n2 c2)) w.heap.size A n c):=⟨(d.o.o1.fH (d.o.o1.gj ak) _).cJ ak⟩;have P:aq (Ck (wr.setRow (w.heap.size+1) (cV A n c A2 n2 c2)) w.heap.size A2 n2 c2):=⟨(d.o.o2.fH (d.o.o2.gj ak) _).cJ ak⟩;go_wp2_with (refine wpList_store_row rfl 197 (.tmp 6) (.tmp 50) rfl (w.heap.size+1) (cV A n c A2 n2 c2) rfl rfl ty _ mo yf aB dJ ?_);refine bodyPost_ret (results_cell_row results118 _ _ (w.heap.size+1) ty _ (0,0) _ aB z underlying197 rfl aF) rfl ?_;exact⟨A,n,c,A2,n2,c2,rfl,ak,ak,V.o,P.o,d.o.ap,B5.o⟩
 have i4:(i:Int)<(f.fn:Int):=ak;have⟨c0,c1,aW,c3,c4,c5⟩:=d.o.bf.f6;obtain⟨N,tag,sc,LA,ln,lc,B,F,U,Z,E⟩:=sT (R.o.Z j.o bW).rF m;have vX:ln<=64:=by
  obtain⟨a,A',n',c',g1,_,g3,g4⟩:=(Q.o.Z j.o bW).2 i m;rw[B]at g1;obtain rfl:=Option.some.inj g1;rw[E]at g3;injection g3 with g3
  injection g3 with _ g3 _
  omega
 rw[B]at c4;have D:aq _:=⟨F⟩;clear F B;have⟨l,bU⟩:∃l,l=wr.alloc (.cells (oU tag sc LA ln lc) 249):=⟨_,rfl⟩;have s:az wr l:=jx;have u:aq (Bx l wr.heap.size (oU tag sc LA ln lc)):=⟨mf⟩;have v:aq _:=⟨d.o.ar s⟩;have J:aq (ahi w.heap.size W1 l):=⟨j.o.trans (s.mono ak)⟩;have t0:l.cell? ⟨wr.heap.size,0,none⟩=some (.string tag):=u.o.cell 0;go_wp2_with (refine(Nc tag _).mono ?_);rintro e w4 ⟨b,rfl,o⟩;rw[<-bU]at o;have P4:aq _:=⟨v.o.ar o⟩;have x:ahi w.heap.size wr w4:=(s.mono ak).trans (o.mono (by have:=v.o.bp.lt;omega));have B4:aq (ahi w.heap.size W1 w4):=⟨j.o.trans x⟩;have y:aq _:=⟨u.o.ar o u.o.lt⟩;have H4:aq _:=⟨D.o.Z x (show w.heap.size<=w.heap.size+3 by omega)⟩;have R4:aq _:=⟨R.o.Z B4.o (show w.heap.size<=w.heap.size+3 by omega)⟩;have S:=P4.o.bp.lt;clear x o v J u D s bU U Z E c0 c1 aW c3 c4 c5 t0 d j;have⟨c0,c1,aW,c3,c4,c5⟩:=P4.o.bf.f6;have p0:w4.cell? ⟨w.heap.size+1+1,0,none⟩=some (.slice A n c):=P4.o.bp.cell 0;have p1:w4.cell? ⟨w.heap.size+1+1,1,none⟩=some (.slice A2 n2 c2):=P4.o.bp.cell 1;have t0:w4.cell? ⟨wr.heap.size,0,none⟩=some (.string tag):=y.o.cell 0;have t1:w4.cell? ⟨wr.heap.size,1,none⟩=some (ae aj sc):=y.o.cell 1;have t2:w4.cell? ⟨wr.heap.size,2,none⟩=some (.slice LA ln lc):=y.o.cell 2;by_cases q:sc= -1
 .have M:(sc== -1)=true:=by simp[q]
  clear q;cases b
  .exact aeW
  .exact ad7
 have M:(sc== -1)=false:=by simp[q]
 clear q;by_cases p:sc=r
 .have W:(sc==r)=true:=by simp[p]
  clear p;cases b
  .exact aeW
  .exact ad7
 have W:(sc==r)=false:=by simp[p]
 clear p;cases b
 .go_wp2_with fail
  refine(Yx ft k w4 ak).mono ?_;rintro e _ ⟨b,rfl,rfl⟩;cases b
  .exact aeR
  .exact aeR
 .go_wp2
  go_roundg(f.fn-i)
  case measure=>omega
  case rel=>exact⟨i+1,k,A,n,c,A2,n2,c2,ak,ak,ak,aT,aT,ak,ak,P4,B4⟩
theorem NF(gs:List aC)(A:aA)(n c:Nat)(w:ahh)(h:Rx w w.heap.size 10 gs A n)(hn:n<=100000):
 ahk prog 215 #[.slice A n c] w (uG w (dO (aL gs) n)):=by
 have R:aq _:=⟨h⟩;have N:aq (∀j,j<n->nth (aL gs) j=nth (fC gs j) 1):=⟨fun j hj=>fS Il⟩;clear h;generalize aL gs=a at*;go_enter func215,ntmps215;go_wp2;go_loopg[3,4,5](n+1)(fun gg v3 v4 _ wr=>∃(i m:Nat) (D:aA) (l:Nat),n-i<gg/\i<=n/\m<=i/\v3=.slice D m l/\v4=ae aj (i:Int)/\aq ((dO a i).length=m)/\aq (Cm wr w.heap.size (dO a i) D m l)/\aq (az w wr))
 .exact⟨0,0,none,0,ak,ak,ak,rfl,rfl,⟨rfl⟩,⟨aw.nil _ _ _ _⟩,cA⟩
 obtain⟨i,m,D,l,hg,hi,hm,rfl,rfl,ML,E,BE⟩:=hrel;by_cases v:i<n;rotate_left
 .obtain rfl:i=n:=by omega
  go_wp2;go_ret;exact⟨D,l,by rw[ML.o];rfl,by rw[ML.o];exact E.o,BE.o⟩
 obtain⟨P,rfl,Q,_,e⟩:=(R.o.Z BE.o BE.o.size).at_ v;have M:wr.cell? (bP (P.add (i*10)) 1)=some (ae aj (nth (fC gs i) 1)):=e 1 ak;rw[<-N.o i v]at M;have i4:=aU i n;have Z:=BE.o.size;rcases i with _|i
 .have L:m=0:=by omega
  subst L;clear Q e;have PH:aq _:=⟨pf a 0 ak⟩;have wk:IntKind.i64.wrap ((0:Int)+1)=1:=cr;go_wp2;go_quiet (fail);generalize hW:wr.drewN _=W;have o:aq (az w W):=⟨abB⟩;have K:aq _:=⟨E.o.ar (show az wr W by rw[<-hW];exact aN (Below.refl _ _) _)⟩;have k:=o.o.size;clear hW;go_wp2_with (at_builtin;refine ca YK rfl (.tmp 37) (.tmp 42) rfl rfl (aw.alloc K.o _) rfl (news:=qK (0,0+1)) rfl (fX _ _ _ _) (lC _ _) ak cw ?_;intro y c8 B C u;have O8:aq _:=⟨C⟩;have r:aq (az w B):=⟨(o.o.alloc k _).trans u⟩;clear C u);have b:aq ((dO a (0+1)).length=0+1):=⟨Xc⟩;have t:aq (Cm B w.heap.size (dO a (0+1)) y (0+1) c8):=⟨Xy⟩;go_roundg(n-0)
  case measure=>omega
  case rel=>exact⟨0+1,0+1,y,c8,ak,ak,ak,rfl,aT,b,t,r⟩
 obtain⟨ik,I,_,_,d⟩:=(R.o.Z BE.o BE.o.size).at_ (show i<n by omega);injection I with I
 subst I;have G:wr.cell? (bP (P.add (i*10)) 1)=some (ae aj (nth (fC gs i) 1)):=d 1 ak;rw[<-N.o i ak]at G;clear Q e d;have x:0<m:=by have:=lW a (i+1) (by omega);have:=kz a (i+1);have:=ML.o;omega
 have U:decide (0<m)=true:=by simp;exact x
 have wk:IntKind.i64.wrap ((i:Int)+1-1)=(i:Int):=yC;have T:=ie i;have S:=aU i n;by_cases s:nth a i=nth a (i+1)
 .have f:(nth a i==nth a (i+1))=true:=by simp[s]
  have Y:aq _:=⟨Bi a (i+1) ⟨ak,s⟩⟩;clear s;go_wp2;go_quiet (fail);clear wk T S M G f U;obtain⟨q,rfl⟩:∃q,m=q+1:=⟨m-1,ak⟩;generalize hW:wr.drewN _=W;have o:aq (az w W):=⟨abB⟩;have z:=E.o.ar (show az wr W by rw[<-hW];exact aN (Below.refl _ _) _);clear hW;obtain⟨g,rfl,H,X⟩:=aw.form z x;have J:=pU (dO a (i+1)) q (i+1+1) (by rw[ML.o];omega);have F:=Y.o;rw[ML.o,Nat.add_sub_cancel]at F;rw[<-F]at J;have V:=aw.cellAt z (q*2+1) ak;rw[(jX (dO a (i+1)) q (by rw[ML.o];omega)).2]at V;have fq:=aw.frozenAt z (q*2+1);have st:=(World.ownsRow.stored (cap:=l) z (q*2+1) (ae aj ((i+1+1:Nat):Int))).1;rw[J]at st;have b:aq ((dO a (i+1+1)).length=q+1):=⟨by rw[F,List.length_set];exact ML.o⟩;have t:aq (Cm (W.setCell ⟨g,q*2+1,none⟩ (ae aj ((i+1+1:Nat):Int))) w.heap.size (dO a (i+1+1)) (some ⟨g,0,none⟩) (q+1) l):=⟨st⟩;have r:aq (az w (W.setCell ⟨g,q*2+1,none⟩ (ae aj ((i+1+1:Nat):Int)))):=⟨Below.setCell o.o (p:=⟨g,q*2+1,none⟩) H _⟩;clear z J F st;have O:(((i+1+1:Nat):Int))=(i:Int)+1+1:=ak;rw[O]at t r;clear O;go_wp2;go_roundg(n-(i+1))
  case measure=>omega
  case rel=>exact⟨i+1+1,q+1,_,l,ak,ak,ak,rfl,aT,b,t,r⟩
 .have f:(nth a i==nth a (i+1))=false:=by simp[s]
  have PH:aq _:=⟨pf a (i+1) (by intro h;exact s h.2)⟩;clear s;go_wp2;go_quiet (fail);clear wk T S M G f U;generalize hW:wr.drewN _=W;have o:aq (az w W):=⟨abB⟩;have K:aq _:=⟨E.o.ar (show az wr W by rw[<-hW];exact aN (Below.refl _ _) _)⟩;have k:=o.o.size;clear hW;go_wp2_with (at_builtin;refine ca YK rfl (.tmp 37) (.tmp 42) rfl rfl (aw.alloc K.o _) rfl (news:=qK ((i+1),(i+1)+1)) rfl (fX _ _ _ _) (lC _ _) ak cw ?_;intro y c8 B C u;have O8:aq _:=⟨C⟩;have r:aq (az w B):=⟨(o.o.alloc k _).trans u⟩;clear C u);have b:aq ((dO a ((i+1)+1)).length=m+1):=⟨Xc⟩;have t:aq (Cm B w.heap.size (dO a ((i+1)+1)) y (m+1) c8):=⟨Xy⟩;go_roundg(n-(i+1))
  case measure=>omega
  case rel=>exact⟨(i+1)+1,m+1,y,c8,ak,ak,ak,rfl,aT,b,t,r⟩
end Go.Proofs.YtklncadpkniojaaGreatDoor
