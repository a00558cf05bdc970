/- Part of LineCovers. -/
namespace Go.Proofs.YtklncadpkniojaaGreatDoor
set_option linter.all false
set_option maxRecDepth 100000
set_option maxHeartbeats 16000000
theorem ak{p:Prop}(h:p:=by omega):p:=h
theorem dJ{p:Prop}(h:p:=by simp[Value.oneCell']):p:=h
theorem Xs{p:Prop}(h:p:=by first|exact Lt.new _ _ _ _ _ (by simp) rfl rfl|exact LT.o.ar BE.o|exact LU.o.ar BE.o|exact LV.o.ar BE.o):p:=h
theorem aQ{p:Prop}(h:p:=by simp):p:=h
theorem cw{p:Prop}(h:p:=by simp;omega):p:=h
theorem aB{p:Prop}(h:p:=by rfl):p:=h
theorem jx{p:Prop}(h:p:=by rw[bU];exact av _ _):p:=h
theorem yC{p:Prop}(h:p:=by rw[Int.add_sub_cancel];exact IntWalk.i64_in _ (by omega)):p:=h
theorem mf{p:Prop}(h:p:=by rw[bU];exact Bx.new _ _ _):p:=h
theorem uK{p:Prop}(h:p:=by first|(intro _ h;unfold KU at h;omega)|simp):p:=h
theorem cr{p:Prop}(h:p:=by decide):p:=h
theorem gZ{p:Prop}(h:p:=by simp<;>omega):p:=h
theorem qS{p:Prop}(h:p:=by rw[aP];exact av _ _):p:=h
theorem Bk{p:Prop}(h:p:=by rw[cB (by omega)];exact List.getElem_mem _):p:=h
theorem Bn{p:Prop}(h:p:=by have:=BE.o.size;simp<;>omega):p:=h
theorem vz{p:Prop}(h:p:=by rw[aP];exact Bx.new _ _ _):p:=h
theorem abO{p:Prop}(h:p:=by rw[fS (by rw[HN.o];exact aK),<-hQ];exact⟨rfl,by rw[dM,HN.o];exact aK⟩):p:=h
theorem qT{p:Prop}(h:p:=by unfold maxLen;omega):p:=h
theorem fA{p:Prop}(h:p:=by cases h):p:=h
theorem Xx{p:Prop}(h:p:=by rw[IntWalk.wrap64_in _ (by omega)];rfl):p:=h
theorem vu{p:Prop}(h:p:=by simp at hd;simp[hd]):p:=h
theorem yD{p:Prop}(h:p:=by rw[aO];exact h2):p:=h
theorem oP{p:Prop}(h:p:=by simpa using hs):p:=h
theorem Bq{p:Prop}(h:p:=by rw[aO];exact jB):p:=h
theorem Kd{p:Prop}(h:p:=by simp only[aO];exact key):p:=h
theorem Xe{p:Prop}(h:p:=by have:=px.1;have:=py.1;have:=px.2;have:=py.2;omega):p:=h
theorem abN{p:Prop}(h:p:=by rw[aP,<-Cd];exact(Bx.new _ _ _).ar (av _ _) (by simp)):p:=h
theorem Xj{p:Prop}(h:p:=by rw[fM];exact h.push (by omega) (by omega)):p:=h
theorem abu{p:Prop}(h:p:=by have:=hl (j+1);simpa[Nat.add_assoc,Nat.add_comm 1 j]using this):p:=h
theorem oO{p:Prop}(h:p:=by rw[aP];simp):p:=h
theorem Xy{p:Prop}(h:p:=by unfold Cm;rw[PH.o,ny];exact O8.o):p:=h
theorem Xa{p:Prop}(h:p:=by rw[List.length_take,List.length_drop];omega):p:=h
theorem aeu{p:Prop}(h:p:=by first|exact Lt.new _ _ _ _ _ (by simp) rfl rfl|exact LT.o|exact LU.o|exact LV.o):p:=h
theorem Bw{p:Prop}(h:p:=by have:=nq.2.size;omega):p:=h
theorem EX{p:Prop}(h:p:=by have:=L3.o.hB;omega):p:=h
theorem ael{p:Prop}(h:p:=by show _+(if nth (fC x.q.gs j) 1<_ then nth (fC x.q.gs j) 2 else 0)=_;rw[Sw];rfl):p:=h
theorem Ke{p:Prop}(h:p:=by rw[h];exact av _ _):p:=h
theorem QU{p:Prop}(h:p:=by simp only[aO];exact h2):p:=h
theorem Xc{p:Prop}(h:p:=by rw[PH.o,List.length_append,ML.o];rfl):p:=h
theorem Xh{p:Prop}(h:p:=by exact Lt.new _ _ _ _ _ (by simp) rfl rfl):p:=h
theorem Kg{p:Prop}(h:p:=by rw[aO];exact hb):p:=h
theorem Q3{p:Prop}(h:p:=by rw[bU];exact Bx.gY _ _ _ hN):p:=h
theorem aeo{p:Prop}(h:p:=by rwa [getD_set_ne true (Ne.symm Vx),getD_set_ne true (Ne.symm Da)]at vF):p:=h
theorem Xb{p:Prop}(h:p:=by rw[<-Array.toArray_toList (xs:=cs),hl]):p:=h
theorem WX{p:Prop}(h:p:=by simp[qX,nth]<;>omega):p:=h
theorem aex{p:Prop}(h:p:=by simp[fp.F]at hu;rcases hu with rfl|rfl|rfl|rfl|rfl|rfl|rfl|rfl|rfl<;>rfl):p:=h
theorem Xm{p:Prop}(h:p:=by rw[iK (by simpa using hj)];simp):p:=h
theorem abM{p:Prop}(h:p:=by rw[aP];exact(av w _).alloc (by simp) _):p:=h
theorem aef{p:Prop}(h:p:=by rw[kV];exact(List.take_sublist _ _).trans (List.drop_sublist _ _)):p:=h
theorem abC{p:Prop}(h:p:=by have:=BK.o.size;rw[HSN.o]at this;exact this):p:=h
theorem vw{p:Prop}(h:p:=by simpa using hj):p:=h
theorem vv{p:Prop}(h:p:=by simpa using h2):p:=h
theorem aeU{p:Prop}(h:p:=by rw[cell_of_row _ _ _ _ _ _ (heap_alloc_new _ _)];simpa[fp.F]using h):p:=h
theorem aek{p:Prop}(h:p:=by rw[<-dZ];exact aN (Below.refl _ _) _):p:=h
theorem agF{p:Prop}(h:p:=by rw[cell_of_row _ _ _ _ _ _ (heap_alloc_new _ _)];simpa[Zy]using hu):p:=h
theorem Ff{p:Prop}(h:p:=by simpa[this]using hk):p:=h
theorem Fg{p:Prop}(h:p:=by unfold wrap64;omega):p:=h
theorem WW{p:Prop}(h:p:=by rw[getD_set_ne true dY];exact hl):p:=h
theorem WU{p:Prop}(h:p:=by rw[HQ.o];exact Aa (by omega)):p:=h
theorem Xr{p:Prop}(h:p:=by have:=b6.size;simp at this;omega):p:=h
theorem W7{p:Prop}(h:p:=by have:=(BI).size;simpa using this):p:=h
theorem pJ{p:Prop}(h:p:=by rw[E.o]):p:=h
theorem QF{p:Prop}(h:p:=by show w.heap.size<=g7;omega):p:=h
theorem WS{p:Prop}(h:p:=by rw[bj];exact hc j u hu):p:=h
theorem Xn{p:Prop}(h:p:=by rw[lT.o];exact Nat.le_refl _):p:=h
theorem Fe{p:Prop}(h:p:=by simpa using aK):p:=h
theorem aeh{p:Prop}(h:p:=by rw[show(r:Int)+(V1:Int)=(r1:Int) by omega,JP _ (by omega)]):p:=h
theorem abt{p:Prop}(h:p:=by rw[bU];exact BE.o.alloc BE.o.size _):p:=h
theorem Rg{p:Prop}(h:p:=by rw[<-Rt.1];exact U3.len):p:=h
theorem QK{p:Prop}(h:p:=by have:=xR xs k;omega):p:=h
theorem Kj{p:Prop}(h:p:=by subst h1;exact h2):p:=h
theorem abF{p:Prop}(h:p:=by rw[aO,aO];exact aK):p:=h
theorem abH{p:Prop}(h:p:=by simp[dk]at hu;obtain⟨y,_,rfl⟩:=hu;rfl):p:=h
theorem yE{p:Prop}(h:p:=by decide+kernel):p:=h
theorem Xo{p:Prop}(h:p:=by simpa[Region.lexFrom]using hB):p:=h
theorem Ki{p:Prop}(h:p:=by rw[h]at hr;cases hr):p:=h
theorem aeg{p:Prop}(h:p:=by rw[aP,cell_of_row _ _ _ _ _ _ (heap_alloc_new w _)];rfl):p:=h
theorem Fb{p:Prop}(h:p:=by simpa using h3):p:=h
theorem aer{p:Prop}(h:p:=by injection e1 with e1;injection e1 with e1;injection e1):p:=h
theorem agH{p:Prop}(h:p:=by have:=(B2.o).size;simpa using this):p:=h
theorem Kn{p:Prop}(h:p:=by have:=HJ.o;omega):p:=h
theorem Xu{p:Prop}(h:p:=by have:=px.1;have:=py.1;omega):p:=h
theorem Fc{p:Prop}(h:p:=by simpa using pK):p:=h
theorem aez{p:Prop}(h:p:=by rw[<-dZ];exact aN B2.o _):p:=h
theorem abP{p:Prop}(h:p:=by rw[h1]at e;exact Option.some.inj e):p:=h
theorem abB{p:Prop}(h:p:=by rw[<-hW];exact aN BE.o _):p:=h
theorem agG{p:Prop}(h:p:=by simp[Zy]at hu;rcases hu with rfl|rfl|rfl|rfl<;>rfl):p:=h
theorem abv{p:Prop}(h:p:=by unfold fL;simp only[h0];exact h):p:=h
theorem Fa{p:Prop}(h:p:=by simpa using h1):p:=h
theorem aee{p:Prop}(h:p:=by rw[aP];exact(av _ _).alloc (by simp) _):p:=h
theorem Xl{p:Prop}(h:p:=by first|omega|(simp;omega)):p:=h
theorem Zd{p:Prop}(h:p:=by rw[bU];exact(av _ _).alloc (by simp) _):p:=h
theorem Y'{p:Prop}(h:p:=by simp[KG]at hu;rcases hu with rfl|rfl|rfl<;>rfl):p:=h
theorem Zg{p:Prop}(h:p:=by rw[Nl JF yt,List.length_take];omega):p:=h
theorem QE{p:Prop}(h:p:=by obtain⟨n,rfl⟩:=jV;exact h n hE):p:=h
theorem Zi{p:Prop}(h:p:=by rw[h];exact(av _ _).alloc (by simp) _):p:=h
theorem aey{p:Prop}(h:p:=by rw[ER.o];simp[EP.o]):p:=h
theorem H9{p:Prop}(h:p:=by rw[nO (by omega),hx]):p:=h
theorem Ih{p:Prop}(h:p:=by simp at hu;subst hu;rfl):p:=h
theorem uM{p:Prop}(h:p:=by simpa using h):p:=h
theorem uL{p:Prop}(h:p:=by simp[Act.put]):p:=h
theorem Zc{p:Prop}(h:p:=by rw[dM];omega):p:=h
theorem Zb{p:Prop}(h:p:=by have:=congrArg List.length h;simpa using this):p:=h
theorem Bm{p:Prop}(h:p:=by have:=EB.o;omega):p:=h
theorem Bo{p:Prop}(h:p:=by rw[bU];simp;omega):p:=h
theorem YX{p:Prop}(h:p:=by rw[<-lf];exact aN (Below.refl _ _) _):p:=h
theorem nd{p:Prop}(h:p:=by simp[h1]):p:=h
theorem Ig{p:Prop}(h:p:=by simp[Region.wanted,hg]):p:=h
theorem rX{p:Prop}(h:p:=by simp[h.len]):p:=h
theorem Ib{p:Prop}(h:p:=by rw[this.1]at h;cases h):p:=h
theorem YZ{p:Prop}(h:p:=by rw[lf];exact av _ _):p:=h
theorem Zf{p:Prop}(h:p:=by first|(intro _;exact hi)|simp):p:=h
theorem Rf{p:Prop}(h:p:=by rw[e1];exact av _ _):p:=h
theorem QW{p:Prop}(h:p:=by rw[kz];exact Pv _ _):p:=h
theorem Bs{p:Prop}(h:p:=by have:=px.1;omega):p:=h
theorem Bt{p:Prop}(h:p:=by have:=px.2;omega):p:=h
theorem Rl{p:Prop}(h:p:=by rw[List.length_take];omega):p:=h
theorem Rh{p:Prop}(h:p:=by rw[IntKind.wrap_u64];omega):p:=h
theorem Y9{p:Prop}(h:p:=by rw[lf];exact Bx.new _ _ _):p:=h
theorem Rc{p:Prop}(h:p:=by rw[nY];exact h.at_.len):p:=h
theorem YW{p:Prop}(h:p:=by rw[EO.o];simp):p:=h
theorem YY{p:Prop}(h:p:=by rw[EL.o];simp):p:=h
theorem Ij{p:Prop}(h:p:=by rw[h.len];exact hj):p:=h
theorem Ic{p:Prop}(h:p:=by have:=HT.o;omega):p:=h
theorem Bj{p:Prop}(h:p:=by simpa using hl):p:=h
theorem Bl{p:Prop}(h:p:=by simpa using hk):p:=h
theorem Ie{p:Prop}(h:p:=by simpa using h4):p:=h
theorem Ii{p:Prop}(h:p:=by have:=h.len;omega):p:=h
theorem Bv{p:Prop}(h:p:=by rw[E.o];rfl):p:=h
theorem QT{p:Prop}(h:p:=by rw[Nat.add_mul];omega):p:=h
theorem Ri{p:Prop}(h:p:=by simp[bB];omega):p:=h
theorem Il{p:Prop}(h:p:=by have:=h.1;omega):p:=h
theorem xb{p:Prop}(h:p:=by simp[hlen]):p:=h
theorem H'{p:Prop}(h:p:=by simp[nth];omega):p:=h
theorem QO{p:Prop}(h:p:=by simp[Region.wanted]):p:=h
theorem Rk{p:Prop}(h:p:=by rw[pB];exact h):p:=h
theorem H5{p:Prop}(h:p:=by simp[Addr.add]):p:=h
theorem QV{p:Prop}(h:p:=by simpa using hp):p:=h
theorem Ia{p:Prop}(h:p:=by clear wk;omega):p:=h
theorem Br{p:Prop}(h:p:=by injection e):p:=h
theorem xa{p:Prop}(h:p:=by simp[nth]):p:=h
theorem Ik{p:Prop}(h:p:=by congr 1;omega):p:=h
theorem gW{p:Prop}[Decidable p](h:¬p:=by omega):decide p=false:=decide_eq_false h
theorem Kc{p:Prop}[Decidable p](h:p:=by omega):decide p=true:=decide_eq_true h
theorem pI{α:Type}[BEq α][LawfulBEq α]{a b:α}(h:¬a=b:=by omega):(a==b)=false:=by simpa using h
theorem bW{a:Nat}:a<=a:=Nat.le_refl a
theorem aU(a b:Nat)(h:a<b:=by omega):(a:Int)<(b:Int):=by omega
theorem cv(a b:Nat)(h:¬a<b:=by omega):¬(a:Int)<(b:Int):=by omega
theorem ie(a:Nat):(0:Int)<=(a:Int):=by omega
structure Pr where
 iU:Int
 bN:Int
 wY:Int
 script:Int
 join:Int
 word:Int
 fg:Int
 pair:Int
 opens:Bool
theorem Pr.adx{a b:Pr}(h:a.iU=b.iU/\a.bN=b.bN/\a.wY=b.wY/\a.script=b.script/\a.join=b.join/\a.word=b.word/\a.fg=b.fg/\a.pair=b.pair/\a.opens=b.opens):a=b:=by
 obtain⟨_,_,_,_,_,_,_,_,_⟩:=a;obtain⟨_,_,_,_,_,_,_,_,_⟩:=b;simp at h;simp[h]
instance (a b:Pr):Decidable (a=b):=
 decidable_of_iff (a.iU=b.iU/\a.bN=b.bN/\a.wY=b.wY/\a.script=b.script/\a.join=b.join/\a.word=b.word/\a.fg=b.fg/\a.pair=b.pair/\a.opens=b.opens)
  ⟨Pr.adx,fun h=>by subst h;simp⟩
def Vw:List (Int×Int×Pr):=[(0,8,⟨10,3,8,0,0,0,0,0,false⟩),(9,9,⟨12,3,10,0,0,7,0,0,false⟩),(10,10,⟨11,2,3,0,0,7,0,0,false⟩),(11,11,⟨12,3,1,0,0,7,0,0,false⟩),(12,12,⟨13,3,1,0,0,7,0,0,false⟩),(13,13,⟨11,1,2,0,0,7,0,0,false⟩),(14,27,⟨10,3,8,0,0,0,0,0,false⟩),(28,30,⟨11,3,8,0,0,0,0,0,false⟩),(31,31,⟨12,3,8,0,0,0,0,0,false⟩),(32,32,⟨13,0,4,0,0,7,0,0,false⟩),(33,33,⟨14,0,15,0,0,0,0,0,false⟩),(34,34,⟨14,0,19,0,0,0,0,0,false⟩),(35,35,⟨6,0,0,0,0,0,0,0,false⟩),(36,36,⟨6,0,23,0,0,0,0,0,false⟩),(37,37,⟨6,0,22,0,0,0,0,0,false⟩),(38,38,⟨14,0,0,0,0,0,0,0,false⟩),(39,39,⟨14,0,19,0,0,3,0,0,false⟩),(40,40,⟨14,0,18,0,0,0,41,41,true⟩)]
def Sp:List (Int×Int×Pr):=[(41,41,⟨14,0,14,0,0,0,40,40,false⟩),(42,42,⟨14,0,0,0,0,0,0,0,false⟩),(43,43,⟨5,0,23,0,0,0,0,0,false⟩),(44,44,⟨8,0,20,0,0,4,0,0,false⟩),(45,45,⟨5,0,12,0,0,0,0,0,false⟩),(46,46,⟨8,0,20,0,0,4,0,0,false⟩),(47,47,⟨8,0,24,0,0,0,0,0,false⟩),(48,57,⟨4,0,21,0,0,2,0,0,false⟩),(58,58,⟨8,0,20,0,0,3,0,0,false⟩),(59,59,⟨14,0,20,0,0,4,0,0,false⟩),(60,60,⟨14,0,0,0,0,0,62,0,false⟩),(61,61,⟨14,0,0,0,0,0,0,0,false⟩),(62,62,⟨14,0,0,0,0,0,60,0,false⟩),(63,63,⟨14,0,15,0,0,0,0,0,false⟩),(64,64,⟨14,0,0,0,0,0,0,0,false⟩),(65,90,⟨1,0,0,2,0,1,0,0,false⟩),(91,91,⟨14,0,18,0,0,0,93,93,true⟩),(92,92,⟨14,0,23,0,0,0,0,0,false⟩)]
def Tr:List (Int×Int×Pr):=[(93,93,⟨14,0,14,0,0,0,91,91,false⟩),(94,94,⟨14,0,0,0,0,0,0,0,false⟩),(95,95,⟨14,0,0,0,0,5,0,0,false⟩),(96,96,⟨14,0,0,0,0,0,0,0,false⟩),(97,122,⟨1,0,0,2,0,1,0,0,false⟩),(123,123,⟨14,0,18,0,0,0,125,125,true⟩),(124,124,⟨14,0,10,0,0,0,0,0,false⟩),(125,125,⟨14,0,13,0,0,0,123,123,false⟩),(126,126,⟨14,0,0,0,0,0,0,0,false⟩),(127,132,⟨10,3,8,0,0,0,0,0,false⟩),(133,133,⟨11,3,1,0,0,7,0,0,false⟩),(134,159,⟨10,3,8,0,0,0,0,0,false⟩),(160,160,⟨8,0,7,0,0,0,0,0,false⟩),(161,161,⟨14,0,18,0,0,0,0,0,false⟩),(162,165,⟨6,0,23,0,0,0,0,0,false⟩),(166,169,⟨14,0,0,0,0,0,0,0,false⟩),(170,170,⟨1,0,0,2,0,1,0,0,false⟩),(171,171,⟨14,0,19,0,0,0,187,0,false⟩)]
def Ti:List (Int×Int×Pr):=[(172,172,⟨14,0,0,0,0,0,0,0,false⟩),(173,173,⟨10,3,10,0,5,6,0,0,false⟩),(174,175,⟨14,0,0,0,0,0,0,0,false⟩),(176,177,⟨6,0,22,0,0,0,0,0,false⟩),(178,179,⟨4,0,0,0,0,0,0,0,false⟩),(180,180,⟨14,0,11,0,0,0,0,0,false⟩),(181,181,⟨1,0,0,0,0,1,0,0,false⟩),(182,182,⟨14,0,0,0,0,0,0,0,false⟩),(183,183,⟨14,0,0,0,0,3,0,0,false⟩),(184,184,⟨14,0,0,0,0,0,0,0,false⟩),(185,185,⟨4,0,0,0,0,0,0,0,false⟩),(186,186,⟨1,0,0,2,0,1,0,0,false⟩),(187,187,⟨14,0,19,0,0,0,171,0,false⟩),(188,190,⟨14,0,0,0,0,0,0,0,false⟩),(191,191,⟨14,0,18,0,0,0,0,0,false⟩),(192,214,⟨1,0,0,2,0,1,0,0,false⟩),(215,215,⟨14,0,0,0,0,0,0,0,false⟩),(216,246,⟨1,0,0,2,0,1,0,0,false⟩)]
def VV:List (Int×Int×Pr):=[(247,247,⟨14,0,0,0,0,0,0,0,false⟩),(248,591,⟨1,0,0,2,0,1,0,0,false⟩),(768,879,⟨9,4,8,1,5,6,0,0,false⟩),(880,883,⟨1,0,0,3,0,1,0,0,false⟩),(884,885,⟨14,0,0,0,0,0,0,0,false⟩),(886,893,⟨1,0,0,3,0,1,0,0,false⟩),(894,894,⟨14,0,20,0,0,4,0,0,false⟩),(895,1023,⟨1,0,0,3,0,1,0,0,false⟩),(1024,1154,⟨1,0,0,4,0,1,0,0,false⟩),(1155,1161,⟨9,4,8,1,5,6,0,0,false⟩),(1162,1327,⟨1,0,0,4,0,1,0,0,false⟩),(1425,1469,⟨9,4,8,1,5,6,0,0,false⟩),(1470,1470,⟨2,0,10,5,0,0,0,0,false⟩),(1471,1471,⟨9,4,8,1,5,6,0,0,false⟩),(1472,1472,⟨2,0,0,5,0,0,0,0,false⟩),(1473,1474,⟨9,4,8,1,5,6,0,0,false⟩),(1475,1475,⟨2,0,0,5,0,0,0,0,false⟩),(1476,1477,⟨9,4,8,1,5,6,0,0,false⟩)]
def Sn:List (Int×Int×Pr):=[(1478,1478,⟨2,0,15,5,0,0,0,0,false⟩),(1479,1479,⟨9,4,8,1,5,6,0,0,false⟩),(1488,1514,⟨2,0,28,5,0,1,0,0,false⟩),(1520,1522,⟨2,0,28,5,0,1,0,0,false⟩),(1523,1524,⟨2,0,0,5,0,3,0,0,false⟩),(1536,1541,⟨7,7,21,0,0,0,0,0,false⟩),(1544,1544,⟨3,0,0,6,0,0,0,0,false⟩),(1548,1548,⟨8,0,20,0,0,4,0,0,false⟩),(1552,1562,⟨9,4,8,1,5,6,0,0,false⟩),(1563,1563,⟨3,0,15,0,0,0,0,0,false⟩),(1564,1564,⟨3,3,8,0,5,6,0,0,false⟩),(1567,1567,⟨3,0,15,0,0,0,0,0,false⟩),(1568,1568,⟨3,0,0,6,1,1,0,0,false⟩),(1569,1569,⟨3,0,0,6,0,1,0,0,false⟩),(1570,1573,⟨3,0,0,6,2,1,0,0,false⟩),(1574,1574,⟨3,0,0,6,1,1,0,0,false⟩),(1575,1575,⟨3,0,0,6,2,1,0,0,false⟩),(1576,1576,⟨3,0,0,6,1,1,0,0,false⟩)]
def Vj:List (Int×Int×Pr):=[(1577,1577,⟨3,0,0,6,2,1,0,0,false⟩),(1578,1582,⟨3,0,0,6,1,1,0,0,false⟩),(1583,1586,⟨3,0,0,6,2,1,0,0,false⟩),(1587,1599,⟨3,0,0,6,1,1,0,0,false⟩),(1600,1600,⟨3,0,0,0,4,1,0,0,false⟩),(1601,1607,⟨3,0,0,6,1,1,0,0,false⟩),(1608,1608,⟨3,0,0,6,2,1,0,0,false⟩),(1609,1610,⟨3,0,0,6,1,1,0,0,false⟩),(1611,1631,⟨9,4,8,1,5,6,0,0,false⟩),(1632,1641,⟨7,0,21,6,0,2,0,0,false⟩),(1642,1642,⟨6,0,22,6,0,0,0,0,false⟩),(1643,1644,⟨7,0,21,6,0,4,0,0,false⟩),(1645,1645,⟨3,0,0,6,0,0,0,0,false⟩),(1646,1647,⟨3,0,0,6,1,1,0,0,false⟩),(1648,1648,⟨9,4,8,1,5,6,0,0,false⟩),(1649,1651,⟨3,0,0,6,2,1,0,0,false⟩),(1652,1652,⟨3,0,0,6,0,1,0,0,false⟩),(1653,1655,⟨3,0,0,6,2,1,0,0,false⟩)]
def TV:List (Int×Int×Pr):=[(1656,1671,⟨3,0,0,6,1,1,0,0,false⟩),(1672,1689,⟨3,0,0,6,2,1,0,0,false⟩),(1690,1727,⟨3,0,0,6,1,1,0,0,false⟩),(1728,1728,⟨3,0,0,6,2,1,0,0,false⟩),(1729,1730,⟨3,0,0,6,1,1,0,0,false⟩),(1731,1739,⟨3,0,0,6,2,1,0,0,false⟩),(1740,1740,⟨3,0,0,6,1,1,0,0,false⟩),(1741,1741,⟨3,0,0,6,2,1,0,0,false⟩),(1742,1742,⟨3,0,0,6,1,1,0,0,false⟩),(1743,1743,⟨3,0,0,6,2,1,0,0,false⟩),(1744,1745,⟨3,0,0,6,1,1,0,0,false⟩),(1746,1747,⟨3,0,0,6,2,1,0,0,false⟩),(1748,1748,⟨3,0,15,6,0,0,0,0,false⟩),(1749,1749,⟨3,0,0,6,2,1,0,0,false⟩),(1750,1756,⟨9,4,8,1,5,6,0,0,false⟩),(1757,1757,⟨7,7,21,0,0,0,0,0,false⟩),(1759,1764,⟨9,4,8,1,5,6,0,0,false⟩),(1776,1785,⟨4,0,21,6,0,2,0,0,false⟩)]
def Wd:List (Int×Int×Pr):=[(2304,2306,⟨9,4,8,11,5,6,0,0,false⟩),(2307,2307,⟨1,8,8,11,0,6,0,0,false⟩),(2308,2361,⟨1,0,0,11,0,1,0,0,false⟩),(2362,2362,⟨9,4,8,11,5,6,0,0,false⟩),(2364,2364,⟨9,4,8,11,5,6,0,0,false⟩),(2366,2368,⟨1,8,8,11,0,6,0,0,false⟩),(2369,2376,⟨9,4,8,11,5,6,0,0,false⟩),(2377,2380,⟨1,8,8,11,0,6,0,0,false⟩),(2381,2381,⟨9,4,8,11,5,6,0,0,false⟩),(2406,2415,⟨1,0,21,11,0,2,0,0,false⟩),(3585,3632,⟨1,0,0,10,0,1,0,0,false⟩),(3633,3633,⟨9,4,8,10,5,6,0,0,false⟩),(3634,3634,⟨1,0,0,10,0,1,0,0,false⟩),(3635,3635,⟨1,8,8,10,0,6,0,0,false⟩),(3636,3642,⟨9,4,8,10,5,6,0,0,false⟩),(3648,3654,⟨1,0,0,10,0,1,0,0,false⟩),(3655,3662,⟨9,4,8,10,5,6,0,0,false⟩),(3664,3673,⟨1,0,21,10,0,2,0,0,false⟩)]
def TN:List (Int×Int×Pr):=[(4352,4447,⟨1,9,30,9,0,1,0,0,false⟩),(4448,4519,⟨1,10,31,9,0,1,0,0,false⟩),(4520,4607,⟨1,11,32,9,0,1,0,0,false⟩),(8192,8198,⟨13,0,10,0,0,7,0,0,false⟩),(8199,8199,⟨13,0,7,0,0,7,0,0,false⟩),(8200,8202,⟨13,0,10,0,0,7,0,0,false⟩),(8203,8203,⟨10,3,5,0,0,0,0,0,false⟩),(8204,8204,⟨10,4,8,1,0,6,0,0,false⟩),(8205,8205,⟨10,5,9,1,4,6,0,0,false⟩),(8206,8206,⟨1,3,8,0,5,6,0,0,false⟩),(8207,8207,⟨2,3,8,0,5,6,0,0,false⟩),(8208,8208,⟨14,0,10,0,0,0,0,0,false⟩),(8209,8209,⟨14,0,7,0,0,0,0,0,false⟩),(8210,8212,⟨14,0,10,0,0,0,0,0,false⟩),(8216,8217,⟨14,0,19,0,0,3,0,0,false⟩),(8220,8221,⟨14,0,19,0,0,0,0,0,false⟩),(8228,8230,⟨14,0,16,0,0,0,0,0,false⟩),(8232,8232,⟨13,3,1,0,0,7,0,0,false⟩)]
def Hc:List (Int×Int×Pr):=[(8233,8233,⟨11,3,1,0,0,7,0,0,false⟩),(8234,8234,⟨15,3,8,0,5,6,0,0,false⟩),(8235,8235,⟨17,3,8,0,5,6,0,0,false⟩),(8236,8236,⟨19,3,8,0,5,6,0,0,false⟩),(8237,8237,⟨16,3,8,0,5,6,0,0,false⟩),(8238,8238,⟨18,3,8,0,5,6,0,0,false⟩),(8239,8239,⟨8,0,7,0,0,5,0,0,false⟩),(8240,8241,⟨6,0,22,0,0,0,0,0,false⟩),(8249,8249,⟨14,0,19,0,0,0,8250,0,false⟩),(8250,8250,⟨14,0,19,0,0,0,8249,0,false⟩),(8255,8256,⟨14,0,0,0,0,5,0,0,false⟩),(8260,8260,⟨8,0,20,0,0,4,0,0,false⟩),(8261,8261,⟨14,0,18,0,0,0,8262,8262,true⟩),(8262,8262,⟨14,0,13,0,0,0,8261,8261,false⟩),(8288,8288,⟨10,3,6,0,5,6,0,0,false⟩),(8294,8294,⟨20,3,8,0,0,6,0,0,false⟩),(8295,8295,⟨21,3,8,0,0,6,0,0,false⟩),(8296,8296,⟨22,3,8,0,0,6,0,0,false⟩)]
def Fs:List (Int×Int×Pr):=[(8297,8297,⟨23,3,8,0,0,6,0,0,false⟩),(8352,8383,⟨6,0,23,0,0,0,0,0,false⟩),(8400,8432,⟨9,4,8,1,5,6,0,0,false⟩),(8592,8711,⟨14,0,0,0,0,0,0,0,false⟩),(8712,8712,⟨14,0,0,0,0,0,8715,0,false⟩),(8713,8714,⟨14,0,0,0,0,0,0,0,false⟩),(8715,8715,⟨14,0,0,0,0,0,8712,0,false⟩),(8716,8721,⟨14,0,0,0,0,0,0,0,false⟩),(8722,8723,⟨5,0,23,0,0,0,0,0,false⟩),(8724,8803,⟨14,0,0,0,0,0,0,0,false⟩),(8804,8804,⟨14,0,0,0,0,0,8805,0,false⟩),(8805,8805,⟨14,0,0,0,0,0,8804,0,false⟩),(8806,8959,⟨14,0,0,0,0,0,0,0,false⟩),(9001,9001,⟨14,0,18,0,0,0,9002,9002,true⟩),(9002,9002,⟨14,0,13,0,0,0,9001,9001,false⟩),(9728,10175,⟨14,14,25,0,0,0,0,0,false⟩),(12288,12288,⟨13,0,10,0,0,7,0,0,false⟩),(12289,12290,⟨14,0,13,0,0,0,0,0,false⟩)]
def Hb:List (Int×Int×Pr):=[(12293,12293,⟨1,0,17,7,0,0,0,0,false⟩),(12296,12296,⟨14,0,18,0,0,0,12297,12297,true⟩),(12297,12297,⟨14,0,13,0,0,0,12296,12296,false⟩),(12298,12298,⟨14,0,18,0,0,0,12299,12299,true⟩),(12299,12299,⟨14,0,13,0,0,0,12298,12298,false⟩),(12300,12300,⟨14,0,18,0,0,0,12301,12301,true⟩),(12301,12301,⟨14,0,13,0,0,0,12300,12300,false⟩),(12302,12302,⟨14,0,18,0,0,0,12303,12303,true⟩),(12303,12303,⟨14,0,13,0,0,0,12302,12302,false⟩),(12304,12304,⟨14,0,18,0,0,0,12305,12305,true⟩),(12305,12305,⟨14,0,13,0,0,0,12304,12304,false⟩),(12353,12438,⟨1,0,25,8,0,0,0,0,false⟩),(12441,12442,⟨9,4,8,1,5,6,0,0,false⟩),(12445,12446,⟨1,0,17,8,0,0,0,0,false⟩),(12449,12538,⟨1,0,25,8,0,1,0,0,false⟩),(12539,12539,⟨14,0,17,0,0,0,0,0,false⟩),(12540,12542,⟨1,0,17,8,0,1,0,0,false⟩),(13312,19903,⟨1,0,25,7,0,0,0,0,false⟩)]
def Hi:List (Int×Int×Pr):=[(19968,40959,⟨1,0,25,7,0,0,0,0,false⟩),(44032,55203,⟨1,13,34,9,0,1,0,0,false⟩),(63744,64255,⟨1,0,25,7,0,0,0,0,false⟩),(64285,64285,⟨2,0,28,5,0,1,0,0,false⟩),(64286,64286,⟨9,4,8,1,5,6,0,0,false⟩),(64287,64335,⟨2,0,28,5,0,1,0,0,false⟩),(65024,65039,⟨9,4,8,1,5,6,0,0,false⟩),(65056,65071,⟨9,4,8,1,5,6,0,0,false⟩),(65279,65279,⟨10,3,6,0,5,6,0,0,false⟩),(65281,65281,⟨14,0,15,0,0,0,0,0,false⟩),(65288,65288,⟨14,0,18,0,0,0,65289,65289,true⟩),(65289,65289,⟨14,0,13,0,0,0,65288,65288,false⟩),(65292,65292,⟨8,0,13,0,0,4,0,0,false⟩),(65296,65305,⟨4,0,25,0,0,2,0,0,false⟩),(65532,65533,⟨14,0,0,0,0,0,0,0,false⟩),(127462,127487,⟨1,6,29,0,0,0,0,0,false⟩),(127744,127994,⟨14,14,25,0,0,0,0,0,false⟩),(127995,127999,⟨14,4,27,0,0,6,0,0,false⟩)]
def F':List (Int×Int×Pr):=[(128000,128101,⟨14,14,25,0,0,0,0,0,false⟩),(128102,128105,⟨14,14,26,0,0,0,0,0,false⟩),(128106,128591,⟨14,14,25,0,0,0,0,0,false⟩),(128640,128767,⟨14,14,25,0,0,0,0,0,false⟩),(129280,129535,⟨14,14,25,0,0,0,0,0,false⟩),(131072,196605,⟨1,0,25,7,0,0,0,0,false⟩),(917536,917631,⟨10,4,8,0,5,6,0,0,false⟩),(917760,917999,⟨9,4,8,1,5,6,0,0,false⟩)]
def iF:List (Int×Int×Pr):=Vw++Sp++Tr++Ti++VV++Sn++Vj++TV++Wd++TN++Hc++Fs++Hb++Hi++F'
def Pr.rest:Pr:=⟨1,0,0,0,0,0,0,0,false⟩
def look:List (Int×Int×Pr)->Int->Option Pr
 |[],_=>none
 |(lo,hi,p)::l,r=>if lo<=r/\r<=hi then some p else look l r
theorem iT:∀(l m:List (Int×Int×Pr)) (r:Int),look (l++m) r=(look l r).or (look m r)
 |[],m,r=>by simp[look]
 |(lo,hi,p)::l,m,r=>by
  simp only[List.cons_append,look];split
  .rfl
  .exact iT l m r
def a7(r:Int):Pr:=
 match look iF r with
 |some p=>if 44032<=r/\r<=55203/\(r-44032)%28=0 then{p with bN:=12,wY:=33}else p
 |none=>Pr.rest
theorem eX{α:Sort _}(a:α):∃x,x=a:=⟨a,rfl⟩
theorem eY {α:Sort _} (a:α):∃x,a=x:=⟨a,rfl⟩
def R8:Int×Int×Pr:=(0,0,Pr.rest)
def sy(i:Nat):Int×Int×Pr:=iF.getD i R8
def Jv(i:Nat):Int:=(sy i).2.1
def aam:List Int:=[42,96,180,1023,1563,1644,1749,3654,8232,8383,12298,64335,917999]
def kW(i:Nat):Int:=aam.getD i 0
def jt:List (Int×Int×Pr)->Bool
 |(a,b,_)::(c,d,q)::l=>decide (a<=b/\b<c)&&jt ((c,d,q)::l)
 |[(a,b,_)]=>decide (a<=b)
 |[]=>true
theorem ue:jt iF=true:=yE
theorem lI:iF.length=260:=yE
theorem xj:∀k,k<13->kW k=Jv (20*k+19):=yE
theorem qU{x:Int×Int×Pr}{l:List (Int×Int×Pr)}(h:jt (x::l)=true):jt l=true/\x.1<=x.2.1/\∀y∈l,x.2.1<y.1/\x.2.1<y.2.1:=by
 obtain⟨a,b,p⟩:=x
 induction l generalizing a b p with
 |nil=>simp[jt]at h;simp[jt,h]
 |cons y l ih=>
  obtain⟨c,d,q⟩:=y;simp only[jt,Bool.and_eq_true,decide_eq_true_eq]at h;obtain⟨i,f⟩:=h;obtain⟨k,g,j⟩:=ih c d q f;refine⟨f,i.1,fun y e=> ?_⟩;rcases List.mem_cons.1 e with rfl|e
  .simp only at g⊢;omega
  .have:=j y e;simp only at g this⊢;omega
theorem mg:∀(l:List (Int×Int×Pr)) (r:Int),(∀y∈l,r<y.1)->look l r=none
 |[],_,_=>rfl
 |(a,b,p)::l,r,h=>by
  have d:=h (a,b,p) (List.mem_cons_self ..);simp only at d;simp only[look];rw[if_neg ak];exact mg l r fun y c=>h y (List.mem_cons_of_mem _ c)
theorem Ha:∀(l:List (Int×Int×Pr)) (r:Int) (n:Nat),jt l=true->(d:n<l.length)->(∀i,i<n->(l.getD i R8).2.1<r)->r<=(l.getD n R8).2.1->
 look l r=if(l.getD n R8).1<=r then some (l.getD n R8).2.2 else none
 |[],_,_,_,d,_,_=>absurd d aQ
 |(a,b,p)::l,r,n,hr,d,h1,h2=>by
  obtain⟨f,k,j⟩:=qU hr;cases n with
  |zero=>
   simp only[List.getD_cons_zero]at h2⊢;simp only[look];by_cases c:a<=r
   .rw[if_pos ⟨c,h2⟩,if_pos c]
   .rw[if_neg (fun h=>c h.1),if_neg c]
    exact mg l r fun y e=>by have:=(j y e).1;simp only at this;omega
  |succ n=>
   have g:=h1 0 ak;simp only[List.getD_cons_zero]at g;simp only[look];rw[if_neg ak];simp only[List.getD_cons_succ]at h2⊢;exact Ha l r n f (by simpa using d) (fun i m=>by have:=h1 (i+1) (by omega);simpa using this) h2
theorem wZ:∀(l:List (Int×Int×Pr)) (r:Int),(∀i,i<l.length->(l.getD i R8).2.1<r)->look l r=none
 |[],_,_=>rfl
 |(a,b,p)::l,r,h=>by
  have c:=h 0 aQ;simp only[List.getD_cons_zero]at c;simp only[look];rw[if_neg ak];exact wZ l r fun i d=>by have:=h (i+1) (by simpa using d);simpa using this
theorem rj:∀(l:List (Int×Int×Pr)) (i j:Nat),jt l=true->i<j->j<l.length->(l.getD i R8).2.1<(l.getD j R8).2.1
 |[],_,_,_,_,hj=>absurd hj aQ
 |x::l,i,j,hr,Pk,hj=>by
  obtain⟨c,f,e⟩:=qU hr;obtain⟨j,rfl⟩:∃b,j=b+1:=⟨j-1,ak⟩;cases i with
  |zero=>
   simp only[List.getD_cons_zero,List.getD_cons_succ];have a:j<l.length:=vw;have d:l.getD j R8∈l:=by
    rw[List.getD_eq_getElem?_getD,List.getElem?_eq_getElem a];simp
   exact(e _ d).2
  |succ i=>
   simp only[List.getD_cons_succ];exact rj l i j c ak vw
theorem aa0{i j:Nat}(h:i<j)(a:j<260):Jv i<Jv j:=rj iF i j ue h (by rw[lI];exact a)
theorem ya{i j:Nat}(h:i<=j)(b:j<260):Jv i<=Jv j:=by
 rcases Nat.lt_or_ge i j with a|a
 .exact Int.le_of_lt (aa0 a b)
 .rw[show i=j by omega];exact Int.le_refl _
theorem Er{r:Int}{n:Nat}(c:n<260)(a:n=0∨Jv (n-1)<r)(b:r<=Jv n):
 look iF r=if(sy n).1<=r then some (sy n).2.2 else none:=by
 refine Ha iF r n ue (by rw[lI];exact c) (fun i d=> ?_) b;rcases a with a|a
 .omega
 .exact Int.lt_of_le_of_lt (ya (i:=i) (j:=n-1) ak ak) a
theorem zi{r:Int}(h:kW 12<r):look iF r=none:=by
 refine wZ iF r fun i b=> ?_;rw[lI]at b;have a:kW 12=Jv 259:=xj 12 ak;exact Int.lt_of_le_of_lt (ya (i:=i) (j:=259) ak ak) (by rw[<-a];exact h)
end Go.Proofs.YtklncadpkniojaaGreatDoor
