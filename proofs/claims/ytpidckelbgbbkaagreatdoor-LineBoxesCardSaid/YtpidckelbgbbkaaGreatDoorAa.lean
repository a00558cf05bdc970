/- Part of LineBoxes. -/
namespace Go.Proofs.YtpidckelbgbbkaaGreatDoor
set_option linter.all false
set_option maxRecDepth 100000
set_option maxHeartbeats 16000000
theorem aq{p:Prop}(h:p:=by omega):p:=h
theorem dK{p:Prop}(h:p:=by simp[Value.oneCell']):p:=h
theorem VV{p:Prop}(h:p:=by first|exact Lt.new _ _ _ _ _ (by simp) rfl rfl|exact LT.o.ar BE.o|exact LU.o.ar BE.o|exact LV.o.ar BE.o):p:=h
theorem aK{p:Prop}(h:p:=by rfl):p:=h
theorem cA{p:Prop}(h:p:=by simp;omega):p:=h
theorem aD{p:Prop}(h:p:=by simp):p:=h
theorem jT{p:Prop}(h:p:=by rw[cd];exact av _ _):p:=h
theorem bQ{p:Prop}(h:p:=by decide):p:=h
theorem lY{p:Prop}(h:p:=by rw[aP];exact av _ _):p:=h
theorem yA{p:Prop}(h:p:=by rw[Int.add_sub_cancel];exact IntWalk.i64_in _ (by omega)):p:=h
theorem uA{p:Prop}(h:p:=by first|(intro _ h;unfold JU at h;omega)|simp):p:=h
theorem ij{p:Prop}(h:p:=by simp<;>omega):p:=h
theorem oJ{p:Prop}(h:p:=by rw[cd];exact Bx.new _ _ _):p:=h
theorem Bi{p:Prop}(h:p:=by rw[dQ (by omega)];exact List.getElem_mem _):p:=h
theorem Bf{p:Prop}(h:p:=by have:=BE.o.size;simp<;>omega):p:=h
theorem qR{p:Prop}(h:p:=by rw[aP];exact Bx.new _ _ _):p:=h
theorem Pg{p:Prop}(h:p:=by rw[aP,<-nd];exact(Bx.new _ _ _).ar (av _ _) (by simp)):p:=h
theorem JH{p:Prop}(h:p:=by rw[aP];exact(av w _).alloc (by simp) _):p:=h
theorem pN{p:Prop}(h:p:=by unfold maxLen;omega):p:=h
theorem Pb{p:Prop}(h:p:=by rw[HQ.o];exact yu (by omega)):p:=h
theorem yF{p:Prop}(h:p:=by rw[aO];exact iN):p:=h
theorem vh{p:Prop}(h:p:=by simp at hd;simp[hd]):p:=h
theorem yG{p:Prop}(h:p:=by rw[aO];exact h2):p:=h
theorem gO{p:Prop}(h:p:=by cases h):p:=h
theorem oM{p:Prop}(h:p:=by simpa using hs):p:=h
theorem Pz{p:Prop}(h:p:=by rw[aP,<-nd];exact Bx.jt _ _ _ (by simp)):p:=h
theorem JN{p:Prop}(h:p:=by simp only[aO];exact key):p:=h
theorem Vz{p:Prop}(h:p:=by have:=px.1;have:=py.1;have:=px.2;have:=py.2;omega):p:=h
theorem mR{p:Prop}(h:p:=by rw[E.o]):p:=h
theorem aaD{p:Prop}(h:p:=by have:=hl (j+1);simpa[Nat.add_assoc,Nat.add_comm 1 j]using this):p:=h
theorem oL{p:Prop}(h:p:=by rw[aP];simp):p:=h
theorem sF{p:Prop}(h:p:=by simp[nth];omega):p:=h
theorem vi{p:Prop}(h:p:=by have:=HB.o;omega):p:=h
theorem acJ{p:Prop}(h:p:=by rw[XM.o];exact Qg.o.trans (B7.o.mono (by have:=Qg.o.size;have:=XM.o;omega))):p:=h
theorem Vu{p:Prop}(h:p:=by unfold Bv;rw[PH.o,mZ];exact O8.o):p:=h
theorem yz{p:Prop}(h:p:=by simpa[this]using hk):p:=h
theorem adD{p:Prop}(h:p:=by first|exact Lt.new _ _ _ _ _ (by simp) rfl rfl|exact LT.o|exact LU.o|exact LV.o):p:=h
theorem Et{p:Prop}(h:p:=by have:=L3.o.hB;omega):p:=h
theorem acF{p:Prop}(h:p:=by show _+(if nth (fW x.q.gs j) 1<_ then nth (fW x.q.gs j) 2 else 0)=_;rw[UZ];rfl):p:=h
theorem JE{p:Prop}(h:p:=by rw[h];exact av _ _):p:=h
theorem Es{p:Prop}(h:p:=by rw[nR (by omega),hx]):p:=h
theorem Pm{p:Prop}(h:p:=by simp only[aO];exact h2):p:=h
theorem Vw{p:Prop}(h:p:=by rw[PH.o,List.length_append,ML.o];rfl):p:=h
theorem VC{p:Prop}(h:p:=by exact Lt.new _ _ _ _ _ (by simp) rfl rfl):p:=h
theorem adJ{p:Prop}(h:p:=by have:=SJ.o;rwa [iS (fun _=>by rw[GE.o];simpa using CY)]at this):p:=h
theorem OU{p:Prop}(h:p:=by rw[cd];exact Bx.jt _ _ _ hN):p:=h
theorem acI{p:Prop}(h:p:=by rwa [getD_set_ne true (Ne.symm Vt),getD_set_ne true (Ne.symm CJ)]at vY):p:=h
theorem VK{p:Prop}(h:p:=by rw[<-Array.toArray_toList (xs:=cs),hl]):p:=h
theorem VN{p:Prop}(h:p:=by have:=BB.size;have:=B5.o.size;omega):p:=h
theorem aaI{p:Prop}(h:p:=by rw[EA.o,if_pos hl,HY.o,lB];congr 1;omega):p:=h
theorem Ev{p:Prop}(h:p:=by have:=nq.2.size;omega):p:=h
theorem acP{p:Prop}(h:p:=by simp[eE.F]at hu;rcases hu with rfl|rfl|rfl|rfl|rfl|rfl|rfl|rfl|rfl<;>rfl):p:=h
theorem Vv{p:Prop}(h:p:=by have:=EL.o;split at this<;>omega):p:=h
theorem ac9{p:Prop}(h:p:=by rw[cell_of_row _ _ _ _ _ _ (heap_alloc_new _ _)];simpa[eE.F]using h):p:=h
theorem yE{p:Prop}(h:p:=by simpa using nB):p:=h
theorem acs{p:Prop}(h:p:=by rw[<-eD];exact aM (Below.refl _ _) _):p:=h
theorem afo{p:Prop}(h:p:=by rw[cell_of_row _ _ _ _ _ _ (heap_alloc_new _ _)];simpa[sqF]using hu):p:=h
theorem VO{p:Prop}(h:p:=by rw[getD_set_ne true dX];exact hl):p:=h
theorem acx{p:Prop}(h:p:=by have:=SI.o;rwa [sP (by omega)]at this):p:=h
theorem acY{p:Prop}(h:p:=by rw[<-qS hj (by rw[GE.o];simpa using CY)];exact SJ.o):p:=h
theorem VH{p:Prop}(h:p:=by have:=b6.size;simp at this;omega):p:=h
theorem Vx{p:Prop}(h:p:=by have:=(BI).size;simpa using this):p:=h
theorem yB{p:Prop}(h:p:=by simpa using h2):p:=h
theorem acR{p:Prop}(h:p:=by obtain⟨_,_,h,_⟩:=RX.o.at_ (show j<gs.length by omega);exact h):p:=h
theorem adu{p:Prop}(h:p:=by have:=ua ts x.q y.lv y.fo;have:=PQ.o.gl;rw[<-hL];omega):p:=h
theorem Pe{p:Prop}(h:p:=by rw[aO];exact hb):p:=h
theorem Pt{p:Prop}(h:p:=by show w.heap.size<=g7;omega):p:=h
theorem VZ{p:Prop}(h:p:=by rw[bB];exact hc j u hu):p:=h
theorem aaP{p:Prop}(h:p:=by rw[EA.o,if_neg hl,HY.o];congr 1;omega):p:=h
theorem Ew{p:Prop}(h:p:=by simpa using aH):p:=h
theorem Qd{p:Prop}(h:p:=by rw[<-Qr.1];exact TN.len):p:=h
theorem Pc{p:Prop}(h:p:=by have:=xA xs k;omega):p:=h
theorem VY{p:Prop}(h:p:=by simp[nth]<;>omega):p:=h
theorem aaJ{p:Prop}(h:p:=by rw[aO,aO];exact aH):p:=h
theorem yC{p:Prop}(h:p:=by decide+kernel):p:=h
theorem yD{p:Prop}(h:p:=by rw[E.o];rfl):p:=h
theorem VF{p:Prop}(h:p:=by simpa[Region.lexFrom]using hB):p:=h
theorem VD{p:Prop}(h:p:=by rw[<-Nl];exact iH _):p:=h
theorem JG{p:Prop}(h:p:=by rw[h]at hr;cases hr):p:=h
theorem acA{p:Prop}(h:p:=by rw[aP,cell_of_row _ _ _ _ _ _ (heap_alloc_new w _)];rfl):p:=h
theorem VL{p:Prop}(h:p:=by rw[lD];exact KJ _ _):p:=h
theorem Eu{p:Prop}(h:p:=by simpa using h3):p:=h
theorem ac'{p:Prop}(h:p:=by have:=Q4.o.bx.cell 5;rw[WH.o k]at this;exact this):p:=h
theorem afn{p:Prop}(h:p:=by have:=(B2.o).size;simpa using this):p:=h
theorem JI{p:Prop}(h:p:=by have:=HJ.o;omega):p:=h
theorem VR{p:Prop}(h:p:=by have:=px.1;have:=py.1;omega):p:=h
theorem acw{p:Prop}(h:p:=by rw[<-eD];exact aM B2.o _):p:=h
theorem Wa{p:Prop}(h:p:=by rw[aO];exact J4):p:=h
theorem aaT{p:Prop}(h:p:=by rw[h1]at e;exact Option.some.inj e):p:=h
theorem aaC{p:Prop}(h:p:=by rw[<-hW];exact aM BE.o _):p:=h
theorem afp{p:Prop}(h:p:=by simp[sqF]at hu;rcases hu with rfl|rfl|rfl|rfl<;>rfl):p:=h
theorem Qa{p:Prop}(h:p:=by unfold fX;simp only[h0];exact h):p:=h
theorem uB{p:Prop}(h:p:=by simpa using hj):p:=h
theorem Xv{p:Prop}(h:p:=by rw[aP];exact(av _ _).alloc (by simp) _):p:=h
theorem Hj{p:Prop}(h:p:=by first|omega|(simp;omega)):p:=h
theorem Xl{p:Prop}(h:p:=by rw[cd];exact(av _ _).alloc (by simp) _):p:=h
theorem Bo{p:Prop}(h:p:=by have:=HP5.o;omega):p:=h
theorem Xn{p:Prop}(h:p:=by simp[JX]at hu;rcases hu with rfl|rfl|rfl<;>rfl):p:=h
theorem Xy{p:Prop}(h:p:=by rw[LZ ID xB,List.length_take];omega):p:=h
theorem Pn{p:Prop}(h:p:=by rw[hw];exact Bool.false_ne_true):p:=h
theorem Py{p:Prop}(h:p:=by obtain⟨n,rfl⟩:=jj;exact h n hE):p:=h
theorem Xp{p:Prop}(h:p:=by rw[h];exact(av _ _).alloc (by simp) _):p:=h
theorem XH{p:Prop}(h:p:=by rw[ER.o];exact O4.o):p:=h
theorem adq{p:Prop}(h:p:=by rw[ER.o];simp[EP.o]):p:=h
theorem Hg{p:Prop}(h:p:=by simp at hu;subst hu;rfl):p:=h
theorem Hf{p:Prop}(h:p:=by rw[Nl];exact O4.o):p:=h
theorem Ht{p:Prop}(h:p:=by rw[HL.o];exact S4.o):p:=h
theorem uC{p:Prop}(h:p:=by simp[Act.put]):p:=h
theorem Bh{p:Prop}(h:p:=by rw[cd];simp;omega):p:=h
theorem Xq{p:Prop}(h:p:=by rw[<-kL];exact aM (Below.refl _ _) _):p:=h
theorem nU{p:Prop}(h:p:=by simp[h1]):p:=h
theorem Hp{p:Prop}(h:p:=by simp[Region.wanted,hg]):p:=h
theorem rQ{p:Prop}(h:p:=by simp[h.len]):p:=h
theorem Hq{p:Prop}(h:p:=by rw[this.1]at h;cases h):p:=h
theorem Pl{p:Prop}(h:p:=by rw[qY];exact av _ _):p:=h
theorem Xk{p:Prop}(h:p:=by rw[kL];exact av _ _):p:=h
theorem Xu{p:Prop}(h:p:=by first|(intro _;exact hi)|simp):p:=h
theorem Xt{p:Prop}(h:p:=by rw[List.length_take,List.length_drop];omega):p:=h
theorem wU{p:Prop}(h:p:=by simpa using h1):p:=h
theorem Qb{p:Prop}(h:p:=by rw[e1];exact av _ _):p:=h
theorem pO{p:Prop}(h:p:=by simp[h2]):p:=h
theorem Bj{p:Prop}(h:p:=by rw[Z1.o];omega):p:=h
theorem XD{p:Prop}(h:p:=by rw[IntKind.wrap_i64];unfold wrap64;omega):p:=h
theorem Bk{p:Prop}(h:p:=by have:=px.1;omega):p:=h
theorem Bn{p:Prop}(h:p:=by have:=px.2;omega):p:=h
theorem wT{p:Prop}(h:p:=by simpa using h):p:=h
theorem XI{p:Prop}(h:p:=by simp[dZ]at hu;obtain⟨y,_,rfl⟩:=hu;rfl):p:=h
theorem OJ{p:Prop}(h:p:=by rw[qY];exact Bx.new _ _ _):p:=h
theorem Ph{p:Prop}(h:p:=by rw[L' (by omega),ha]):p:=h
theorem XF{p:Prop}(h:p:=by rw[kL];exact Bx.new _ _ _):p:=h
theorem Px{p:Prop}(h:p:=by rw[nV];exact h.at_.len):p:=h
theorem Bl{p:Prop}(h:p:=by have:=h.1;omega):p:=h
theorem Xm{p:Prop}(h:p:=by rw[EO.o];simp):p:=h
theorem Xx{p:Prop}(h:p:=by rw[EL.o];simp):p:=h
theorem Hl{p:Prop}(h:p:=by rw[h.len];exact hj):p:=h
theorem Hr{p:Prop}(h:p:=by have:=EM.o;omega):p:=h
theorem Be{p:Prop}(h:p:=by simpa using hl):p:=h
theorem Hu{p:Prop}(h:p:=by simpa using h4):p:=h
theorem Xo{p:Prop}(h:p:=by rw[<-E.o];exact OM.o):p:=h
theorem Qe{p:Prop}(h:p:=by rw[<-eq,List.length_map]):p:=h
theorem Hk{p:Prop}(h:p:=by have:=h.len;omega):p:=h
theorem O'{p:Prop}(h:p:=by simp[bC];omega):p:=h
theorem wV{p:Prop}(h:p:=by simp[hlen]):p:=h
theorem PJ{p:Prop}(h:p:=by unfold wrap64;omega):p:=h
theorem OY{p:Prop}(h:p:=by rw[pH];exact h):p:=h
theorem Hn{p:Prop}(h:p:=by simp[Addr.add]):p:=h
theorem Pk{p:Prop}(h:p:=by simpa using hp):p:=h
theorem Bm{p:Prop}(h:p:=by injection e):p:=h
theorem wR{p:Prop}(h:p:=by simp[nth]):p:=h
theorem Hm{p:Prop}(h:p:=by congr 1;omega):p:=h
theorem fC{p:Prop}[Decidable p](h:¬p:=by omega):decide p=false:=decide_eq_false h
theorem yy{p:Prop}[Decidable p](h:p:=by omega):decide p=true:=decide_eq_true h
theorem pM{α:Type}[BEq α][LawfulBEq α]{a b:α}(h:¬a=b:=by omega):(a==b)=false:=by simpa using h
theorem cr{a:Nat}:a<=a:=Nat.le_refl a
theorem aR(a b:Nat)(h:a<b:=by omega):(a:Int)<(b:Int):=by omega
theorem cF(a b:Nat)(h:¬a<b:=by omega):¬(a:Int)<(b:Int):=by omega
theorem jB(a:Nat):(0:Int)<=(a:Int):=by omega
structure Pr where
 iZ:Int
 bM:Int
 vj:Int
 gF:Int
 join:Int
 word:Int
 fw:Int
 pair:Int
 opens:Bool
theorem Pr.ace{a b:Pr}(h:a.iZ=b.iZ/\a.bM=b.bM/\a.vj=b.vj/\a.gF=b.gF/\a.join=b.join/\a.word=b.word/\a.fw=b.fw/\a.pair=b.pair/\a.opens=b.opens):a=b:=by
 obtain⟨_,_,_,_,_,_,_,_,_⟩:=a;obtain⟨_,_,_,_,_,_,_,_,_⟩:=b;simp at h;simp[h]
instance (a b:Pr):Decidable (a=b):=
 decidable_of_iff (a.iZ=b.iZ/\a.bM=b.bM/\a.vj=b.vj/\a.gF=b.gF/\a.join=b.join/\a.word=b.word/\a.fw=b.fw/\a.pair=b.pair/\a.opens=b.opens)
  ⟨Pr.ace,fun h=>by subst h;simp⟩
def Te:List (Int×Int×Pr):=[(0,8,⟨10,3,8,0,0,0,0,0,false⟩),(9,9,⟨12,3,10,0,0,7,0,0,false⟩),(10,10,⟨11,2,3,0,0,7,0,0,false⟩),(11,11,⟨12,3,1,0,0,7,0,0,false⟩),(12,12,⟨13,3,1,0,0,7,0,0,false⟩),(13,13,⟨11,1,2,0,0,7,0,0,false⟩),(14,27,⟨10,3,8,0,0,0,0,0,false⟩),(28,30,⟨11,3,8,0,0,0,0,0,false⟩),(31,31,⟨12,3,8,0,0,0,0,0,false⟩),(32,32,⟨13,0,4,0,0,7,0,0,false⟩),(33,33,⟨14,0,15,0,0,0,0,0,false⟩),(34,34,⟨14,0,19,0,0,0,0,0,false⟩),(35,35,⟨6,0,0,0,0,0,0,0,false⟩),(36,36,⟨6,0,23,0,0,0,0,0,false⟩),(37,37,⟨6,0,22,0,0,0,0,0,false⟩),(38,38,⟨14,0,0,0,0,0,0,0,false⟩),(39,39,⟨14,0,19,0,0,3,0,0,false⟩),(40,40,⟨14,0,18,0,0,0,41,41,true⟩)]
def UW:List (Int×Int×Pr):=[(41,41,⟨14,0,14,0,0,0,40,40,false⟩),(42,42,⟨14,0,0,0,0,0,0,0,false⟩),(43,43,⟨5,0,23,0,0,0,0,0,false⟩),(44,44,⟨8,0,20,0,0,4,0,0,false⟩),(45,45,⟨5,0,12,0,0,0,0,0,false⟩),(46,46,⟨8,0,20,0,0,4,0,0,false⟩),(47,47,⟨8,0,24,0,0,0,0,0,false⟩),(48,57,⟨4,0,21,0,0,2,0,0,false⟩),(58,58,⟨8,0,20,0,0,3,0,0,false⟩),(59,59,⟨14,0,20,0,0,4,0,0,false⟩),(60,60,⟨14,0,0,0,0,0,62,0,false⟩),(61,61,⟨14,0,0,0,0,0,0,0,false⟩),(62,62,⟨14,0,0,0,0,0,60,0,false⟩),(63,63,⟨14,0,15,0,0,0,0,0,false⟩),(64,64,⟨14,0,0,0,0,0,0,0,false⟩),(65,90,⟨1,0,0,2,0,1,0,0,false⟩),(91,91,⟨14,0,18,0,0,0,93,93,true⟩),(92,92,⟨14,0,23,0,0,0,0,0,false⟩)]
def Vd:List (Int×Int×Pr):=[(93,93,⟨14,0,14,0,0,0,91,91,false⟩),(94,94,⟨14,0,0,0,0,0,0,0,false⟩),(95,95,⟨14,0,0,0,0,5,0,0,false⟩),(96,96,⟨14,0,0,0,0,0,0,0,false⟩),(97,122,⟨1,0,0,2,0,1,0,0,false⟩),(123,123,⟨14,0,18,0,0,0,125,125,true⟩),(124,124,⟨14,0,10,0,0,0,0,0,false⟩),(125,125,⟨14,0,13,0,0,0,123,123,false⟩),(126,126,⟨14,0,0,0,0,0,0,0,false⟩),(127,132,⟨10,3,8,0,0,0,0,0,false⟩),(133,133,⟨11,3,1,0,0,7,0,0,false⟩),(134,159,⟨10,3,8,0,0,0,0,0,false⟩),(160,160,⟨8,0,7,0,0,0,0,0,false⟩),(161,161,⟨14,0,18,0,0,0,0,0,false⟩),(162,165,⟨6,0,23,0,0,0,0,0,false⟩),(166,169,⟨14,0,0,0,0,0,0,0,false⟩),(170,170,⟨1,0,0,2,0,1,0,0,false⟩),(171,171,⟨14,0,19,0,0,0,187,0,false⟩)]
def Vf:List (Int×Int×Pr):=[(172,172,⟨14,0,0,0,0,0,0,0,false⟩),(173,173,⟨10,3,10,0,5,6,0,0,false⟩),(174,175,⟨14,0,0,0,0,0,0,0,false⟩),(176,177,⟨6,0,22,0,0,0,0,0,false⟩),(178,179,⟨4,0,0,0,0,0,0,0,false⟩),(180,180,⟨14,0,11,0,0,0,0,0,false⟩),(181,181,⟨1,0,0,0,0,1,0,0,false⟩),(182,182,⟨14,0,0,0,0,0,0,0,false⟩),(183,183,⟨14,0,0,0,0,3,0,0,false⟩),(184,184,⟨14,0,0,0,0,0,0,0,false⟩),(185,185,⟨4,0,0,0,0,0,0,0,false⟩),(186,186,⟨1,0,0,2,0,1,0,0,false⟩),(187,187,⟨14,0,19,0,0,0,171,0,false⟩),(188,190,⟨14,0,0,0,0,0,0,0,false⟩),(191,191,⟨14,0,18,0,0,0,0,0,false⟩),(192,214,⟨1,0,0,2,0,1,0,0,false⟩),(215,215,⟨14,0,0,0,0,0,0,0,false⟩),(216,246,⟨1,0,0,2,0,1,0,0,false⟩)]
def Tz:List (Int×Int×Pr):=[(247,247,⟨14,0,0,0,0,0,0,0,false⟩),(248,591,⟨1,0,0,2,0,1,0,0,false⟩),(768,879,⟨9,4,8,1,5,6,0,0,false⟩),(880,883,⟨1,0,0,3,0,1,0,0,false⟩),(884,885,⟨14,0,0,0,0,0,0,0,false⟩),(886,893,⟨1,0,0,3,0,1,0,0,false⟩),(894,894,⟨14,0,20,0,0,4,0,0,false⟩),(895,1023,⟨1,0,0,3,0,1,0,0,false⟩),(1024,1154,⟨1,0,0,4,0,1,0,0,false⟩),(1155,1161,⟨9,4,8,1,5,6,0,0,false⟩),(1162,1327,⟨1,0,0,4,0,1,0,0,false⟩),(1425,1469,⟨9,4,8,1,5,6,0,0,false⟩),(1470,1470,⟨2,0,10,5,0,0,0,0,false⟩),(1471,1471,⟨9,4,8,1,5,6,0,0,false⟩),(1472,1472,⟨2,0,0,5,0,0,0,0,false⟩),(1473,1474,⟨9,4,8,1,5,6,0,0,false⟩),(1475,1475,⟨2,0,0,5,0,0,0,0,false⟩),(1476,1477,⟨9,4,8,1,5,6,0,0,false⟩)]
def Ur:List (Int×Int×Pr):=[(1478,1478,⟨2,0,15,5,0,0,0,0,false⟩),(1479,1479,⟨9,4,8,1,5,6,0,0,false⟩),(1488,1514,⟨2,0,28,5,0,1,0,0,false⟩),(1520,1522,⟨2,0,28,5,0,1,0,0,false⟩),(1523,1524,⟨2,0,0,5,0,3,0,0,false⟩),(1536,1541,⟨7,7,21,0,0,0,0,0,false⟩),(1544,1544,⟨3,0,0,6,0,0,0,0,false⟩),(1548,1548,⟨8,0,20,0,0,4,0,0,false⟩),(1552,1562,⟨9,4,8,1,5,6,0,0,false⟩),(1563,1563,⟨3,0,15,0,0,0,0,0,false⟩),(1564,1564,⟨3,3,8,0,5,6,0,0,false⟩),(1567,1567,⟨3,0,15,0,0,0,0,0,false⟩),(1568,1568,⟨3,0,0,6,1,1,0,0,false⟩),(1569,1569,⟨3,0,0,6,0,1,0,0,false⟩),(1570,1573,⟨3,0,0,6,2,1,0,0,false⟩),(1574,1574,⟨3,0,0,6,1,1,0,0,false⟩),(1575,1575,⟨3,0,0,6,2,1,0,0,false⟩),(1576,1576,⟨3,0,0,6,1,1,0,0,false⟩)]
def Ts:List (Int×Int×Pr):=[(1577,1577,⟨3,0,0,6,2,1,0,0,false⟩),(1578,1582,⟨3,0,0,6,1,1,0,0,false⟩),(1583,1586,⟨3,0,0,6,2,1,0,0,false⟩),(1587,1599,⟨3,0,0,6,1,1,0,0,false⟩),(1600,1600,⟨3,0,0,0,4,1,0,0,false⟩),(1601,1607,⟨3,0,0,6,1,1,0,0,false⟩),(1608,1608,⟨3,0,0,6,2,1,0,0,false⟩),(1609,1610,⟨3,0,0,6,1,1,0,0,false⟩),(1611,1631,⟨9,4,8,1,5,6,0,0,false⟩),(1632,1641,⟨7,0,21,6,0,2,0,0,false⟩),(1642,1642,⟨6,0,22,6,0,0,0,0,false⟩),(1643,1644,⟨7,0,21,6,0,4,0,0,false⟩),(1645,1645,⟨3,0,0,6,0,0,0,0,false⟩),(1646,1647,⟨3,0,0,6,1,1,0,0,false⟩),(1648,1648,⟨9,4,8,1,5,6,0,0,false⟩),(1649,1651,⟨3,0,0,6,2,1,0,0,false⟩),(1652,1652,⟨3,0,0,6,0,1,0,0,false⟩),(1653,1655,⟨3,0,0,6,2,1,0,0,false⟩)]
def Tt:List (Int×Int×Pr):=[(1656,1671,⟨3,0,0,6,1,1,0,0,false⟩),(1672,1689,⟨3,0,0,6,2,1,0,0,false⟩),(1690,1727,⟨3,0,0,6,1,1,0,0,false⟩),(1728,1728,⟨3,0,0,6,2,1,0,0,false⟩),(1729,1730,⟨3,0,0,6,1,1,0,0,false⟩),(1731,1739,⟨3,0,0,6,2,1,0,0,false⟩),(1740,1740,⟨3,0,0,6,1,1,0,0,false⟩),(1741,1741,⟨3,0,0,6,2,1,0,0,false⟩),(1742,1742,⟨3,0,0,6,1,1,0,0,false⟩),(1743,1743,⟨3,0,0,6,2,1,0,0,false⟩),(1744,1745,⟨3,0,0,6,1,1,0,0,false⟩),(1746,1747,⟨3,0,0,6,2,1,0,0,false⟩),(1748,1748,⟨3,0,15,6,0,0,0,0,false⟩),(1749,1749,⟨3,0,0,6,2,1,0,0,false⟩),(1750,1756,⟨9,4,8,1,5,6,0,0,false⟩),(1757,1757,⟨7,7,21,0,0,0,0,0,false⟩),(1759,1764,⟨9,4,8,1,5,6,0,0,false⟩),(1776,1785,⟨4,0,21,6,0,2,0,0,false⟩)]
def Ru:List (Int×Int×Pr):=[(2304,2306,⟨9,4,8,11,5,6,0,0,false⟩),(2307,2307,⟨1,8,8,11,0,6,0,0,false⟩),(2308,2361,⟨1,0,0,11,0,1,0,0,false⟩),(2362,2362,⟨9,4,8,11,5,6,0,0,false⟩),(2364,2364,⟨9,4,8,11,5,6,0,0,false⟩),(2366,2368,⟨1,8,8,11,0,6,0,0,false⟩),(2369,2376,⟨9,4,8,11,5,6,0,0,false⟩),(2377,2380,⟨1,8,8,11,0,6,0,0,false⟩),(2381,2381,⟨9,4,8,11,5,6,0,0,false⟩),(2406,2415,⟨1,0,21,11,0,2,0,0,false⟩),(3585,3632,⟨1,0,0,10,0,1,0,0,false⟩),(3633,3633,⟨9,4,8,10,5,6,0,0,false⟩),(3634,3634,⟨1,0,0,10,0,1,0,0,false⟩),(3635,3635,⟨1,8,8,10,0,6,0,0,false⟩),(3636,3642,⟨9,4,8,10,5,6,0,0,false⟩),(3648,3654,⟨1,0,0,10,0,1,0,0,false⟩),(3655,3662,⟨9,4,8,10,5,6,0,0,false⟩),(3664,3673,⟨1,0,21,10,0,2,0,0,false⟩)]
def T8:List (Int×Int×Pr):=[(4352,4447,⟨1,9,30,9,0,1,0,0,false⟩),(4448,4519,⟨1,10,31,9,0,1,0,0,false⟩),(4520,4607,⟨1,11,32,9,0,1,0,0,false⟩),(8192,8198,⟨13,0,10,0,0,7,0,0,false⟩),(8199,8199,⟨13,0,7,0,0,7,0,0,false⟩),(8200,8202,⟨13,0,10,0,0,7,0,0,false⟩),(8203,8203,⟨10,3,5,0,0,0,0,0,false⟩),(8204,8204,⟨10,4,8,1,0,6,0,0,false⟩),(8205,8205,⟨10,5,9,1,4,6,0,0,false⟩),(8206,8206,⟨1,3,8,0,5,6,0,0,false⟩),(8207,8207,⟨2,3,8,0,5,6,0,0,false⟩),(8208,8208,⟨14,0,10,0,0,0,0,0,false⟩),(8209,8209,⟨14,0,7,0,0,0,0,0,false⟩),(8210,8212,⟨14,0,10,0,0,0,0,0,false⟩),(8216,8217,⟨14,0,19,0,0,3,0,0,false⟩),(8220,8221,⟨14,0,19,0,0,0,0,0,false⟩),(8228,8230,⟨14,0,16,0,0,0,0,0,false⟩),(8232,8232,⟨13,3,1,0,0,7,0,0,false⟩)]
def Gk:List (Int×Int×Pr):=[(8233,8233,⟨11,3,1,0,0,7,0,0,false⟩),(8234,8234,⟨15,3,8,0,5,6,0,0,false⟩),(8235,8235,⟨17,3,8,0,5,6,0,0,false⟩),(8236,8236,⟨19,3,8,0,5,6,0,0,false⟩),(8237,8237,⟨16,3,8,0,5,6,0,0,false⟩),(8238,8238,⟨18,3,8,0,5,6,0,0,false⟩),(8239,8239,⟨8,0,7,0,0,5,0,0,false⟩),(8240,8241,⟨6,0,22,0,0,0,0,0,false⟩),(8249,8249,⟨14,0,19,0,0,0,8250,0,false⟩),(8250,8250,⟨14,0,19,0,0,0,8249,0,false⟩),(8255,8256,⟨14,0,0,0,0,5,0,0,false⟩),(8260,8260,⟨8,0,20,0,0,4,0,0,false⟩),(8261,8261,⟨14,0,18,0,0,0,8262,8262,true⟩),(8262,8262,⟨14,0,13,0,0,0,8261,8261,false⟩),(8288,8288,⟨10,3,6,0,5,6,0,0,false⟩),(8294,8294,⟨20,3,8,0,0,6,0,0,false⟩),(8295,8295,⟨21,3,8,0,0,6,0,0,false⟩),(8296,8296,⟨22,3,8,0,0,6,0,0,false⟩)]
def GX:List (Int×Int×Pr):=[(8297,8297,⟨23,3,8,0,0,6,0,0,false⟩),(8352,8383,⟨6,0,23,0,0,0,0,0,false⟩),(8400,8432,⟨9,4,8,1,5,6,0,0,false⟩),(8592,8711,⟨14,0,0,0,0,0,0,0,false⟩),(8712,8712,⟨14,0,0,0,0,0,8715,0,false⟩),(8713,8714,⟨14,0,0,0,0,0,0,0,false⟩),(8715,8715,⟨14,0,0,0,0,0,8712,0,false⟩),(8716,8721,⟨14,0,0,0,0,0,0,0,false⟩),(8722,8723,⟨5,0,23,0,0,0,0,0,false⟩),(8724,8803,⟨14,0,0,0,0,0,0,0,false⟩),(8804,8804,⟨14,0,0,0,0,0,8805,0,false⟩),(8805,8805,⟨14,0,0,0,0,0,8804,0,false⟩),(8806,8959,⟨14,0,0,0,0,0,0,0,false⟩),(9001,9001,⟨14,0,18,0,0,0,9002,9002,true⟩),(9002,9002,⟨14,0,13,0,0,0,9001,9001,false⟩),(9728,10175,⟨14,14,25,0,0,0,0,0,false⟩),(12288,12288,⟨13,0,10,0,0,7,0,0,false⟩),(12289,12290,⟨14,0,13,0,0,0,0,0,false⟩)]
def GR:List (Int×Int×Pr):=[(12293,12293,⟨1,0,17,7,0,0,0,0,false⟩),(12296,12296,⟨14,0,18,0,0,0,12297,12297,true⟩),(12297,12297,⟨14,0,13,0,0,0,12296,12296,false⟩),(12298,12298,⟨14,0,18,0,0,0,12299,12299,true⟩),(12299,12299,⟨14,0,13,0,0,0,12298,12298,false⟩),(12300,12300,⟨14,0,18,0,0,0,12301,12301,true⟩),(12301,12301,⟨14,0,13,0,0,0,12300,12300,false⟩),(12302,12302,⟨14,0,18,0,0,0,12303,12303,true⟩),(12303,12303,⟨14,0,13,0,0,0,12302,12302,false⟩),(12304,12304,⟨14,0,18,0,0,0,12305,12305,true⟩),(12305,12305,⟨14,0,13,0,0,0,12304,12304,false⟩),(12353,12438,⟨1,0,25,8,0,0,0,0,false⟩),(12441,12442,⟨9,4,8,1,5,6,0,0,false⟩),(12445,12446,⟨1,0,17,8,0,0,0,0,false⟩),(12449,12538,⟨1,0,25,8,0,1,0,0,false⟩),(12539,12539,⟨14,0,17,0,0,0,0,0,false⟩),(12540,12542,⟨1,0,17,8,0,1,0,0,false⟩),(13312,19903,⟨1,0,25,7,0,0,0,0,false⟩)]
def FR:List (Int×Int×Pr):=[(19968,40959,⟨1,0,25,7,0,0,0,0,false⟩),(44032,55203,⟨1,13,34,9,0,1,0,0,false⟩),(63744,64255,⟨1,0,25,7,0,0,0,0,false⟩),(64285,64285,⟨2,0,28,5,0,1,0,0,false⟩),(64286,64286,⟨9,4,8,1,5,6,0,0,false⟩),(64287,64335,⟨2,0,28,5,0,1,0,0,false⟩),(65024,65039,⟨9,4,8,1,5,6,0,0,false⟩),(65056,65071,⟨9,4,8,1,5,6,0,0,false⟩),(65279,65279,⟨10,3,6,0,5,6,0,0,false⟩),(65281,65281,⟨14,0,15,0,0,0,0,0,false⟩),(65288,65288,⟨14,0,18,0,0,0,65289,65289,true⟩),(65289,65289,⟨14,0,13,0,0,0,65288,65288,false⟩),(65292,65292,⟨8,0,13,0,0,4,0,0,false⟩),(65296,65305,⟨4,0,25,0,0,2,0,0,false⟩),(65532,65533,⟨14,0,0,0,0,0,0,0,false⟩),(127462,127487,⟨1,6,29,0,0,0,0,0,false⟩),(127744,127994,⟨14,14,25,0,0,0,0,0,false⟩),(127995,127999,⟨14,4,27,0,0,6,0,0,false⟩)]
def F':List (Int×Int×Pr):=[(128000,128101,⟨14,14,25,0,0,0,0,0,false⟩),(128102,128105,⟨14,14,26,0,0,0,0,0,false⟩),(128106,128591,⟨14,14,25,0,0,0,0,0,false⟩),(128640,128767,⟨14,14,25,0,0,0,0,0,false⟩),(129280,129535,⟨14,14,25,0,0,0,0,0,false⟩),(131072,196605,⟨1,0,25,7,0,0,0,0,false⟩),(917536,917631,⟨10,4,8,0,5,6,0,0,false⟩),(917760,917999,⟨9,4,8,1,5,6,0,0,false⟩)]
def gQ:List (Int×Int×Pr):=Te++UW++Vd++Vf++Tz++Ur++Ts++Tt++Ru++T8++Gk++GX++GR++FR++F'
def Pr.rest:Pr:=⟨1,0,0,0,0,0,0,0,false⟩
def look:List (Int×Int×Pr)->Int->Option Pr
 |[],_=>none
 |(lo,hi,p)::l,r=>if lo<=r/\r<=hi then some p else look l r
theorem iT:∀(l m:List (Int×Int×Pr)) (r:Int),look (l++m) r=(look l r).or (look m r)
 |[],m,r=>by simp[look]
 |(lo,hi,p)::l,m,r=>by
  simp only[List.cons_append,look];split
  ·rfl
  ·exact iT l m r
def aZ(r:Int):Pr:=
 match look gQ r with
 |some p=>if 44032<=r/\r<=55203/\(r-44032)%28=0 then{p with bM:=12,vj:=33}else p
 |none=>Pr.rest
theorem eX{α:Sort _}(a:α):∃x,x=a:=⟨a,rfl⟩
theorem eY {α:Sort _} (a:α):∃x,a=x:=⟨a,rfl⟩
def Qx:Int×Int×Pr:=(0,0,Pr.rest)
def sa(i:Nat):Int×Int×Pr:=gQ.getD i Qx
def Jr(i:Nat):Int:=(sa i).2.1
def aat:List Int:=[42,96,180,1023,1563,1644,1749,3654,8232,8383,12298,64335,917999]
def kQ(i:Nat):Int:=aat.getD i 0
def jm:List (Int×Int×Pr)->Bool
 |(a,b,_)::(c,d,q)::l=>decide (a<=b/\b<c)&&jm ((c,d,q)::l)
 |[(a,b,_)]=>decide (a<=b)
 |[]=>true
theorem um:jm gQ=true:=yC
theorem lE:gQ.length=260:=yC
theorem yl:∀k,k<13->kQ k=Jr (20*k+19):=yC
theorem qX{x:Int×Int×Pr}{l:List (Int×Int×Pr)}(h:jm (x::l)=true):jm l=true/\x.1<=x.2.1/\∀y∈l,x.2.1<y.1/\x.2.1<y.2.1:=by
 obtain⟨a,b,p⟩:=x
 induction l generalizing a b p with
 |nil=>simp[jm]at h;simp[jm,h]
 |cons y l ih=>
  obtain⟨c,d,q⟩:=y;simp only[jm,Bool.and_eq_true,decide_eq_true_eq]at h;obtain⟨j,f⟩:=h;obtain⟨k,g,i⟩:=ih c d q f;refine⟨f,j.1,fun y e=> ?_⟩;rcases List.mem_cons.1 e with rfl|e
  ·simp only at g⊢;omega
  ·have:=i y e;simp only at g this⊢;omega
theorem lO:∀(l:List (Int×Int×Pr)) (r:Int),(∀y∈l,r<y.1)->look l r=none
 |[],_,_=>rfl
 |(a,b,p)::l,r,h=>by
  have c:=h (a,b,p) (List.mem_cons_self ..);simp only at c;simp only[look];rw[if_neg aq];exact lO l r fun y d=>h y (List.mem_cons_of_mem _ d)
theorem Gh:∀(l:List (Int×Int×Pr)) (r:Int) (n:Nat),jm l=true->(c:n<l.length)->(∀i,i<n->(l.getD i Qx).2.1<r)->r<=(l.getD n Qx).2.1->
 look l r=if(l.getD n Qx).1<=r then some (l.getD n Qx).2.2 else none
 |[],_,_,_,c,_,_=>absurd c aD
 |(a,b,p)::l,r,n,hr,c,h1,h2=>by
  obtain⟨f,m,g⟩:=qX hr;cases n with
  |zero=>
   simp only[List.getD_cons_zero]at h2⊢;simp only[look];by_cases d:a<=r
   ·rw[if_pos ⟨d,h2⟩,if_pos d]
   ·rw[if_neg (fun h=>d h.1),if_neg d]
    exact lO l r fun y e=>by have:=(g y e).1;simp only at this;omega
  |succ n=>
   have j:=h1 0 aq;simp only[List.getD_cons_zero]at j;simp only[look];rw[if_neg aq];simp only[List.getD_cons_succ]at h2⊢;exact Gh l r n f (by simpa using c) (fun i k=>by have:=h1 (i+1) (by omega);simpa using this) h2
theorem vm:∀(l:List (Int×Int×Pr)) (r:Int),(∀i,i<l.length->(l.getD i Qx).2.1<r)->look l r=none
 |[],_,_=>rfl
 |(a,b,p)::l,r,h=>by
  have d:=h 0 aD;simp only[List.getD_cons_zero]at d;simp only[look];rw[if_neg aq];exact vm l r fun i c=>by have:=h (i+1) (by simpa using c);simpa using this
theorem rr:∀(l:List (Int×Int×Pr)) (i j:Nat),jm l=true->i<j->j<l.length->(l.getD i Qx).2.1<(l.getD j Qx).2.1
 |[],_,_,_,_,hj=>absurd hj aD
 |x::l,i,j,hr,JS,hj=>by
  obtain⟨c,f,d⟩:=qX hr;obtain⟨j,rfl⟩:∃b,j=b+1:=⟨j-1,aq⟩;cases i with
  |zero=>
   simp only[List.getD_cons_zero,List.getD_cons_succ];have a:j<l.length:=uB;have e:l.getD j Qx∈l:=by
    rw[List.getD_eq_getElem?_getD,List.getElem?_eq_getElem a];simp
   exact(d _ e).2
  |succ i=>
   simp only[List.getD_cons_succ];exact rr l i j c aq uB
theorem aal{i j:Nat}(h:i<j)(a:j<260):Jr i<Jr j:=rr gQ i j um h (by rw[lE];exact a)
theorem xt{i j:Nat}(h:i<=j)(b:j<260):Jr i<=Jr j:=by
 rcases Nat.lt_or_ge i j with a|a
 ·exact Int.le_of_lt (aal a b)
 ·rw[show i=j by omega];exact Int.le_refl _
theorem Ct{r:Int}{n:Nat}(c:n<260)(a:n=0∨Jr (n-1)<r)(b:r<=Jr n):
 look gQ r=if(sa n).1<=r then some (sa n).2.2 else none:=by
 refine Gh gQ r n um (by rw[lE];exact c) (fun i d=> ?_) b;rcases a with a|a
 ·omega
 ·exact Int.lt_of_le_of_lt (xt (i:=i) (j:=n-1) aq aq) a
theorem AB{r:Int}(h:kQ 12<r):look gQ r=none:=by
 refine vm gQ r fun i a=> ?_;rw[lE]at a;have b:kQ 12=Jr 259:=yl 12 aq;exact Int.lt_of_le_of_lt (xt (i:=i) (j:=259) aq aq) (by rw[<-b];exact h)
end Go.Proofs.YtpidckelbgbbkaaGreatDoor
