/- Part of LineFills. -/
namespace Go.Proofs.YtijcgdkpconjcaaGreatDoor
set_option linter.all false
set_option maxRecDepth 100000
set_option maxHeartbeats 16000000
variable{KR:Prop}
def aq(h:KR:=by omega):KR:=h
def aD(h:KR:=by rfl):KR:=h
def ed(h:KR:=by simp[Value.oneCell']):KR:=h
def YZ(h:KR:=by first|exact Lt.new _ _ _ _ _ (by simp) rfl rfl|exact LT.o.ar BE.o|exact LU.o.ar BE.o|exact LV.o.ar BE.o):KR:=h
def aT(h:KR:=by simp):KR:=h
def br(h:KR:=by simp;omega):KR:=h
def jT(h:KR:=by rw[cg];exact aw _ _):KR:=h
def zo(h:KR:=by rw[Int.add_sub_cancel];exact IntWalk.i64_in _ (by omega)):KR:=h
def lY(h:KR:=by rw[cg];exact Bx.new _ _ _):KR:=h
def uZ(h:KR:=by first|(intro _ h;unfold Mx at h;omega)|simp):KR:=h
def nR(h:KR:=by rw[aP];exact aw _ _):KR:=h
def cF(h:KR:=by decide):KR:=h
def iY(h:KR:=by simp<;>omega):KR:=h
def Cw(h:KR:=by rw[bZ (by omega)];exact List.getElem_mem _):KR:=h
def Da(h:KR:=by have:=BE.o.size;simp<;>omega):KR:=h
def afv(h:KR:=by have:=VE MK.o (by omega) (by omega) qA hb;have h9:=hV.o;rw[h9.1];exact this):KR:=h
def re(h:KR:=by rw[aP];exact Bx.new _ _ _):KR:=h
def YN(h:KR:=by rw[show(q:Int)-1=(q1:Int) by omega,jF _ (by have:=dg.le;omega)]):KR:=h
def BR(h:KR:=by rw[gK (by rw[HN.o];exact aG),<-hQ];exact⟨rfl,by rw[dK,HN.o];exact aG⟩):KR:=h
def fD(h:KR:=by cases h):KR:=h
def ri(h:KR:=by unfold maxLen;omega):KR:=h
def YM(h:KR:=by rw[show(r:Int)+(V1:Int)=(r1:Int) by omega,jF _ (by omega)]):KR:=h
def zk(h:KR:=by rw[aL];exact h2):KR:=h
def Ct(h:KR:=by rw[aL];exact ja):KR:=h
def Md(h:KR:=by simp only[aL];exact key):KR:=h
def YH(h:KR:=by have:=px.1;have:=py.1;have:=px.2;have:=py.2;omega):KR:=h
def r9(h:KR:=by rw[aP,<-Di];exact(Bx.new _ _ _).ar (aw _ _) (by simp)):KR:=h
def YW(h:KR:=by rw[aP];exact(aw w _).alloc (by simp) _):KR:=h
def rk(h:KR:=by simpa using hs):KR:=h
def oW(h:KR:=by rw[aP];simp):KR:=h
def YQ(h:KR:=by unfold Dl;rw[PH.o,nw];exact O8.o):KR:=h
def YY(h:KR:=by rw[List.length_take,List.length_drop];omega):KR:=h
def afN(h:KR:=by first|exact Lt.new _ _ _ _ _ (by simp) rfl rfl|exact LT.o|exact LU.o|exact LV.o):KR:=h
def Cz(h:KR:=by have:=nq.2.size;omega):KR:=h
def Gg(h:KR:=by have:=L3.o.hB;omega):KR:=h
def afs(h:KR:=by show _+(if nth (dS x.q.gs j) 1<_ then nth (dS x.q.gs j) 2 else 0)=_;rw[XW];rfl):KR:=h
def LO(h:KR:=by rw[h];exact aw _ _):KR:=h
def To(h:KR:=by simp only[aL];exact h2):KR:=h
def Yv(h:KR:=by rw[PH.o,List.length_append,ML.o];rfl):KR:=h
def Yy(h:KR:=by exact Lt.new _ _ _ _ _ (by simp) rfl rfl):KR:=h
def afX(h:KR:=by have:=Be DG.o (by omega) (by omega);have h9:=hV.o;rw[h9.1];exact this):KR:=h
def CY(h:KR:=by simpa[this]using hk):KR:=h
def C9(h:KR:=by simp at hd;simp[hd]):KR:=h
def Cy(h:KR:=by have:=F'.o;omega):KR:=h
def Mb(h:KR:=by rw[aL];exact hb):KR:=h
def Tj(h:KR:=by rw[cg];exact Bx.iR _ _ _ hN):KR:=h
def ae7(h:KR:=by rwa [getD_set_ne true (Ne.symm XO),getD_set_ne true (Ne.symm Rp)]at Dw):KR:=h
def YX(h:KR:=by rw[<-Array.toArray_toList (xs:=cs),hl]):KR:=h
def afy(h:KR:=by simp[fv.F]at hu;rcases hu with rfl|rfl|rfl|rfl|rfl|rfl|rfl|rfl|rfl<;>rfl):KR:=h
def YP(h:KR:=by rw[jK (by simpa using hj)];simp):KR:=h
def ae8(h:KR:=by rw[lu];exact(List.take_sublist _ _).trans (List.drop_sublist _ _)):KR:=h
def zn(h:KR:=by have:=BK.o.size;rw[HSN.o]at this;exact this):KR:=h
def vO(h:KR:=by simpa using hj):KR:=h
def vN(h:KR:=by simpa using h2):KR:=h
def afH(h:KR:=by rw[cell_of_row _ _ _ _ _ _ (heap_alloc_new _ _)];simpa[fv.F]using h):KR:=h
def CG(h:KR:=by simpa using aG):KR:=h
def ahB(h:KR:=by rw[cell_of_row _ _ _ _ _ _ (heap_alloc_new _ _)];simpa[sqF]using hu):KR:=h
def YO(h:KR:=by rw[HQ.o];exact Ae (by omega)):KR:=h
def YT(h:KR:=by have:=b6.size;simp at this;omega):KR:=h
def YJ(h:KR:=by have:=(BI).size;simpa using this):KR:=h
def pX(h:KR:=by rw[E.o]):KR:=h
def Tc(h:KR:=by show w.heap.size<=g7;omega):KR:=h
def Yw(h:KR:=by rw[bC];exact hc j u hu):KR:=h
def afC(h:KR:=by have:=hl (j+1);simpa[Nat.add_assoc,Nat.add_comm 1 j]using this):KR:=h
def Za(h:KR:=by rw[lT.o];exact Nat.le_refl _):KR:=h
def CV(h:KR:=by simpa using ph):KR:=h
def ma(h:KR:=by rw[cg];exact BE.o.alloc BE.o.size _):KR:=h
def TG(h:KR:=by rw[<-Uh.1];exact U9.len):KR:=h
def Tr(h:KR:=by have:=yi xs k;omega):KR:=h
def zl(h:KR:=by simpa using h):KR:=h
def AI(h:KR:=by rw[aL,aL];exact aG):KR:=h
def zy(h:KR:=by simp[dt]at hu;obtain⟨y,_,rfl⟩:=hu;rfl):KR:=h
def zm(h:KR:=by decide+kernel):KR:=h
def zp(h:KR:=by rw[E.o];rfl):KR:=h
def afF(h:KR:=by rw[aP,cell_of_row _ _ _ _ _ _ (heap_alloc_new w _)];rfl):KR:=h
def Db(h:KR:=by rw[HC.o];rfl):KR:=h
def Gi(h:KR:=by simpa using h3):KR:=h
def l7(h:KR:=by rw[aP];exact Bx.iR _ _ _ (by simp)):KR:=h
def afo(h:KR:=by injection e1 with e1;injection e1 with e1;injection e1):KR:=h
def ahC(h:KR:=by have:=(B2.o).size;simpa using this):KR:=h
def Lz(h:KR:=by have:=HJ.o;omega):KR:=h
def Zc(h:KR:=by have:=px.1;have:=py.1;omega):KR:=h
def YC(h:KR:=by rw[IntKind.wrap_u64];omega):KR:=h
def oi(h:KR:=by rw[h1]at e;exact Option.some.inj e):KR:=h
def CE(h:KR:=by rw[<-hW];exact aO BE.o _):KR:=h
def ahA(h:KR:=by simp[sqF]at hu;rcases hu with rfl|rfl|rfl|rfl<;>rfl):KR:=h
def k9(h:KR:=by unfold gG;simp only[h0];exact h):KR:=h
def zs(h:KR:=by rw[getD_set_ne true fh];exact hl):KR:=h
def Gh(h:KR:=by simpa using hx):KR:=h
def Gf(h:KR:=by simpa using h1):KR:=h
def mo(h:KR:=by simp[h1]):KR:=h
def aan(h:KR:=by rw[aP];exact(aw _ _).alloc (by simp) _):KR:=h
def aam(h:KR:=by rw[cg];exact(aw _ _).alloc (by simp) _):KR:=h
def CM(h:KR:=by unfold wrap64;omega):KR:=h
def aap(h:KR:=by simp[Mv]at hu;rcases hu with rfl|rfl|rfl<;>rfl):KR:=h
def aai(h:KR:=by rw[Of Lo yV,List.length_take];omega):KR:=h
def Th(h:KR:=by obtain⟨n,rfl⟩:=nM;exact h n hE):KR:=h
def aal(h:KR:=by rw[h];exact(aw _ _).alloc (by simp) _):KR:=h
def afW(h:KR:=by rw[ER.o];simp[EP.o]):KR:=h
def Jl(h:KR:=by rw[mM (by omega),hx]):KR:=h
def Ji(h:KR:=by simp at hu;subst hu;rfl):KR:=h
def vb(h:KR:=by simp[Act.put]):KR:=h
def Cs(h:KR:=by have:=HN.o;omega):KR:=h
def aaq(h:KR:=by have:=congrArg List.length h;simpa using this):KR:=h
def De(h:KR:=by have:=EB.o;omega):KR:=h
def Cv(h:KR:=by rw[cg];simp;omega):KR:=h
def aas(h:KR:=by rw[<-lA];exact aO (Below.refl _ _) _):KR:=h
def sy(h:KR:=by simp[h.len]):KR:=h
def Js(h:KR:=by rw[this.1]at h;cases h):KR:=h
def SY(h:KR:=by simpa[Region.lexFrom]using hB):KR:=h
def aaj(h:KR:=by first|(intro _;exact hi)|simp):KR:=h
def Dd(h:KR:=by subst h1;exact h2):KR:=h
def Jq(h:KR:=by rw[Nat.add_mul];omega):KR:=h
def Jh(h:KR:=by have:=DG.o.le;omega):KR:=h
def Ts(h:KR:=by rw[e1];exact aw _ _):KR:=h
def Tz(h:KR:=by rw[kH];exact Ou _ _):KR:=h
def Cx(h:KR:=by have:=px.1;omega):KR:=h
def Cu(h:KR:=by have:=px.2;omega):KR:=h
def Ta(h:KR:=by rw[List.length_take];omega):KR:=h
def Te(h:KR:=by rw[oH];exact h.at_.len):KR:=h
def Jp(h:KR:=by rw[h]at hr;cases hr):KR:=h
def Dc(h:KR:=by have:=h.1;omega):KR:=h
def aak(h:KR:=by rw[EO.o];simp):KR:=h
def aao(h:KR:=by rw[EL.o];simp):KR:=h
def Jf(h:KR:=by rw[h.len];exact hj):KR:=h
def Jr(h:KR:=by have:=SL.o;omega):KR:=h
def Jo(h:KR:=by have:=HT.o;omega):KR:=h
def Jm(h:KR:=by have:=HK.o;omega):KR:=h
def Cr(h:KR:=by simpa using hl):KR:=h
def Cq(h:KR:=by simpa using hk):KR:=h
def Df(h:KR:=by simpa using hi):KR:=h
def Jn(h:KR:=by simpa using h4):KR:=h
def Tq(h:KR:=by rw[<-eq,List.length_map]):KR:=h
def Jj(h:KR:=by have:=h.len;omega):KR:=h
def uY(h:KR:=by simp[nth]):KR:=h
def TD(h:KR:=by simp[bH];omega):KR:=h
def xG(h:KR:=by simp[hlen]):KR:=h
def Jg(h:KR:=by simp[nth];omega):KR:=h
def Tb(h:KR:=by simp[Region.wanted]):KR:=h
def Tu(h:KR:=by rw[tj];exact h):KR:=h
def Ju(h:KR:=by simp[Addr.add]):KR:=h
def Tt(h:KR:=by simpa using hp):KR:=h
def Jk(h:KR:=by clear wk;omega):KR:=h
def CJ(h:KR:=by injection e):KR:=h
def Jt(h:KR:=by congr 1;omega):KR:=h
def ji{p:Prop}[Decidable p](h:¬p:=by omega):decide p=false:=decide_eq_false h
def Je{p:Prop}[Decidable p](h:p:=by omega):decide p=true:=decide_eq_true h
def pW{α:Type}[BEq α][LawfulBEq α]{a b:α}(h:¬a=b:=by omega):(a==b)=false:=by simpa using h
def cr{a:Nat}:a<=a:=Nat.le_refl a
def aU(a b:Nat)(h:a<b:=by omega):(a:Int)<(b:Int):=by omega
def cI(a b:Nat)(h:¬a<b:=by omega):¬(a:Int)<(b:Int):=by omega
def gT(a:Nat):(0:Int)<=(a:Int):=by omega
structure Pr where
 jv:Int
 bT:Int
 xc:Int
 script:Int
 join:Int
 word:Int
 fM:Int
 pair:Int
 opens:Bool
def Pr.aeb{a b:Pr}(h:a.jv=b.jv/\a.bT=b.bT/\a.xc=b.xc/\a.script=b.script/\a.join=b.join/\a.word=b.word/\a.fM=b.fM/\a.pair=b.pair/\a.opens=b.opens):a=b:=by
 obtain⟨_,_,_,_,_,_,_,_,_⟩:=a;obtain⟨_,_,_,_,_,_,_,_,_⟩:=b;simp at h;simp[h]
instance (a b:Pr):Decidable (a=b):=
 decidable_of_iff (a.jv=b.jv/\a.bT=b.bT/\a.xc=b.xc/\a.script=b.script/\a.join=b.join/\a.word=b.word/\a.fM=b.fM/\a.pair=b.pair/\a.opens=b.opens)
  ⟨Pr.aeb,λh=>by subst h;simp⟩
def nI:List Nat->List (Int×Int×Pr)
 |g::d::c::l=>((g:Nat),(g+d:Nat),⟨(c%24:Nat),(c/24%15:Nat),(c/360%35:Nat),(c/12600%12:Nat),(c/151200%6:Nat),(c/907200%8:Nat),if c<7257600 then 0 else(g+c/29030400-20:Nat),if c/7257600%4=0 then 0 else(g+c/29030400-20:Nat),c/7257600%4==2⟩)::nI l
 |_=>[]
def Yd:=nI [0,8,2962,9,0,6354084,10,0,6351539,11,0,6350844,12,0,6350845,13,0,6351155,14,13,2962,28,2,2963,31,0,2964,32,0,6351853,33,0,5414,34,0,6854,35,0,6,36,0,8286,37,0,7926,38,0,14,39,0,2728454,40,0,624160094]
def Us:=nI [41,0,558840254,42,0,14,43,0,8285,44,0,3636008,45,0,4325,46,0,3636008,47,0,8648,48,9,1821964,58,0,2728808,59,0,3636014,60,0,638668814,61,0,14,62,0,522547214,63,0,5414,64,0,14,65,25,932401,91,0,653190494,92,0,8294]
def Xz:=nI [93,0,529809854,94,0,14,95,0,4536014,96,0,14,97,25,932401,123,0,653190494,124,0,3614,125,0,529809494,126,0,14,127,5,2962,133,0,6350843,134,25,2962,160,0,2528,161,0,6494,162,3,8286,166,3,14,170,0,932401,171,0,1045101254]
def WW:=nI [172,0,14,173,0,6202882,174,1,14,176,1,7926,178,1,4,180,0,3974,181,0,907201,182,0,14,183,0,2721614,184,0,14,185,0,4,186,0,932401,187,0,116128454,188,2,14,191,0,6494,192,22,932401,215,0,14,216,30,932401]
def Xo:=nI [247,0,14,248,343,932401,768,111,6214785,880,3,945001,884,1,14,886,7,945001,894,0,3636014,895,128,945001,1024,130,957601,1155,6,6214785,1162,165,957601,1425,44,6214785,1470,0,66602,1471,0,6214785,1472,0,63002,1473,1,6214785,1475,0,63002,1476,1,6214785]
def XD:=nI [1478,0,68402,1479,0,6214785,1488,26,980282,1520,2,980282,1523,1,2784602,1536,5,7735,1544,0,75603,1548,0,3636008,1552,10,6214785,1563,0,5403,1564,0,6202155,1567,0,5403,1568,0,1134003,1569,0,982803,1570,3,1285203,1574,0,1134003,1575,0,1285203,1576,0,1134003]
def Vb:=nI [1577,0,1285203,1578,4,1134003,1583,3,1285203,1587,12,1134003,1600,0,1512003,1601,6,1134003,1608,0,1285203,1609,1,1134003,1611,20,6214785,1632,9,1897567,1642,0,83526,1643,1,3711967,1645,0,75603,1646,1,1134003,1648,0,6214785,1649,2,1285203,1652,0,982803,1653,2,1285203]
def Wz:=nI [1656,15,1134003,1672,17,1285203,1690,37,1134003,1728,0,1285203,1729,1,1134003,1731,8,1285203,1740,0,1134003,1741,0,1285203,1742,0,1134003,1743,0,1285203,1744,1,1134003,1746,1,1285203,1748,0,81003,1749,0,1285203,1750,6,6214785,1757,0,7735,1759,5,6214785,1776,9,1897564]
def Yk:=nI [2304,2,6340785,2307,0,5584873,2308,53,1045801,2362,0,6340785,2364,0,6340785,2366,2,5584873,2369,7,6340785,2377,3,5584873,2381,0,6340785,2406,9,1960561,3585,47,1033201,3633,0,6328185,3634,0,1033201,3635,0,5572273,3636,6,6328185,3648,6,1033201,3655,7,6328185,3664,9,1947961]
def Wi:=nI [4352,95,1031617,4448,71,1032001,4520,87,1032385,8192,6,6354013,8199,0,6352933,8200,2,6354013,8203,0,1882,8204,0,5458786,8205,0,6063970,8206,0,6202153,8207,0,6202154,8208,0,3614,8209,0,2534,8210,2,3614,8216,1,2728454,8220,1,6854,8228,2,5774,8232,0,6350845]
def Hc:=nI [8233,0,6350843,8234,0,6202167,8235,0,6202169,8236,0,6202171,8237,0,6202168,8238,0,6202170,8239,0,4538528,8240,1,7926,8249,0,609645254,8250,0,551584454,8255,1,4536014,8260,0,3636008,8261,0,624160094,8262,0,558839894,8288,0,6201442,8294,0,5446172,8295,0,5446173,8296,0,5446174]
def Hw:=nI [8297,0,5446175,8352,31,8286,8400,32,6214785,8592,119,14,8712,0,667699214,8713,1,14,8715,0,493516814,8716,5,14,8722,1,8285,8724,79,14,8804,0,609638414,8805,0,551577614,8806,153,14,9001,0,624160094,9002,0,558839894,9728,447,9350,12288,0,6354013,12289,1,4694]
def Ih:=nI [12293,0,94321,12296,0,624160094,12297,0,558839894,12298,0,624160094,12299,0,558839894,12300,0,624160094,12301,0,558839894,12302,0,624160094,12303,0,558839894,12304,0,624160094,12305,0,558839894,12353,85,109801,12441,1,6214785,12445,1,106921,12449,89,1017001,12539,0,6134,12540,2,1014121,13312,6591,97201]
def I8:=nI [19968,20991,97201,44032,11171,1033153,63744,511,97201,64285,0,980282,64286,0,6214785,64287,48,980282,65024,15,6214785,65056,15,6214785,65279,0,6201442,65281,0,5414,65288,0,624160094,65289,0,558839894,65292,0,3633488,65296,9,1823404,65532,1,14,127462,25,10585,127744,250,9350,127995,4,5453030]
def ID:=nI [128000,101,9350,128102,3,9710,128106,485,9350,128640,127,9350,129280,255,9350,131072,65533,97201,917536,95,6202186,917760,239,6214785]
def iX:List (Int×Int×Pr):=Yd++Us++Xz++WW++Xo++XD++Vb++Wz++Yk++Wi++Hc++Hw++Ih++I8++ID
def Pr.rest:Pr:=⟨1,0,0,0,0,0,0,0,false⟩
def look:List (Int×Int×Pr)->Int->Option Pr
 |[],_=>none
 |(lo,hi,p)::l,r=>if lo<=r/\r<=hi then some p else look l r
def js:∀(l m:List (Int×Int×Pr)) (r:Int),look (l++m) r=(look l r).or (look m r)
 |[],m,r=>by simp[look]
 |(lo,hi,p)::l,m,r=>by
  simp only[List.cons_append,look];split
  .rfl
  .exact js l m r
def aN(r:Int):Pr:=
 match look iX r with
 |some p=>if 44032<=r/\r<=55203/\(r-44032)%28=0 then{p with bT:=12,xc:=33}else p
 |none=>Pr.rest
def eX{α:Sort _}(a:α):∃x,x=a:=⟨a,rfl⟩
def eY {α:Sort _} (a:α):∃x,a=x:=⟨a,rfl⟩
def Uq:Int×Int×Pr:=(0,0,Pr.rest)
def sL(i:Nat):Int×Int×Pr:=iX.getD i Uq
def KW(i:Nat):Int:=(sL i).2.1
def Et:List Int:=[42,96,180,1023,1563,1644,1749,3654,8232,8383,12298,64335,917999]
def kM(i:Nat):Int:=Et.getD i 0
def jM:List (Int×Int×Pr)->Bool
 |(a,b,_)::(c,d,q)::l=>decide (a<=b/\b<c)&&jM ((c,d,q)::l)
 |[(a,b,_)]=>decide (a<=b)
 |[]=>true
def tP:jM iX=true:=zm
def lH:iX.length=260:=zm
def yj:∀k,k<13->kM k=KW (20*k+19):=zm
def sq{x:Int×Int×Pr}{l:List (Int×Int×Pr)}(h:jM (x::l)=true):jM l=true/\x.1<=x.2.1/\∀y∈l,x.2.1<y.1/\x.2.1<y.2.1:=by
 obtain⟨a,b,p⟩:=x
 induction l generalizing a b p with
 |nil=>simp[jM]at h;simp[jM,h]
 |cons y l ih=>
  obtain⟨c,d,q⟩:=y;simp only[jM,Bool.and_eq_true,decide_eq_true_eq]at h;obtain⟨j,g⟩:=h;obtain⟨k,f,i⟩:=ih c d q g;refine⟨g,j.1,λy e=> ?_⟩;rcases List.mem_cons.1 e with rfl|e
  .simp only at f⊢;omega
  .have:=i y e;simp only at f this⊢;omega
def mh:∀(l:List (Int×Int×Pr)) (r:Int),(∀y∈l,r<y.1)->look l r=none
 |[],_,_=>rfl
 |(a,b,p)::l,r,h=>by
  have c:=h (a,b,p) (List.mem_cons_self ..);simp only at c;simp only[look];rw[if_neg aq];exact mh l r λy d=>h y (List.mem_cons_of_mem _ d)
def Gu:∀(l:List (Int×Int×Pr)) (r:Int) (n:Nat),jM l=true->(d:n<l.length)->(∀i,i<n->(l.getD i Uq).2.1<r)->r<=(l.getD n Uq).2.1->
 look l r=if(l.getD n Uq).1<=r then some (l.getD n Uq).2.2 else none
 |[],_,_,_,d,_,_=>absurd d aT
 |(a,b,p)::l,r,n,hr,d,h1,h2=>by
  obtain⟨e,k,g⟩:=sq hr;cases n with
  |zero=>
   simp only[List.getD_cons_zero]at h2⊢;simp only[look];by_cases c:a<=r
   .rw[if_pos ⟨c,h2⟩,if_pos c]
   .rw[if_neg (λh=>c h.1),if_neg c]
    exact mh l r λy j=>by have:=(g y j).1;simp only at this;omega
  |succ n=>
   have f:=h1 0 aq;simp only[List.getD_cons_zero]at f;simp only[look];rw[if_neg aq];simp only[List.getD_cons_succ]at h2⊢;exact Gu l r n e (by simpa using d) (λi hi=>by have:=h1 (i+1) (by omega);simpa using this) h2
def wu:∀(l:List (Int×Int×Pr)) (r:Int),(∀i,i<l.length->(l.getD i Uq).2.1<r)->look l r=none
 |[],_,_=>rfl
 |(a,b,p)::l,r,h=>by
  have c:=h 0 aT;simp only[List.getD_cons_zero]at c;simp only[look];rw[if_neg aq];exact wu l r λi hi=>by have:=h (i+1) Df;simpa using this
def rI:∀(l:List (Int×Int×Pr)) (i j:Nat),jM l=true->i<j->j<l.length->(l.getD i Uq).2.1<(l.getD j Uq).2.1
 |[],_,_,_,_,hj=>absurd hj aT
 |x::l,i,j,hr,Gm,hj=>by
  obtain⟨c,f,d⟩:=sq hr;obtain⟨j,rfl⟩:∃b,j=b+1:=⟨j-1,aq⟩;cases i with
  |zero=>
   simp only[List.getD_cons_zero,List.getD_cons_succ];have a:j<l.length:=vO;have e:l.getD j Uq∈l:=by
    rw[List.getD_eq_getElem?_getD,List.getElem?_eq_getElem a];simp
   exact(d _ e).2
  |succ i=>
   simp only[List.getD_cons_succ];exact rI l i j c aq vO
def aca{i j:Nat}(h:i<j)(a:j<260):KW i<KW j:=rI iX i j tP h (by rw[lH];exact a)
def xN{i j:Nat}(h:i<=j)(b:j<260):KW i<=KW j:=by
 rcases Nat.lt_or_ge i j with a|a
 .exact Int.le_of_lt (aca a b)
 .rw[show i=j by omega];exact Int.le_refl _
def Ew{r:Int}{n:Nat}(c:n<260)(a:n=0∨KW (n-1)<r)(b:r<=KW n):
 look iX r=if(sL n).1<=r then some (sL n).2.2 else none:=by
 refine Gu iX r n tP (by rw[lH];exact c) (λi hi=> ?_) b;rcases a with a|a
 .omega
 .exact Int.lt_of_le_of_lt (xN (i:=i) (j:=n-1) aq aq) a
def Bw{r:Int}(h:kM 12<r):look iX r=none:=by
 refine wu iX r λi hi=> ?_;rw[lH]at hi;have a:kM 12=KW 259:=yj 12 aq;exact Int.lt_of_le_of_lt (xN (i:=i) (j:=259) aq aq) (by rw[<-a];exact h)
