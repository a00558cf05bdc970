/- Part of LineFills. -/
import Derived.Test.YtijcgdkpconjcaaGreatDoorAk
namespace Go.Proofs.YtijcgdkpconjcaaGreatDoor
open Go.ChangeShapes Go.WideShapes Go.ChangeAt Go.RowKit Go.Proofs.Tryz
open Go renaming World->EE,Calls->GK
open Bool renaming true->OX,false->OZ
open Go.Value renaming bool->PF
open Go.Value renaming int->ae
open Go.IntKind renaming i64->aj
set_option linter.all false
set_option maxRecDepth 100000
set_option maxHeartbeats 16000000
variable{G:Prop}
def Z7{w:EE}{B:Nat}{s:Sb}(h:nH w B s):s.jn*24<=140737488351232/\s.nn*16<=140737488351232/\s.bn*24<=140737488351232/\s.an*24<=140737488351232/\s.mn*32<=140737488351232/\s.hn*32<=140737488351232/\s.cn<=9223372036854775807/\s.tn<=9223372036854775807/\s.ln<=9223372036854775807/\s.vn<=9223372036854775807/\s.pn<=9223372036854775807/\s.un<=9223372036854775807:=
 ⟨h.rJ.rb,h.rN.rb,h.rB.rb,h.rA.rb,h.rM.rb,h.rH.rb,h.rC.bd,h.rT.bd,h.rL.bd,h.rV.bd,h.rP.bd,h.rU.bd⟩
def afe(s:G:=by
 obtain⟨r1,r2,r3,r4,r5,r6,h1,h2,h3,h8,h9,qj⟩:=Z7 h;clear h;have⟨W1,aP,B1,X1⟩:=box1 w s.row 184;have⟨d0,d1,d2,d3,d4,d5,d6,d7,d8,d9,d10,d11⟩:=X1.o.nv;go_enter func286,ntmps286;go_upto_region 5 with fail;rw[<-aP];clear aP;go_cut[94](λv wx=>(∃b:Bool,v=PF b)/\W1=wx)
 ·
  by_cases p:0<s.ln
  .go_wp2
   go_meet;exact⟨⟨_,rfl⟩,rfl⟩
  .have pln:decide (0<s.ln)=OZ:=by simpa using p
   clear p;by_cases p:0<s.jn+s.nn
   .have pjn:(0:Int)<(s.jn:Int)+(s.nn:Int):=by omega
    go_wp2;go_meet;exact⟨⟨_,rfl⟩,rfl⟩
   .have pjn:decide ((0:Int)<(s.jn:Int)+(s.nn:Int))=OZ:=ji
    clear p;go_wp2;go_meet;exact⟨⟨_,rfl⟩,rfl⟩
 obtain⟨⟨Fv,rfl⟩,rfl⟩:=hcut;cases Fv;rotate_left
 .go_wp2
  go_ret;exact⟨_,rfl,B1.o⟩
 go_upto_region 7 with fail;go_cut[130](λv wx=>(∃b:Bool,v=PF b)/\W1=wx)
 ·
  by_cases p:0<s.bn+s.an
  .have pbn:(0:Int)<(s.bn:Int)+(s.an:Int):=by omega
   go_wp2;go_meet;exact⟨⟨_,rfl⟩,rfl⟩
  .have pbn:decide ((0:Int)<(s.bn:Int)+(s.an:Int))=OZ:=ji
   clear p;by_cases p:0<s.vn
   .go_wp2
    go_meet;exact⟨⟨_,rfl⟩,rfl⟩
   .have pvn:decide (0<s.vn)=OZ:=by simpa using p
    clear p;by_cases p:0<s.pn
    .go_wp2
     go_meet;exact⟨⟨_,rfl⟩,rfl⟩
    .have ppn:decide (0<s.pn)=OZ:=by simpa using p
     clear p;go_wp2;go_meet;exact⟨⟨_,rfl⟩,rfl⟩
 obtain⟨⟨oL,rfl⟩,rfl⟩:=hcut;cases oL;rotate_left
 .go_wp2
  go_ret;exact⟨_,rfl,B1.o⟩
 by_cases q:s.un=0
 .have q1:((s.un:Int)==0)=OX:=by simp[q]
  clear q;go_wp2;go_ret;exact⟨_,rfl,B1.o⟩
 .have q1:((s.un:Int)==0)=OZ:=pW
  clear q;go_wp2;go_ret;exact⟨_,rfl,B1.o⟩):G:=s
def Ri(s:Sb)(w:EE)(h:nH w w.heap.size s):GK prog 286 #[ae aj 1,s.v] w (PB w):=by
 exact afe
def Qs(s:Sb)(w:EE)(h:nH w w.heap.size s):GK prog 286 #[ae aj 2,s.v] w (PB w):=by
 exact afe
def rj(s:G:=by
 go_wp2
 go_meet;exact⟨⟨_,rfl⟩,rfl⟩):G:=s
def afw(s:G:=by
 by_cases p:0<s.bn+s.an
 .have pbn:(0:Int)<(s.bn:Int)+(s.an:Int):=by omega
  go_wp2;go_meet;exact⟨⟨_,rfl⟩,rfl⟩
 .have pbn:decide ((0:Int)<(s.bn:Int)+(s.an:Int))=OZ:=ji
  clear p;by_cases p:0<s.vn
  .exact rj
  .have pvn:decide (0<s.vn)=OZ:=by simpa using p
   clear p;by_cases p:0<s.pn
   .exact rj
   .have ppn:decide (0<s.pn)=OZ:=by simpa using p
    clear p;go_wp2;go_meet;exact⟨⟨_,rfl⟩,rfl⟩):G:=s
def vP(s:G:=by
 go_wp2
 go_ret;exact⟨_,rfl,B1.o⟩):G:=s
def YU(s:G:=by
 have q1:((s.un:Int)==0)=OX:=by simp[q]
 clear q;go_wp2;go_ret;exact⟨_,rfl,B1.o⟩):G:=s
def Zd(s:G:=by
 have q1:((s.un:Int)==0)=OZ:=pW
 clear q;go_wp2;go_ret;exact⟨_,rfl,B1.o⟩):G:=s
def Ra(s:Sb)(w:EE)(h:nH w w.heap.size s):GK prog 286 #[ae aj 3,s.v] w (PB w):=by
 obtain⟨F,C,G,B,M,r,z,J,y,o,n,j⟩:=Z7 h;clear h;have⟨g,a,B1,l⟩:=box1 w s.row 184;have⟨u,L,t,K,D,E,H,I,A,x,k,i⟩:=l.o.nv;go_enter func286,ntmps286;go_upto_region 5 with fail;rw[<-a];clear a;go_cut[94](λv e=>(∃b:Bool,v=PF b)/\g=e)
 ·
  by_cases p:0<s.tn
  .exact rj
  .have m:decide (0<s.tn)=OZ:=by simpa using p
   clear p;by_cases p:0<s.jn+s.nn
   .have f:(0:Int)<(s.jn:Int)+(s.nn:Int):=by omega
    go_wp2;go_meet;exact⟨⟨_,rfl⟩,rfl⟩
   .have f:decide ((0:Int)<(s.jn:Int)+(s.nn:Int))=OZ:=ji
    clear p;go_wp2;go_meet;exact⟨⟨_,rfl⟩,rfl⟩
 obtain⟨⟨d,rfl⟩,rfl⟩:=hcut;cases d;rotate_left
 .exact vP
 go_upto_region 7 with fail;go_cut[130](λv e=>(∃b:Bool,v=PF b)/\g=e)
 .exact afw
 obtain⟨⟨c,rfl⟩,rfl⟩:=hcut;cases c;rotate_left
 .exact vP
 by_cases q:s.un=0
 .exact YU
 .exact Zd
def afT(s:G:=by
 obtain⟨r1,r2,r3,r4,r5,r6,h1,h2,h3,h8,h9,qj⟩:=Z7 h;clear h;have⟨W1,aP,B1,X1⟩:=box1 w s.row 184;have⟨d0,d1,d2,d3,d4,d5,d6,d7,d8,d9,d10,d11⟩:=X1.o.nv;go_enter func286,ntmps286;go_upto_region 5 with fail;rw[<-aP];clear aP;go_cut[94](λv wx=>(∃b:Bool,v=PF b)/\W1=wx)
 ·
  by_cases p:0<s.cn
  .go_wp2
   go_meet;exact⟨⟨_,rfl⟩,rfl⟩
  .have pcn:decide (0<s.cn)=OZ:=by simpa using p
   clear p;by_cases p:0<s.tn
   .go_wp2
    go_meet;exact⟨⟨_,rfl⟩,rfl⟩
   .have ptn:decide (0<s.tn)=OZ:=by simpa using p
    clear p;by_cases p:0<s.ln
    .go_wp2
     go_meet;exact⟨⟨_,rfl⟩,rfl⟩
    .have pln:decide (0<s.ln)=OZ:=by simpa using p
     clear p;go_wp2;go_meet;exact⟨⟨_,rfl⟩,rfl⟩
 obtain⟨⟨Fv,rfl⟩,rfl⟩:=hcut;cases Fv;rotate_left
 .go_wp2
  go_ret;exact⟨_,rfl,B1.o⟩
 go_upto_region 7 with fail;go_cut[130](λv wx=>(∃b:Bool,v=PF b)/\W1=wx)
 ·
  by_cases p:0<s.vn
  .go_wp2
   go_meet;exact⟨⟨_,rfl⟩,rfl⟩
  .have pvn:decide (0<s.vn)=OZ:=by simpa using p
   clear p;by_cases p:0<s.pn
   .go_wp2
    go_meet;exact⟨⟨_,rfl⟩,rfl⟩
   .have ppn:decide (0<s.pn)=OZ:=by simpa using p
    clear p;go_wp2;go_meet;exact⟨⟨_,rfl⟩,rfl⟩
 obtain⟨⟨oL,rfl⟩,rfl⟩:=hcut;cases oL;rotate_left
 .go_wp2
  go_ret;exact⟨_,rfl,B1.o⟩
 by_cases q:s.un=0
 .have q1:((s.un:Int)==0)=OX:=by simp[q]
  clear q;go_wp2;go_ret;exact⟨_,rfl,B1.o⟩
 .have q1:((s.un:Int)==0)=OZ:=pW
  clear q;go_wp2;go_ret;exact⟨_,rfl,B1.o⟩):G:=s
def Oj(s:Sb)(w:EE)(h:nH w w.heap.size s):GK prog 286 #[ae aj 4,s.v] w (PB w):=by
 exact afT
def wA(s:G:=by
 have pln:decide (0<s.ln)=OZ:=by simpa using p
 clear p;by_cases p:0<s.jn+s.nn
 .have pjn:(0:Int)<(s.jn:Int)+(s.nn:Int):=by omega
  go_wp2;go_meet;exact⟨⟨_,rfl⟩,rfl⟩
 .have pjn:decide ((0:Int)<(s.jn:Int)+(s.nn:Int))=OZ:=ji
  clear p;go_wp2;go_meet;exact⟨⟨_,rfl⟩,rfl⟩):G:=s
def afU(s:G:=by
 have ppn:decide (0<s.pn)=OZ:=by simpa using p
 clear p;go_wp2;go_meet;exact⟨⟨_,rfl⟩,rfl⟩):G:=s
def Ni(s:Sb)(w:EE)(h:nH w w.heap.size s):GK prog 286 #[ae aj 5,s.v] w (PB w):=by
 obtain⟨E,B,F,A,L,o,y,I,x,n,m,i⟩:=Z7 h;clear h;have⟨f,a,B1,k⟩:=box1 w s.row 184;have⟨t,K,r,J,C,D,G,H,z,u,l,g⟩:=k.o.nv;go_enter func286,ntmps286;go_upto_region 5 with fail;rw[<-a];clear a;go_cut[94](λv e=>(∃b:Bool,v=PF b)/\f=e)
 ·
  by_cases p:0<s.ln
  .exact rj
  .exact wA
 obtain⟨⟨d,rfl⟩,rfl⟩:=hcut;cases d;rotate_left
 .exact vP
 go_upto_region 7 with fail;go_cut[130](λv e=>(∃b:Bool,v=PF b)/\f=e)
 ·
  by_cases p:0<s.vn
  .exact rj
  .have j:decide (0<s.vn)=OZ:=by simpa using p
   clear p;by_cases p:0<s.pn
   .exact rj
   .exact afU
 obtain⟨⟨c,rfl⟩,rfl⟩:=hcut;cases c;rotate_left
 .exact vP
 by_cases q:s.un=0
 .exact YU
 .exact Zd
def afE(s:G:=by
 have pbn:(0:Int)<(s.bn:Int)+(s.an:Int):=by omega
 go_wp2;go_meet;exact⟨⟨_,rfl⟩,rfl⟩):G:=s
def Rh(s:Sb)(w:EE)(h:nH w w.heap.size s):GK prog 286 #[ae aj 6,s.v] w (PB w):=by
 obtain⟨E,B,F,A,L,o,y,I,x,n,m,i⟩:=Z7 h;clear h;have⟨f,a,B1,k⟩:=box1 w s.row 184;have⟨t,K,r,J,C,D,G,H,z,u,j,g⟩:=k.o.nv;go_enter func286,ntmps286;go_upto_region 5 with fail;rw[<-a];clear a;go_cut[94](λv e=>(∃b:Bool,v=PF b)/\f=e)
 ·
  by_cases p:0<s.tn
  .exact rj
  .have l:decide (0<s.tn)=OZ:=by simpa using p
   clear p;by_cases p:0<s.ln
   .exact rj
   .exact wA
 obtain⟨⟨d,rfl⟩,rfl⟩:=hcut;cases d;rotate_left
 .exact vP
 go_upto_region 7 with fail;go_cut[130](λv e=>(∃b:Bool,v=PF b)/\f=e)
 ·
  by_cases p:0<s.bn+s.an
  .exact afE
  .have pbn:decide ((0:Int)<(s.bn:Int)+(s.an:Int))=OZ:=ji
   clear p;by_cases p:0<s.pn
   .exact rj
   .exact afU
 obtain⟨⟨c,rfl⟩,rfl⟩:=hcut;cases c;rotate_left
 .exact vP
 by_cases q:s.un=0
 .exact YU
 .exact Zd
def afG(s:G:=by
 by_cases p:0<s.cn
 .exact rj
 .have pcn:decide (0<s.cn)=OZ:=by simpa using p
  clear p;by_cases p:0<s.tn
  .exact rj
  .have ptn:decide (0<s.tn)=OZ:=by simpa using p
   clear p;by_cases p:0<s.ln
   .exact rj
   .exact wA):G:=s
def QJ(s:Sb)(w:EE)(h:nH w w.heap.size s):GK prog 286 #[ae aj 7,s.v] w (PB w):=by
 obtain⟨E,B,F,A,L,o,y,I,x,n,m,i⟩:=Z7 h;clear h;have⟨f,a,B1,k⟩:=box1 w s.row 184;have⟨t,K,r,J,C,D,G,H,z,u,l,g⟩:=k.o.nv;go_enter func286,ntmps286;go_upto_region 5 with fail;rw[<-a];clear a;go_cut[94](λv e=>(∃b:Bool,v=PF b)/\f=e)
 .exact afG
 obtain⟨⟨d,rfl⟩,rfl⟩:=hcut;cases d;rotate_left
 .exact vP
 go_upto_region 7 with fail;go_cut[130](λv e=>(∃b:Bool,v=PF b)/\f=e)
 ·
  by_cases p:0<s.bn+s.an
  .exact afE
  .have pbn:decide ((0:Int)<(s.bn:Int)+(s.an:Int))=OZ:=ji
   clear p;by_cases p:0<s.vn
   .exact rj
   .have j:decide (0<s.vn)=OZ:=by simpa using p
    clear p;go_wp2;go_meet;exact⟨⟨_,rfl⟩,rfl⟩
 obtain⟨⟨c,rfl⟩,rfl⟩:=hcut;cases c;rotate_left
 .exact vP
 by_cases q:s.un=0
 .exact YU
 .exact Zd
def N6(s:Sb)(w:EE)(h:nH w w.heap.size s):GK prog 286 #[ae aj 8,s.v] w (PB w):=by
 obtain⟨C,z,D,y,J,n,u,G,t,m,l,i⟩:=Z7 h;clear h;have⟨f,a,B1,j⟩:=box1 w s.row 184;have⟨q,I,o,H,A,B,E,F,x,r,k,g⟩:=j.o.nv;go_enter func286,ntmps286;go_upto_region 5 with fail;rw[<-a];clear a;go_cut[94](λv e=>(∃b:Bool,v=PF b)/\f=e)
 .exact afG
 obtain⟨⟨d,rfl⟩,rfl⟩:=hcut;cases d;rotate_left
 .exact vP
 go_upto_region 7 with fail;go_cut[130](λv e=>(∃b:Bool,v=PF b)/\f=e)
 .exact afw
 obtain⟨⟨c,rfl⟩,rfl⟩:=hcut;cases c;rotate_left
 .exact vP
 go_wp2;go_ret;exact⟨_,rfl,B1.o⟩
def Yz(s:G:=by
 obtain⟨r1,r2,r3,r4,r5,r6,h1,h2,h3,h8,h9,qj⟩:=Z7 h;clear h;have⟨W1,aP,B1,X1⟩:=box1 w s.row 184;have⟨d0,d1,d2,d3,d4,d5,d6,d7,d8,d9,d10,d11⟩:=X1.o.nv;go_enter func286,ntmps286;go_upto_region 5 with fail;rw[<-aP];clear aP;go_cut[94](λv wx=>(∃b:Bool,v=PF b)/\W1=wx)
 ·
  by_cases p:0<s.cn
  .go_wp2
   go_meet;exact⟨⟨_,rfl⟩,rfl⟩
  .have pcn:decide (0<s.cn)=OZ:=by simpa using p
   clear p;by_cases p:0<s.tn
   .go_wp2
    go_meet;exact⟨⟨_,rfl⟩,rfl⟩
   .have ptn:decide (0<s.tn)=OZ:=by simpa using p
    clear p;by_cases p:0<s.ln
    .go_wp2
     go_meet;exact⟨⟨_,rfl⟩,rfl⟩
    .have pln:decide (0<s.ln)=OZ:=by simpa using p
     clear p;by_cases p:0<s.jn+s.nn
     .have pjn:(0:Int)<(s.jn:Int)+(s.nn:Int):=by omega
      go_wp2;go_meet;exact⟨⟨_,rfl⟩,rfl⟩
     .have pjn:decide ((0:Int)<(s.jn:Int)+(s.nn:Int))=OZ:=ji
      clear p;go_wp2;go_meet;exact⟨⟨_,rfl⟩,rfl⟩
 obtain⟨⟨Fv,rfl⟩,rfl⟩:=hcut;cases Fv;rotate_left
 .go_wp2
  go_ret;exact⟨_,rfl,B1.o⟩
 go_upto_region 7 with fail;go_cut[130](λv wx=>(∃b:Bool,v=PF b)/\W1=wx)
 ·
  by_cases p:0<s.bn+s.an
  .have pbn:(0:Int)<(s.bn:Int)+(s.an:Int):=by omega
   go_wp2;go_meet;exact⟨⟨_,rfl⟩,rfl⟩
  .have pbn:decide ((0:Int)<(s.bn:Int)+(s.an:Int))=OZ:=ji
   clear p;by_cases p:0<s.vn
   .go_wp2
    go_meet;exact⟨⟨_,rfl⟩,rfl⟩
   .have pvn:decide (0<s.vn)=OZ:=by simpa using p
    clear p;by_cases p:0<s.pn
    .go_wp2
     go_meet;exact⟨⟨_,rfl⟩,rfl⟩
    .have ppn:decide (0<s.pn)=OZ:=by simpa using p
     clear p;go_wp2;go_meet;exact⟨⟨_,rfl⟩,rfl⟩
 obtain⟨⟨oL,rfl⟩,rfl⟩:=hcut;cases oL;rotate_left
 .go_wp2
  go_ret;exact⟨_,rfl,B1.o⟩
 by_cases q:s.un=0
 .have q1:((s.un:Int)==0)=OX:=by simp[q]
  clear q;go_wp2;go_ret;exact⟨_,rfl,B1.o⟩
 .have q1:((s.un:Int)==0)=OZ:=pW
  clear q;go_wp2;go_ret;exact⟨_,rfl,B1.o⟩):G:=s
def N8(s:Sb)(w:EE)(h:nH w w.heap.size s):GK prog 286 #[ae aj 9,s.v] w (PB w):=by
 exact Yz
def Ko(s:Sb)(w:EE)(h:nH w w.heap.size s):GK prog 286 #[ae aj 10,s.v] w (PB w):=by
 exact Yz
def J5(s:Sb)(w:EE)(h:nH w w.heap.size s):GK prog 286 #[ae aj 11,s.v] w (PB w):=by
 exact Yz
def Ln(s:Sb)(w:EE)(h:nH w w.heap.size s):GK prog 286 #[ae aj 12,s.v] w (PB w):=by
 exact afT
def Nx(k:Int)(o:(k==1)=OZ)(l:(k==2)=OZ)(m:(k==3)=OZ)(i:(k==4)=OZ)(g:(k==5)=OZ)(e:(k==6)=OZ)(t:(k==8)=OZ)(n:(k==9)=OZ)(a:(k==10)=OZ)(c:(k==11)=OZ)(d:(k==12)=OZ)(f:(k !=3)=OX)(r:(k !=5)=OX)(u:(k !=6)=OX)(j:(k !=7)=OX)(s:Sb)(w:EE)(h:nH w w.heap.size s):GK prog 286 #[ae aj k,s.v] w (PB w):=by
 exact Yz
def Pn:rR:=by
 intro k s w h;by_cases h1:k=1
 .subst h1;exact Ri s w h
 by_cases h2:k=2
 .subst h2;exact Qs s w h
 by_cases h3:k=3
 .subst h3;exact Ra s w h
 by_cases h4:k=4
 .subst h4;exact Oj s w h
 by_cases e:k=5
 .subst e;exact Ni s w h
 by_cases d:k=6
 .subst d;exact Rh s w h
 by_cases i:k=7
 .subst i;exact QJ s w h
 by_cases g:k=8
 .subst g;exact N6 s w h
 by_cases f:k=9
 .subst f;exact N8 s w h
 by_cases b:k=10
 .subst b;exact Ko s w h
 by_cases c:k=11
 .subst c;exact J5 s w h
 by_cases a:k=12
 .subst a;exact Ln s w h
 exact Nx k Gf vN Gi Jn (by simpa using e) (by simpa using d) (by simpa using g) (by simpa using f) (by simpa using b) (by simpa using c) (by simpa using a) Gi (by simpa using e) (by simpa using d) (by simpa using i) s w h
