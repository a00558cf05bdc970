/- Part of LineCovers. -/
import Derived.Test.YtklncadpkniojaaGreatDoorAM
namespace Go.Proofs.YtklncadpkniojaaGreatDoor
open Go.ChangeShapes Go.WideShapes Go.ChangeAt Go.RowKit Go.Proofs.Tryz
open Go renaming World->ahh,Calls->ahk
open Go.Value renaming int->ae
open Go.IntKind renaming i64->aj
set_option linter.all false
set_option maxRecDepth 100000
set_option maxHeartbeats 16000000
variable{G:Prop}
theorem Ye{w:ahh}{B:Nat}{s:Sb}(h:nQ w B s):s.jn*24<=140737488351232/\s.nn*16<=140737488351232/\s.bn*24<=140737488351232/\s.an*24<=140737488351232/\s.mn*32<=140737488351232/\s.hn*32<=140737488351232/\s.cn<=9223372036854775807/\s.tn<=9223372036854775807/\s.ln<=9223372036854775807/\s.vn<=9223372036854775807/\s.pn<=9223372036854775807/\s.un<=9223372036854775807:=
 ⟨h.rJ.rb,h.rN.rb,h.rB.rb,h.rA.rb,h.rM.rb,h.rH.rb,h.rC.bd,h.rT.bd,h.rL.bd,h.rV.bd,h.rP.bd,h.rU.bd⟩
theorem aeM(s:G:=by
 obtain⟨r1,r2,r3,r4,r5,r6,h1,h2,h3,h8,h9,qG⟩:=Ye h;clear h;have⟨W1,aP,B1,X1⟩:=box1 w s.row 170;have⟨d0,d1,d2,d3,d4,d5,d6,d7,d8,d9,d10,d11⟩:=X1.o.ns;go_enter func278,ntmps278;go_upto_region 5 with fail;rw[<-aP];clear aP;go_cut[94](fun v wx=>(∃b:Bool,v=.bool b)/\W1=wx)
 ·
  by_cases p:0<s.ln
  .go_wp2
   go_meet;exact⟨⟨_,rfl⟩,rfl⟩
  .have pln:decide (0<s.ln)=false:=by simpa using p
   clear p;by_cases p:0<s.jn+s.nn
   .have ZL:(0:Int)<(s.jn:Int)+(s.nn:Int):=by omega
    go_wp2;go_meet;exact⟨⟨_,rfl⟩,rfl⟩
   .have ZL:decide ((0:Int)<(s.jn:Int)+(s.nn:Int))=false:=gW
    clear p;go_wp2;go_meet;exact⟨⟨_,rfl⟩,rfl⟩
 obtain⟨⟨Dx,rfl⟩,rfl⟩:=hcut;cases Dx;rotate_left
 .go_wp2
  go_ret;exact⟨_,rfl,B1.o⟩
 go_upto_region 7 with fail;go_cut[130](fun v wx=>(∃b:Bool,v=.bool b)/\W1=wx)
 ·
  by_cases p:0<s.bn+s.an
  .have YE:(0:Int)<(s.bn:Int)+(s.an:Int):=by omega
   go_wp2;go_meet;exact⟨⟨_,rfl⟩,rfl⟩
  .have YE:decide ((0:Int)<(s.bn:Int)+(s.an:Int))=false:=gW
   clear p;by_cases p:0<s.vn
   .go_wp2
    go_meet;exact⟨⟨_,rfl⟩,rfl⟩
   .have pvn:decide (0<s.vn)=false:=by simpa using p
    clear p;by_cases p:0<s.pn
    .go_wp2
     go_meet;exact⟨⟨_,rfl⟩,rfl⟩
    .have ppn:decide (0<s.pn)=false:=by simpa using p
     clear p;go_wp2;go_meet;exact⟨⟨_,rfl⟩,rfl⟩
 obtain⟨⟨oD,rfl⟩,rfl⟩:=hcut;cases oD;rotate_left
 .go_wp2
  go_ret;exact⟨_,rfl,B1.o⟩
 by_cases q:s.un=0
 .have q1:((s.un:Int)==0)=true:=by simp[q]
  clear q;go_wp2;go_ret;exact⟨_,rfl,B1.o⟩
 .have q1:((s.un:Int)==0)=false:=pI
  clear q;go_wp2;go_ret;exact⟨_,rfl,B1.o⟩):G:=s
theorem Li(s:Sb)(w:ahh)(h:nQ w w.heap.size s):ahk prog 278 #[ae aj 1,s.v] w (PB w):=by
 exact aeM
theorem Mg(s:Sb)(w:ahh)(h:nQ w w.heap.size s):ahk prog 278 #[ae aj 2,s.v] w (PB w):=by
 exact aeM
theorem qR(s:G:=by
 go_wp2
 go_meet;exact⟨⟨_,rfl⟩,rfl⟩):G:=s
theorem aen(s:G:=by
 by_cases p:0<s.bn+s.an
 .have YE:(0:Int)<(s.bn:Int)+(s.an:Int):=by omega
  go_wp2;go_meet;exact⟨⟨_,rfl⟩,rfl⟩
 .have YE:decide ((0:Int)<(s.bn:Int)+(s.an:Int))=false:=gW
  clear p;by_cases p:0<s.vn
  .exact qR
  .have pvn:decide (0<s.vn)=false:=by simpa using p
   clear p;by_cases p:0<s.pn
   .exact qR
   .have ppn:decide (0<s.pn)=false:=by simpa using p
    clear p;go_wp2;go_meet;exact⟨⟨_,rfl⟩,rfl⟩):G:=s
theorem vx(s:G:=by
 go_wp2
 go_ret;exact⟨_,rfl,B1.o⟩):G:=s
theorem Xw(s:G:=by
 have q1:((s.un:Int)==0)=true:=by simp[q]
 clear q;go_wp2;go_ret;exact⟨_,rfl,B1.o⟩):G:=s
theorem W9(s:G:=by
 have q1:((s.un:Int)==0)=false:=pI
 clear q;go_wp2;go_ret;exact⟨_,rfl,B1.o⟩):G:=s
theorem Nu(s:Sb)(w:ahh)(h:nQ w w.heap.size s):ahk prog 278 #[ae aj 3,s.v] w (PB w):=by
 obtain⟨K,n,y,G,D,B,E,x,r,M,u,k⟩:=Ye h;clear h;have⟨g,a,B1,i⟩:=box1 w s.row 170;have⟨z,o,L,H,C,I,t,J,A,F,l,j⟩:=i.o.ns;go_enter func278,ntmps278;go_upto_region 5 with fail;rw[<-a];clear a;go_cut[94](fun v d=>(∃b:Bool,v=.bool b)/\g=d)
 ·
  by_cases p:0<s.tn
  .exact qR
  .have m:decide (0<s.tn)=false:=by simpa using p
   clear p;by_cases p:0<s.jn+s.nn
   .have f:(0:Int)<(s.jn:Int)+(s.nn:Int):=by omega
    go_wp2;go_meet;exact⟨⟨_,rfl⟩,rfl⟩
   .have f:decide ((0:Int)<(s.jn:Int)+(s.nn:Int))=false:=gW
    clear p;go_wp2;go_meet;exact⟨⟨_,rfl⟩,rfl⟩
 obtain⟨⟨e,rfl⟩,rfl⟩:=hcut;cases e;rotate_left
 .exact vx
 go_upto_region 7 with fail;go_cut[130](fun v d=>(∃b:Bool,v=.bool b)/\g=d)
 .exact aen
 obtain⟨⟨c,rfl⟩,rfl⟩:=hcut;cases c;rotate_left
 .exact vx
 by_cases q:s.un=0
 .exact Xw
 .exact W9
theorem aeO(s:G:=by
 obtain⟨r1,r2,r3,r4,r5,r6,h1,h2,h3,h8,h9,qG⟩:=Ye h;clear h;have⟨W1,aP,B1,X1⟩:=box1 w s.row 170;have⟨d0,d1,d2,d3,d4,d5,d6,d7,d8,d9,d10,d11⟩:=X1.o.ns;go_enter func278,ntmps278;go_upto_region 5 with fail;rw[<-aP];clear aP;go_cut[94](fun v wx=>(∃b:Bool,v=.bool b)/\W1=wx)
 ·
  by_cases p:0<s.cn
  .go_wp2
   go_meet;exact⟨⟨_,rfl⟩,rfl⟩
  .have pcn:decide (0<s.cn)=false:=by simpa using p
   clear p;by_cases p:0<s.tn
   .go_wp2
    go_meet;exact⟨⟨_,rfl⟩,rfl⟩
   .have ptn:decide (0<s.tn)=false:=by simpa using p
    clear p;by_cases p:0<s.ln
    .go_wp2
     go_meet;exact⟨⟨_,rfl⟩,rfl⟩
    .have pln:decide (0<s.ln)=false:=by simpa using p
     clear p;go_wp2;go_meet;exact⟨⟨_,rfl⟩,rfl⟩
 obtain⟨⟨Dx,rfl⟩,rfl⟩:=hcut;cases Dx;rotate_left
 .go_wp2
  go_ret;exact⟨_,rfl,B1.o⟩
 go_upto_region 7 with fail;go_cut[130](fun v wx=>(∃b:Bool,v=.bool b)/\W1=wx)
 ·
  by_cases p:0<s.vn
  .go_wp2
   go_meet;exact⟨⟨_,rfl⟩,rfl⟩
  .have pvn:decide (0<s.vn)=false:=by simpa using p
   clear p;by_cases p:0<s.pn
   .go_wp2
    go_meet;exact⟨⟨_,rfl⟩,rfl⟩
   .have ppn:decide (0<s.pn)=false:=by simpa using p
    clear p;go_wp2;go_meet;exact⟨⟨_,rfl⟩,rfl⟩
 obtain⟨⟨oD,rfl⟩,rfl⟩:=hcut;cases oD;rotate_left
 .go_wp2
  go_ret;exact⟨_,rfl,B1.o⟩
 by_cases q:s.un=0
 .have q1:((s.un:Int)==0)=true:=by simp[q]
  clear q;go_wp2;go_ret;exact⟨_,rfl,B1.o⟩
 .have q1:((s.un:Int)==0)=false:=pI
  clear q;go_wp2;go_ret;exact⟨_,rfl,B1.o⟩):G:=s
theorem Pf(s:Sb)(w:ahh)(h:nQ w w.heap.size s):ahk prog 278 #[ae aj 4,s.v] w (PB w):=by
 exact aeO
theorem abL(s:G:=by
 have pln:decide (0<s.ln)=false:=by simpa using p
 clear p;by_cases p:0<s.jn+s.nn
 .have ZL:(0:Int)<(s.jn:Int)+(s.nn:Int):=by omega
  go_wp2;go_meet;exact⟨⟨_,rfl⟩,rfl⟩
 .have ZL:decide ((0:Int)<(s.jn:Int)+(s.nn:Int))=false:=gW
  clear p;go_wp2;go_meet;exact⟨⟨_,rfl⟩,rfl⟩):G:=s
theorem Za(s:G:=by
 have ppn:decide (0<s.pn)=false:=by simpa using p
 clear p;go_wp2;go_meet;exact⟨⟨_,rfl⟩,rfl⟩):G:=s
theorem Qn(s:Sb)(w:ahh)(h:nQ w w.heap.size s):ahk prog 278 #[ae aj 5,s.v] w (PB w):=by
 obtain⟨I,m,x,E,L,A,C,u,o,K,t,k⟩:=Ye h;clear h;have⟨f,a,B1,i⟩:=box1 w s.row 170;have⟨y,n,J,F,B,G,r,H,z,D,l,j⟩:=i.o.ns;go_enter func278,ntmps278;go_upto_region 5 with fail;rw[<-a];clear a;go_cut[94](fun v d=>(∃b:Bool,v=.bool b)/\f=d)
 ·
  by_cases p:0<s.ln
  .exact qR
  .exact abL
 obtain⟨⟨e,rfl⟩,rfl⟩:=hcut;cases e;rotate_left
 .exact vx
 go_upto_region 7 with fail;go_cut[130](fun v d=>(∃b:Bool,v=.bool b)/\f=d)
 ·
  by_cases p:0<s.vn
  .exact qR
  .have g:decide (0<s.vn)=false:=by simpa using p
   clear p;by_cases p:0<s.pn
   .exact qR
   .exact Za
 obtain⟨⟨c,rfl⟩,rfl⟩:=hcut;cases c;rotate_left
 .exact vx
 by_cases q:s.un=0
 .exact Xw
 .exact W9
theorem Ze(s:G:=by
 have YE:(0:Int)<(s.bn:Int)+(s.an:Int):=by omega
 go_wp2;go_meet;exact⟨⟨_,rfl⟩,rfl⟩):G:=s
theorem Lq(s:Sb)(w:ahh)(h:nQ w w.heap.size s):ahk prog 278 #[ae aj 6,s.v] w (PB w):=by
 obtain⟨J,m,x,F,C,A,D,u,o,L,t,j⟩:=Ye h;clear h;have⟨f,a,B1,g⟩:=box1 w s.row 170;have⟨y,n,K,G,B,H,r,I,z,E,k,i⟩:=g.o.ns;go_enter func278,ntmps278;go_upto_region 5 with fail;rw[<-a];clear a;go_cut[94](fun v d=>(∃b:Bool,v=.bool b)/\f=d)
 ·
  by_cases p:0<s.tn
  .exact qR
  .have l:decide (0<s.tn)=false:=by simpa using p
   clear p;by_cases p:0<s.ln
   .exact qR
   .exact abL
 obtain⟨⟨e,rfl⟩,rfl⟩:=hcut;cases e;rotate_left
 .exact vx
 go_upto_region 7 with fail;go_cut[130](fun v d=>(∃b:Bool,v=.bool b)/\f=d)
 ·
  by_cases p:0<s.bn+s.an
  .exact Ze
  .have YE:decide ((0:Int)<(s.bn:Int)+(s.an:Int))=false:=gW
   clear p;by_cases p:0<s.pn
   .exact qR
   .exact Za
 obtain⟨⟨c,rfl⟩,rfl⟩:=hcut;cases c;rotate_left
 .exact vx
 by_cases q:s.un=0
 .exact Xw
 .exact W9
theorem aej(s:G:=by
 by_cases p:0<s.cn
 .exact qR
 .have pcn:decide (0<s.cn)=false:=by simpa using p
  clear p;by_cases p:0<s.tn
  .exact qR
  .have ptn:decide (0<s.tn)=false:=by simpa using p
   clear p;by_cases p:0<s.ln
   .exact qR
   .exact abL):G:=s
theorem Lo(s:Sb)(w:ahh)(h:nQ w w.heap.size s):ahk prog 278 #[ae aj 7,s.v] w (PB w):=by
 obtain⟨I,m,x,E,L,A,C,u,o,K,t,k⟩:=Ye h;clear h;have⟨f,a,B1,i⟩:=box1 w s.row 170;have⟨y,n,J,F,B,G,r,H,z,D,l,j⟩:=i.o.ns;go_enter func278,ntmps278;go_upto_region 5 with fail;rw[<-a];clear a;go_cut[94](fun v d=>(∃b:Bool,v=.bool b)/\f=d)
 .exact aej
 obtain⟨⟨e,rfl⟩,rfl⟩:=hcut;cases e;rotate_left
 .exact vx
 go_upto_region 7 with fail;go_cut[130](fun v d=>(∃b:Bool,v=.bool b)/\f=d)
 ·
  by_cases p:0<s.bn+s.an
  .exact Ze
  .have YE:decide ((0:Int)<(s.bn:Int)+(s.an:Int))=false:=gW
   clear p;by_cases p:0<s.vn
   .exact qR
   .have g:decide (0<s.vn)=false:=by simpa using p
    clear p;go_wp2;go_meet;exact⟨⟨_,rfl⟩,rfl⟩
 obtain⟨⟨c,rfl⟩,rfl⟩:=hcut;cases c;rotate_left
 .exact vx
 by_cases q:s.un=0
 .exact Xw
 .exact W9
theorem Oj(s:Sb)(w:ahh)(h:nQ w w.heap.size s):ahk prog 278 #[ae aj 8,s.v] w (PB w):=by
 obtain⟨G,l,t,C,J,y,A,r,n,I,q,j⟩:=Ye h;clear h;have⟨f,a,B1,g⟩:=box1 w s.row 170;have⟨u,m,H,D,z,E,o,F,x,B,k,i⟩:=g.o.ns;go_enter func278,ntmps278;go_upto_region 5 with fail;rw[<-a];clear a;go_cut[94](fun v d=>(∃b:Bool,v=.bool b)/\f=d)
 .exact aej
 obtain⟨⟨e,rfl⟩,rfl⟩:=hcut;cases e;rotate_left
 .exact vx
 go_upto_region 7 with fail;go_cut[130](fun v d=>(∃b:Bool,v=.bool b)/\f=d)
 .exact aen
 obtain⟨⟨c,rfl⟩,rfl⟩:=hcut;cases c;rotate_left
 .exact vx
 go_wp2;go_ret;exact⟨_,rfl,B1.o⟩
theorem Xg(s:G:=by
 obtain⟨r1,r2,r3,r4,r5,r6,h1,h2,h3,h8,h9,qG⟩:=Ye h;clear h;have⟨W1,aP,B1,X1⟩:=box1 w s.row 170;have⟨d0,d1,d2,d3,d4,d5,d6,d7,d8,d9,d10,d11⟩:=X1.o.ns;go_enter func278,ntmps278;go_upto_region 5 with fail;rw[<-aP];clear aP;go_cut[94](fun v wx=>(∃b:Bool,v=.bool b)/\W1=wx)
 ·
  by_cases p:0<s.cn
  .go_wp2
   go_meet;exact⟨⟨_,rfl⟩,rfl⟩
  .have pcn:decide (0<s.cn)=false:=by simpa using p
   clear p;by_cases p:0<s.tn
   .go_wp2
    go_meet;exact⟨⟨_,rfl⟩,rfl⟩
   .have ptn:decide (0<s.tn)=false:=by simpa using p
    clear p;by_cases p:0<s.ln
    .go_wp2
     go_meet;exact⟨⟨_,rfl⟩,rfl⟩
    .have pln:decide (0<s.ln)=false:=by simpa using p
     clear p;by_cases p:0<s.jn+s.nn
     .have ZL:(0:Int)<(s.jn:Int)+(s.nn:Int):=by omega
      go_wp2;go_meet;exact⟨⟨_,rfl⟩,rfl⟩
     .have ZL:decide ((0:Int)<(s.jn:Int)+(s.nn:Int))=false:=gW
      clear p;go_wp2;go_meet;exact⟨⟨_,rfl⟩,rfl⟩
 obtain⟨⟨Dx,rfl⟩,rfl⟩:=hcut;cases Dx;rotate_left
 .go_wp2
  go_ret;exact⟨_,rfl,B1.o⟩
 go_upto_region 7 with fail;go_cut[130](fun v wx=>(∃b:Bool,v=.bool b)/\W1=wx)
 ·
  by_cases p:0<s.bn+s.an
  .have YE:(0:Int)<(s.bn:Int)+(s.an:Int):=by omega
   go_wp2;go_meet;exact⟨⟨_,rfl⟩,rfl⟩
  .have YE:decide ((0:Int)<(s.bn:Int)+(s.an:Int))=false:=gW
   clear p;by_cases p:0<s.vn
   .go_wp2
    go_meet;exact⟨⟨_,rfl⟩,rfl⟩
   .have pvn:decide (0<s.vn)=false:=by simpa using p
    clear p;by_cases p:0<s.pn
    .go_wp2
     go_meet;exact⟨⟨_,rfl⟩,rfl⟩
    .have ppn:decide (0<s.pn)=false:=by simpa using p
     clear p;go_wp2;go_meet;exact⟨⟨_,rfl⟩,rfl⟩
 obtain⟨⟨oD,rfl⟩,rfl⟩:=hcut;cases oD;rotate_left
 .go_wp2
  go_ret;exact⟨_,rfl,B1.o⟩
 by_cases q:s.un=0
 .have q1:((s.un:Int)==0)=true:=by simp[q]
  clear q;go_wp2;go_ret;exact⟨_,rfl,B1.o⟩
 .have q1:((s.un:Int)==0)=false:=pI
  clear q;go_wp2;go_ret;exact⟨_,rfl,B1.o⟩):G:=s
theorem Mn(s:Sb)(w:ahh)(h:nQ w w.heap.size s):ahk prog 278 #[ae aj 9,s.v] w (PB w):=by
 exact Xg
theorem Ip(s:Sb)(w:ahh)(h:nQ w w.heap.size s):ahk prog 278 #[ae aj 10,s.v] w (PB w):=by
 exact Xg
theorem IW(s:Sb)(w:ahh)(h:nQ w w.heap.size s):ahk prog 278 #[ae aj 11,s.v] w (PB w):=by
 exact Xg
theorem JI(s:Sb)(w:ahh)(h:nQ w w.heap.size s):ahk prog 278 #[ae aj 12,s.v] w (PB w):=by
 exact aeO
theorem Lm(k:Int)(t:(k==1)=false)(m:(k==2)=false)(u:(k==3)=false)(j:(k==4)=false)(n:(k==5)=false)(r:(k==6)=false)(o:(k==8)=false)(l:(k==9)=false)(d:(k==10)=false)(a:(k==11)=false)(c:(k==12)=false)(e:(k !=3)=true)(i:(k !=5)=true)(g:(k !=6)=true)(f:(k !=7)=true)(s:Sb)(w:ahh)(h:nQ w w.heap.size s):ahk prog 278 #[ae aj k,s.v] w (PB w):=by
 exact Xg
theorem MK:rI:=by
 intro k s w h;by_cases h1:k=1
 .subst h1;exact Li s w h
 by_cases h2:k=2
 .subst h2;exact Mg s w h
 by_cases h3:k=3
 .subst h3;exact Nu s w h
 by_cases h4:k=4
 .subst h4;exact Pf s w h
 by_cases d:k=5
 .subst d;exact Qn s w h
 by_cases e:k=6
 .subst e;exact Lq s w h
 by_cases f:k=7
 .subst f;exact Lo s w h
 by_cases i:k=8
 .subst i;exact Oj s w h
 by_cases g:k=9
 .subst g;exact Mn s w h
 by_cases b:k=10
 .subst b;exact Ip s w h
 by_cases a:k=11
 .subst a;exact IW s w h
 by_cases c:k=12
 .subst c;exact JI s w h
 exact Lm k Fa vv Fb Ie (by simpa using d) (by simpa using e) (by simpa using i) (by simpa using g) (by simpa using b) (by simpa using a) (by simpa using c) Fb (by simpa using d) (by simpa using e) (by simpa using f) s w h
end Go.Proofs.YtklncadpkniojaaGreatDoor
