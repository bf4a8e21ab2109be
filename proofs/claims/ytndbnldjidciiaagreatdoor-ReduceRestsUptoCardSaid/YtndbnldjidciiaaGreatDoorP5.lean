/-
  What is proved here: lemmas of part 5, for the theorem of the last part.
-/
import Derived.Test.YtndbnldjidciiaaGreatDoorP4
import Derived.Test.YtndbnldjidciiaaGreatDoorTie
import Derived.Test.YtndbnldjidciiaaGreatDoorCards
import Derived.SevenTiedAt
import Derived.LaidHandle
import Derived.Deep.DeepHandedRow
import Derived.Deep.DeepWitnessRowRef
import Derived.LoopN
set_option linter.unusedSimpArgs false
set_option linter.unusedVariables false
set_option linter.unusedSectionVars false
namespace Go.Proofs.YtndbnldjidciiaaGreatDoor
variable{ι A B B' C F G H I J L M N P R S T V W Y a args c e first gl h h' i ix j k2 l l' m most n n' o ob' p q q2 r rs s sl t u us v vs w x y z}
open Go Go.Vd Go.RowKit
section
attribute [local irreducible] iK iL jI ik iW jH
def ZL(j:Nat)(x:RD)(m:Int)(n:Nat)(c:Int):Ob:=.cells [.d (.v (.int .i64 x.kd)),.d (.v (.string x.sd)),.d (.sl 1 (strs x.pd)),.d (.v (.int .i64 x.k1)),.d (.v (.int .i64 x.n1)),.d (.v (.string x.s1)),.d (.sl 3 (iR x.l1)),.d (.sl 5 (im x.a1)),.d (.v (.int .i64 x.k2)),.d (.v (.int .i64 x.n2)),.d (.v (.string x.s2)),.d (.sl 3 (iR x.l2)),.d (.sl 5 (im x.a2)),.d (.v (.int .i64 x.ad)),.d (.sl 6 (qW x.cd)),.d (.v (.int .i64 m)),.arr j n,.d (.v (.int .i64 c))] 232
theorem YV{sg:Sg}{ps:List fB}(y:uL i n)(r:sg j=some e.length)(x:∀q∈e,q∈ps/\q≠ .empty):
 ∃k m s ls args,iF (.mk 2 0 j (uf e) []) (vars n i)=.mk k m s ls args/\Wt sg ps (.mk k m s ls args) n/\(ie.mk k m s ls args).size=1+e.length+2*i.length:=by
 have b:=Wt.apply (JS (ps:=ps) (c:=(n:Int)) r x) (xw (sg:=sg) (ps:=ps) y);have U:=jG (Hb j e) (vars n i);rw[u0,uc,CP] at U;unfold Hb at b U;obtain⟨k,m,s,ls,args,h⟩:=ie.case (iF (.mk 2 0 j (uf e) []) (vars n i))
 rw[h] at b U;exact⟨k,m,s,ls,args,h,b,O⟩
theorem acu(J:NA j q e)(R:i<e.length)(M:uL C e.length):
 ∃k m s ls args k2 F s2 U b,iF (.mk 0 ((e.length:Int)-1-i) .empty [] []) (vars e.length C)=.mk k m s ls args/\wq e (.mk 3 0 .empty [] [.mk k m s ls args,.mk 0 0 .empty [] []])=.mk k2 F s2 U b/\Wt j q (.mk k2 F s2 U b) 0/\(ie.mk k2 F s2 U b).size=ij e+e.length+3+2*C.length:=by
 have G:Wt j q (vr ((e.length:Int)-1-i)) e.length:=Wt.var O O;have r:=Wt.apply G (xw (sg:=j) (ps:=q) M);have x:=jG (vr ((e.length:Int)-1-i)) (vars e.length C);rw[u0,uc,Qs] at x;unfold vr at r x;obtain⟨k,m,s,ls,args,h⟩:=ie.case (iF (.mk 0 ((e.length:Int)-1-i) .empty [] []) (vars e.length C))
 rw[h] at r x;have H:=Wt.app r (Wt.var (sg:=j) (ps:=q) (n:=0) (c:=(e.length:Int)) (aP _) O);have y:=J.yN (n:=0) (ak _) H;have z:=wR (e.drop 0) (.mk 3 0 .empty [] [.mk k m s ls args,.mk 0 0 .empty [] []]);rw[dk] at y z;rw[vA,show(ie.mk 0 0 .empty [] []).size=1 from rfl] at z;obtain⟨k2,F,s2,U,b,I⟩:=ie.case (wq e (.mk 3 0 .empty [] [.mk k m s ls args,.mk 0 0 .empty [] []]))
 rw[I] at y z;exact⟨k,m,s,ls,args,k2,F,s2,U,b,h,I,y,O⟩
theorem ZJ(h:c=p+1+C+m)(i:e=p+m)(j:C<=z)(q:z<=2000000)(r:P=p+m)(s:P<S+1)(x:S<=1000000)(y:Y=p):c<=100000000/\e<=100000000/\Y<c:=O
theorem ZI(h:c<=100000000/\Y<c)(e:L=c+1):L<=1000000000/\Y<L/\c<=L/\0<L:=O
theorem UB{L Y c:Nat}(h:L<=1000000000/\Y<L/\c<=L/\0<L):0<=(Y:Int)/\(Y:Int)<=1099511627776:=O
theorem ZH{U:Nat}(h1:r=s+x+3+2*(j-p))(h2:s=h+M+i+c+B)(h3:B=1+q+2*j)(h4:M=e+(A+0)+(y+(0+1))+(1+L))(h5:A=1+q+2*z)(h6:i<=12*C+12*N)(h7:N<=C)(h8:C<=2000000)(h9:c+m+W<=U)(G:h+Y+U<=T)(H:e+m+V<=U)(I:L<=1000)(J:T<=1000000)(R:q<=6)(S:x=F+1)(h16:F=p+1+N+m)(h17:j=p+m)(h18:z=p+m)(h19:y=m)(h20:Y=p):r<=1000000000:=O
set_option maxHeartbeats 4000000 in
theorem Ac{sg:Sg}{ps:List fB}(x:RD)(p m:Nat)(hx:x.ad=p)(S:Int)(V:fB)(W:List iq)(hlv:qV ps (.mk S V W))(hlz:(iq.mk S V W).size<=1000)
 (hw:Wt sg ps (.mk x.k1 x.n1 x.s1 x.l1 x.a1) 0) (hz:(ie.mk x.k1 x.n1 x.s1 x.l1 x.a1).size<=1000000) (hpm:iv (.mk x.k1 x.n1 x.s1 x.l1 x.a1)=p+m)
 (hcs:∀c∈x.cd,Wt sg ps c.2 0/\p<=iv c.2/\sg c.1=some x.pd.length/\c.2.size<=1000000) (hcz:MX x.cd<=2000000) (hsg:sg x.sd=some x.pd.length) (hpd:∀q∈x.pd,q∈ps/\q≠ .empty) (hpl:x.pd.length<=6):
 jA fC gl 167 [x.dec.d,fD m,(iq.mk S V W).d] λdd=> ∃t:ie,dd=t.d/\Wt sg ps t 0/\t.size<=1000000000/\∀I,z9 I->I x.sd=none->(∀ c∈x.cd,I c.1=none)->er I t=Ur I p m x.sd (.mk x.k1 x.n1 x.s1 x.l1 x.a1) x.cd:=by
 have hpz:=nE _ (.mk x.k1 x.n1 x.s1 x.l1 x.a1) (ae _);have hcl0:=Yp x.cd;have hcl:=sZ x.cd;have hbo:=vx (gl:=gl) (sg:=sg) (ps:=ps) x m 0 [] x.k1 x.n1 x.s1 x.l1 x.a1 [] p (λq hq=>by cases hq) (λi y hy=>by simp at hy) (by simp;omega) (by simp;omega) hw O O;rw[<- hx] at hbo;simp only[aH] at hbo;refine oN Tryz.func167 117 ?_;refine rF 17 ?_;refine iP 39 5 rfl<|rF 6 ?_;refine oc (iX adt rfl rfl rfl rfl (hbo) [3,4] (.cons rfl (.cells rfl (by repeat (first|exact C9|refine jw ?_|refine .cons (.Sy rfl) ?_))) (.cons rfl .XC .nil)) rfl rfl rfl rfl (jw (oq (XU (jw .nil)))) (λs ob' hq=>?_) (λs ob' hq=>?_));rotate_left
 .obtain ⟨_,_,_,hq1,_⟩:=hq;cases hq1
 obtain⟨⟨ku,mu,su,lu,au⟩,ql,U,hq1,rfl,g1,g2,g3,⟨pl',g4,g5⟩,xs,g6,g7,g8,g9,hE1⟩:=hq;cases hq1;rw[cf] at g4 g6;subst g4 g6;have hbo2:=vx (gl:=gl) (sg:=sg) (ps:=ps) x m 0 U ku mu su lu au ql m g1 g2 O O g3 O O;refine⟨_,_,_,_,_,rfl,rfl,rfl,rfl,rfl,?_⟩;refine uo 14 hbo2 [3,4] ?_;rintro s ob' ⟨⟨kv,mv',sv,lv,av⟩,ql2,j,⟨⟩,rfl,e1,e2,e3,⟨pl2,e4,e5⟩,xs2,e6,e7,e8,e9,hE2⟩;have hy2:j.length=p+m:=by rw[e6,aN,g7,e7]
 have hq2:ql2.length=p+m:=by rw[e4,aN,g5,e5]
 have happ:=qY (gl:=gl) x m 0 j 2 0 x.sd (uf x.pd) [] ql2 e1 O O;obtain⟨kA,mA,sA,lA,aA,hA,haw,haz⟩:=YV (ps:=ps) e1 hsg hpd;rw[hA] at happ;refine uv ?_;refine nC 14 (ub x m 0 j x.sd O) [3,4] ?_;refine nC 1 happ [3,4] ?_;have hT3:=e2.app haw;have hy3:(j++[ie.mk kA mA sA lA aA]).length=p+m+1:=(by rw[aN,hy2];rfl);have e:=uj (gl:=gl) x m 0 (j++[ie.mk kA mA sA lA aA]) 1 0 .empty [.mk S V W] [] U.length O O O;have hcw1:=hT3.yN (n:=U.length) (t:=.mk 1 0 .empty [.mk S V W] []) O (Wt.sort hlv);have h:=wR ((j++[ie.mk kA mA sA lA aA]).drop U.length) (.mk 1 0 .empty [.mk S V W] []);have htk1:(j++[ie.mk kA mA sA lA aA]).take U.length=U:=(by rw[e6,bq,cE]);have hdr1:(j++[ie.mk kA mA sA lA aA]).drop U.length=xs2++[.mk kA mA sA lA aA]:=(by rw[e6,bq,ec]);rw[hdr1] at e hcw1 h;rw[htk1] at e;rw[mS,aN] at h;obtain⟨kM,mM,sM,lM,aM,hM⟩:=ie.case (wq (xs2++[.mk kA mA sA lA aA]) (.mk 1 0 .empty [.mk S V W] []))
 rw[hM] at e hcw1 h;have hyl:U.length=p:=g7;rw[show((U.length:Nat):Int)=x.ad by rw[hx,hyl]] at e;have hzs:(ie.mk 1 0 .empty [iq.mk S V W] []).size=1+(iq.mk S V W).size:=(by simp only[ie.size,iG,ij];omega);rw[hzs] at h;simp only[ij,aj,aH] at h;refine nC 8 (r9 x m 0 j kA mA sA lA aA O) [3,4] ?_;refine rF 3 ?_;refine xo (ι:=Unit) (λ_=>[(13,.jk 8 0)]) (λ_=>[Dm x,lO S V W,zO,ZL 4 x m U.length 0,pA U,tO ku mu su lu au,tO kv mv' sv lv av,tO kA mA sA lA aA,tO kM mM sM lM aM]) [9,8,7,6,3,1] (λ_=>True) rfl ?_ ?_
 .refine ma 0 [0,1,3,4] mixed ?_;refine ki (rs:=[2,6]) gN rfl ⟨?_,?_,trivial⟩
  .skip
   refine A4 2 rfl (cv agi rfl rfl (tJ S V W) (oq .nil) ?_);refine ki (rs:=[5,6]) gN rfl ⟨?_,?_,trivial⟩
   .skip
    refine A4 5 rfl (ck Wi rfl rfl (e) [3,4] rfl (jN (.cons rfl .buf .nil)) (jw (jw (jw .nil))) ?_);refine A2 6 rfl (AW jz ?_);refine nO 7 ?_;refine iB<|ml 0 () [0,1,2,3,4,5,6,7,8] ?_;trivial
   .skip
    refine A4 6 rfl (AW jz ?_);refine A2 5 rfl (ck Wi rfl rfl (e) [3,4] rfl (jN (.cons rfl .buf .nil)) (jw (jw (jw .nil))) ?_);refine nO 7 ?_;refine iB<|ml 0 () [0,1,2,3,4,5,6,7,8] ?_;trivial
  .skip
   refine A4 6 rfl (AW jz ?_);refine qB 2 (tJ S V W) ?_;refine A2 5 rfl (ck Wi rfl rfl (e) [3,4] rfl (jN (.cons rfl .buf .nil)) (jw (jw (jw .nil))) ?_);refine nO 7 ?_;refine iB<|ml 0 () [0,1,2,3,4,5,6,7,8] ?_;trivial
 .rintro _ hcut
  try dsimp only at hcut
  refine rF 7 ?_;refine o1 (qg iQ rfl rfl ?_);have hMw:Wt sg ps (.mk kM mM sM lM aM) U.length:=hcw1;refine nC 9 (r9 x m U.length U kM mM sM lM aM O) [3,4] ?_;refine pt 9 (ι:=Nat×List ie) (λ⟨i,R⟩=>[(14,int i)]) (λ⟨i,R⟩=>[Dm x,lO S V W,zO,ZL 4 x m R.length U.length,pA R,tO ku mu su lu au,tO kv mv' sv lv av,tO kA mA sA lA aA,tO kM mM sM lM aM]) [9,8,7,6,3,1] (λ⟨i,R⟩=>i<=x.cd.length/\NA sg ps R/\∃ks,R=(U++[.mk kM mM sM lM aM])++ks/\ks.length=i/\ij ks<=12*MX (x.cd.take i)+12*i/\∀I,z9 I->(∀ c∈x.cd,I c.1=none)->ks.map (er I)=BG I p x.sd (p+1) (x.cd.take i)) (λ⟨i,R⟩=>x.cd.length-i) ((0,U++[.mk kM mM sM lM aM])) ([0,1,2,3,4,5,6,7,8]) ⟨ak _,g2.app hMw,[],by simp,rfl,by simp[ij],λ_ _ _=>rfl⟩ ?_;rintro⟨i,R⟩ hinv
  try dsimp only at hinv
  obtain⟨i1,i2,ks,i3,i4,i5,i6⟩:=hinv;refine jq 10 ?_ ?_<;>intro h10
  .obtain ⟨cN,cK,cM,cS,cL,cA,Y⟩:=zT (show i<x.cd.length by omega);have hcm:=aO Y;obtain⟨c1,c2,c3,hczm⟩:=hcs _ hcm;have hzl:R.length=p+1+i:=(by rw[i3,aN,aN,hyl,i4];rfl);have hmi:=ON (gl:=gl) (sg:=sg) (ps:=ps) x m U.length p hx R cN cK cM cS cL cA O O i2 O c1 (by simp only at hczm;omega) c2 c3 hpd hpl hyl;refine ni 10 G4 Jt ?_ (hat:=(x8 Y));refine uo 1 hmi [3,4] ?_;rintro s ob' ⟨⟨kY,mY,sY,lY,aY⟩,⟨⟩,rfl,hq4,hq5,hq6⟩;refine uv ?_;refine nC 7 (r9 x m U.length R kY mY sY lY aY O) [3,4] ?_;refine jS 5 ?_;refine ml 2 (i+1,R++[.mk kY mY sY lY aY]) [0,1,2,3,4,5,6,7,8] ?_
   .refine ⟨⟨O,i2.app hq4,ks++[.mk kY mY sY lY aY],by rw[i3,bq],by rw[aN,i4];rfl,?_,λI hI hc=>?_⟩,show x.cd.length-(i+1)<x.cd.length-i by omega⟩
    .rw [mS,Wa Y];simp only[ij];omega
    .have h9:=hq6 I hI (hc _ hcm);have hl:(x.cd.take i).length=i:=(by rw[bj];omega);rw[hzl] at h9;rw[bf,i6 I hI hc,bo,Y,cD,h9];show _=BG I p x.sd (p+1) (_++[_]);rw[FN,hl]
  obtain rfl:i=x.cd.length:=O;rw[bT] at i5 i6;have hzl:R.length=p+1+x.cd.length:=(by rw[i3,aN,aN,hyl,i4];rfl);have hbo3:=vx (gl:=gl) (sg:=sg) (ps:=ps) x m U.length R ku mu su lu au ql m (g1.up O) i2 O O g3 O O;refine uo 11 hbo3 [3,4] ?_;rintro s ob' ⟨⟨kw,mw,sw,lw,aw⟩,r,k,⟨⟩,rfl,f1,f2,f3,⟨pl3,f4,f5⟩,xs3,f6,f7,f8,f9,hE3⟩;have hy4:k.length=p+1+x.cd.length+m:=by rw[f6,aN,hzl,f7]
  have hq3:r.length=p+m:=by rw[f4,aN,g5,f5]
  have hb3:k.length<=100000000/\r.length<=100000000/\U.length<k.length:=ZJ hy4 hq3 hcl0 hcz hpm hpz hz hyl;have happ3:=qY (gl:=gl) x m U.length k 2 0 x.sd (uf x.pd) [] r f1 (aQ hb3.1 Z) (aQ hb3.2.1 Z);obtain⟨z,C,F,G,H,hB,haw3,haz3⟩:=YV (ps:=ps) f1 hsg hpd;rw[hB] at happ3;have hT5:=f2.app haw3;have hy5:(k++[ie.mk z C F G H]).length=k.length+1:=by rw[aN];rfl
  have J:(k++[ie.mk z C F G H]).length<=1000000000/\U.length<(k++[ie.mk z C F G H]).length/\k.length<=(k++[ie.mk z C F G H]).length/\0<(k++[ie.mk z C F G H]).length:=ZI ⟨hb3.1,hb3.2.2⟩ hy5;have f1':uL r (k++[ie.mk z C F G H]).length:=f1.up J.2.2.1;have hil:=qP r;have M:=qY (gl:=gl) x m U.length (k++[ie.mk z C F G H]) 0 ((k++[ie.mk z C F G H]).length-1-U.length) .empty [] [] (r.drop p) (f1'.drop p) (aQ J.1 Z) (by rw[bK];exact aQ (Nat.sub_le _ _) (aQ hb3.2.1 Z));obtain⟨kC,mC,sC,lC,aC,kD,mD,sD,lD,aD,hC,hD,hcw5,hcz5⟩:=acu hT5 J.2.1 (f1'.drop p);rw[hC] at M;have hap5:=lS (gl:=gl) kC mC sC lC aC 0 0 .empty [] [];have hcl5:=uj (gl:=gl) x m U.length (k++[ie.mk z C F G H]) 3 0 .empty [] [.mk kC mC sC lC aC,.mk 0 0 .empty [] []] 0 (ak _) J.2.2.2 (aQ J.1 Z);rw[dk,hD] at hcl5;have hsz5:ij (k++[ie.mk z C F G H])=ij U+(ie.mk kM mM sM lM aM).size+ij ks+ij xs3+(ie.mk z C F G H).size:=by
   rw[f6,i3];simp only[mS,ij,b6,eR]
  have hfin:(ie.mk kD mD sD lD aD).size<=1000000000:=by
   rw[bK] at hcz5;exact ZH hcz5 hsz5 haz3 h haz i5 hcl0 hcz f8 g8 e8 hlz hz hpl hy5 hy4 hq3 hq2 e7 rfl
  refine uv ?_;refine nC 13 (ub x m U.length k x.sd (aQ hpl Z)) [3,4] ?_;refine nC 1 happ3 [3,4] ?_;refine nC 0 (r9 x m U.length k z C F G H (aQ hb3.1 Z)) [3,4] ?_;refine rF 3 ?_;refine xo (ι:=Unit) (λ_=>[(16,.jk 9 0)]) (λ_=>[Dm x,lO S V W,zO,ZL 4 x m (k++[ie.mk z C F G H]).length U.length,pA (k++[ie.mk z C F G H]),tO ku mu su lu au,tO kv mv' sv lv av,tO kA mA sA lA aA,tO kM mM sM lM aM,tO kC mC sC lC aC]) [7,6] (λ_=>True) rfl ?_ ?_
  .refine ma 0 [0,1,2,3,4,5,7,8,9] mixed ?_;refine A1 10 rfl (sJ u5 vM rfl rfl rfl rfl rfl rfl O ((show(ints r).drop (x.ad).toNat=ints (r.drop p) by rw[hx];exact Gf r p)) ⟨_,rfl,?_⟩);refine ki (rs:=[6,12]) gN rfl ⟨?_,?_,trivial⟩
   .skip
    refine A4 6 rfl (ck Nb rfl rfl (wg x m U.length (k++[ie.mk z C F G H]) U.length (aQ J.1 Z) (UB J)) [3,4] rfl (jN (.cons rfl .buf .nil)) (jw (jw .nil)) ?_);refine ki (rs:=[11,12]) gN rfl ⟨?_,?_,trivial⟩
    .skip
     refine A4 11 rfl (ck IZ rfl rfl (M) [3,4] rfl (jN (.cons rfl .buf .nil)) (jw (jw (jw .nil))) ?_);refine A2 12 rfl (AW jz ?_);refine nO 13 ?_;refine iB<|ml 0 () [0,1,2,3,4,5,6,7,8,9] ?_;trivial
    .skip
     refine A4 12 rfl (AW jz ?_);refine A2 11 rfl (ck IZ rfl rfl (M) [3,4] rfl (jN (.cons rfl .buf .nil)) (jw (jw (jw .nil))) ?_);refine nO 13 ?_;refine iB<|ml 0 () [0,1,2,3,4,5,6,7,8,9] ?_;trivial
   .skip
    refine A4 12 rfl (AW jz ?_);refine A2 6 rfl (ck Nb rfl rfl (wg x m U.length (k++[ie.mk z C F G H]) U.length (aQ J.1 Z) (UB J)) [3,4] rfl (jN (.cons rfl .buf .nil)) (jw (jw .nil)) ?_);refine A2 11 rfl (ck IZ rfl rfl (M) [3,4] rfl (jN (.cons rfl .buf .nil)) (jw (jw (jw .nil))) ?_);refine nO 13 ?_;refine iB<|ml 0 () [0,1,2,3,4,5,6,7,8,9] ?_;trivial
  .rintro _ hcut
   try dsimp only at hcut
   refine ma 1 [0] mixed ?_;refine qB 1 (zJ 0) ?_;refine qB 2 hap5 ?_;refine nO 3 ?_;refine iB<|nC 5 hcl5 [3,4] ?_;refine v8 4 ((ie.mk kD mD sD lD aD).d) ?_;refine⟨_,rfl,hcw5,hfin,λI hI hn hc=>?_⟩;have h8:R.length+m=k.length:=(by rw[f6,aN,f7]);rw[hyl] at hE2 hC;have h9:=Xj (us:=uf x.pd) (vs:=[.mk S V W]) (L:=(k++[ie.mk z C F G H]).length) (b:=R.length) hI hn hE1 hE2 hE3 hzl (i6 I hI hc) (by rw[<- hy2];exact e1) (by rw[h8];exact f1) (by rw[h8];exact hy5);have hy:k++[ie.mk z C F G H]=U++(.mk kM mM sM lM aM::(ks++(xs3++[.mk z C F G H]))):=(by rw[f6,i3];simp);rw[h8,hB,hC,<-hy2,hA,hM,<-hy,hD] at h9;exact h9
mutual
def tS:ie->Prop
 | .mk _ _ _ ls args=>ls.length<=1000000/\args.length<=1000000/\(∀ l∈ls,XF l)/\tSs args
def tSs:List ie->Prop
 |[]=>True
 |t::r=>tS t/\tSs r
end
theorem QE:∀{l:List ie} {i:Nat} {t:ie},tSs l->l[i]? =some t->tS t
 |a::r,0,t,h,b=>by cases b;exact h.1
 |a::r,i+1,t,h,b=>QE (l:=r) (i:=i) h.2 (by simpa using b)
mutual
theorem Wt.tS{sg:Sg}{ps:List fB}(hs:∀s n,sg s=some n->n<=1000000):∀{t:ie} {c:Int},Wt sg ps t c->tS t
 | .mk k m s ls args,c,h=>by
  have h2:=h.2.2;refine⟨?_,?_,λl hl=>?_,qF.tS hs h.2.1⟩
  .rcases h2 with h2|h2|h2|h2|h2
   .rw [h2.2.2.2.1];simp
   .rw [h2.2.2.2.1];omega
   .exact hs _ _ h2.2.2.1
   .rw [h2.2.2.2.1];simp
   .rw [h2.2.2.2.1];simp
  .rcases h2 with h2|h2|h2|h2|h2
   .rw [h2.2.2.2.2];omega
   .rw [h2.2.2.2.2];omega
   .rw [h2.2.2.2];omega
   .rw [h2.2.2.2.2];omega
   .rw [h2.2.2.2.2];omega
  .obtain ⟨x,rfl,_⟩:=h.1 l hl;exact tT x
theorem qF.tS{sg:Sg}{ps:List fB}(hs:∀s n,sg s=some n->n<=1000000):∀{l:List ie} {b:Bool} {c:Int},qF sg ps b l c->tSs l
 |[],_,_,_=>trivial
 |t::r,b,c,h=>⟨Wt.tS hs h.1,qF.tS hs h.2⟩
end
theorem Lv:∀(n:Nat) (k m:Int) (s:fB) (ls:List iq) (args:List ie) (most:Int),(ie.mk k m s ls args).size<=n->tS (.mk k m s ls args)->0<=most->most<=1099511627776->
 jA fC R 102 [(ie.mk k m s ls args).d,fD most] λd=> ∃r:Int,d=fD r/\1<=r/\r<=most+1/\(r<=most->r=(ie.mk k m s ls args).size):=by
 intro n
 induction n with
 |zero=>intro k m s ls args most h;simp[ie.size] at h
 |succ n S=>
  intro k m s ls args most x V W Y;simp only[ie.size] at x;obtain⟨hb1,hb2,y,z⟩:=V;have hal:=ir args;have hll:=jn ls;refine oN Tryz.func102 59 ?_;refine vq 18 (ι:=Nat×Int) (λ⟨i,c⟩=>[(6,int i),(5,int c)]) [2,1] (λ⟨i,c⟩=>i<=ls.length/\1<=c/\c<=most+1/\(c<=most->c=1+iG (ls.take i))) (λ⟨i,c⟩=>ls.length-i) ((0,1)) ⟨ak _,O,O,λ_=>by simp[iG]⟩ ?_;rintro⟨i,c⟩ b
  try dsimp only at b
  refine xP 9 18 15 3 ?_;refine jq 2 ?_ ?_<;>intro h3
  .obtain ⟨k',s',a',U⟩:=kj (show i<ls.length by omega);have C:=oA U;refine ni 9 oz oP ?_ (hat:=(lj U));refine sH 3 ?_;refine wE 0 (CY _ k' s' a' (most-c) (ae _) (y _ (aO U)) O O) λd hd=>?_
   obtain⟨r,rfl,F,G,H⟩:=hd;refine jS 6 ?_;refine jS 6 ?_;refine qX 2 (i+1,c+r) ?_;exact⟨⟨O,O,O,λh=>by rw[qK U];omega⟩,show ls.length-(i+1)<ls.length-i by omega⟩
  have I:c<=most+1:=b.2.2.1;have J:c<=most->c=1+iG ls:=(λh=>by
   have h4:i=ls.length:=O;rw[b.2.2.2 h,h4,bT])
  have M:=b.2.1;refine vq 12 (ι:=Nat×Int) (λ⟨j,e⟩=>[(8,int j),(5,int e)]) [2,1] (λ⟨j,e⟩=>j<=args.length/\1<=e/\e<=most+1/\(e<=most->e=1+iG ls+ij (args.take j))) (λ⟨j,e⟩=>args.length-j) ((0,c)) ⟨ak _,M,I,λh=>by simp[ij];exact J h⟩ ?_;rintro⟨j,e⟩ b
  try dsimp only at b
  refine xP 9 42 39 3 ?_;refine j7 2 ?_ ?_<;>intro h8
  .have q:e<=most->j=args.length:=(λh=>O);refine od 12 ?_;exact⟨e,rfl,b.2.1,b.2.2.1,λh=>by rw[b.2.2.2 h,q h,bT];simp only[ie.size];omega⟩
  obtain⟨k2,m2,s2,l2,a2,U⟩:=iZ (show j<args.length by omega);have C:=iO U;refine ni 9 iQ iY ?_ (hat:=(jr U));refine sH 3 ?_;refine wE 0 (S k2 m2 s2 l2 a2 (most-e) O (QE z U) O O) λd hd=>?_;obtain⟨r,rfl,F,G,H⟩:=hd;refine jS 6 ?_;refine jS 6 ?_;refine qX 2 (j+1,e+r) ?_
  exact⟨⟨O,O,O,λh=>by rw[vQ U];omega⟩,show args.length-(j+1)<args.length-j by omega⟩
theorem Mb(I m s h c x y z i e)(j:tS (.mk I m s h c))(G:20000<(ie.mk I m s h c).size):
 jA fC q 106 [(ie.mk I m s h c).d,(ie.mk x y z i e).d] λd=> ∃b:Bool,d=fF b/\b=true:=by
 refine oN Tryz.func106 22 ?_;refine wE 10 (Lv _ I m s h c 20000 (ae _) j O O) λd hd=>?_;obtain⟨r,rfl,U,C,F⟩:=hd;refine j7 10 ?_ ?_<;>intro H
 .omega
 refine od 7 ?_;exact⟨true,rfl,rfl⟩
theorem PE(j w G m s i c r x y h e)(q:tS (.mk G m s i c))(C:20000<(ie.mk G m s i c).size):
 jT fC z 64 [iD j w,iC] [.jk 0 0,.d (ie.mk G m s i c).d,.d (ie.mk r x y h e).d] λout ob'=>out=.ret (.d tg.d)/\ob'=[iD j true,iC]:=by
 refine nR Tryz.func64 27 2 ?_;refine wE 11 (Mb G m s i c r x y h e q C) λd hd=>?_;obtain⟨F,rfl,b⟩:=hd
 refine rV 8 16 12 4 ?_;refine j7 2 ?_ ?_<;>intro U
 .exfalso;(exfalso;rw[b] at U;simp at U)
 refine oR 11 tr [.tmp 21] pC ?_;refine jD 6 (tg.d) [0,1] [iD j true,iC] ⟨rfl,rfl⟩
theorem PD(C w)(J:B<=1125899906842624)(F:B'<=1125899906842624)(M m s j e q r x i c)(G:tS (.mk M m s j e))(H:(ie.mk q r x i c).size<=1099511627776)(y:(ie.mk M m s j e).size<=20000->oD B (.mk M m s j e))(z:oD B' (.mk q r x i c)):
 jT fC gl 64 [iD C w,iC] [.jk 0 0,.d (ie.mk M m s j e).d,.d (ie.mk q r x i c).d] λout ob'=> ∃(u:ie) (U:Bool),out=.ret (.d u.d)/\ob'=[iD C U,iC]/\
  ((U=false/\w=false/\u=jJ (.mk M m s j e) (.mk q r x i c)/\u.size<=20000)\/(U=true/\u=tg)):=by
 by_cases h:(ie.mk M m s j e).size<=20000
 .exact xi C w J F M m s j e q r x i c O H (y h) z
 .refine (PE C w M m s j e q r x i c G O).mono λo b I=>?_
  exact⟨tg,true,I.1,I.2,.inr ⟨rfl,rfl⟩⟩
theorem No{sg:Sg}{ps:List fB}(hL:ps.length<=6)(hs:∀s n,sg s=some n->n<=1000000):∀(n:Nat) (k m:Int) (s:fB) (ls:List iq) (args:List ie) (k2 S:Int) (s2:fB) (z:List iq) (U:List ie) (c c2:Int),(ie.mk k m s ls args).size<=n->
 Wt sg ps (.mk k m s ls args) c->Wt sg ps (.mk k2 S s2 z U) c2->
 jA fC R 40 [(ie.mk k m s ls args).d,(ie.mk k2 S s2 z U).d,fF true] λd=> ∃b:Bool,d=fF b/\(b=true->TM (.mk k m s ls args) (.mk k2 S s2 z U)):=by
 intro n
 induction n with
 |zero=>intro k m s ls args k2 S s2 z U c c2 h;simp[ie.size] at h
 |succ n ih=>
  intro k m s ls args k2 S s2 z U c c2 hn hw V;have hlen:=ir args;have hlen2:=ir U;have hlenL:=jn ls;have hlenL2:=jn z;obtain⟨hb1,hb2,_,_⟩:=hw.tS hs;simp only[ie.size] at hn;refine oN Tryz.func40 105 ?_;refine rV 16 21 16 5 ?_;refine rV 1 28 23 5 ?_;refine rV 1 37 30 7 ?_;refine rV 1 46 39 7 ?_;refine jq 2 ?_ ?_<;>intro h1
  .refine od 7 ?_
   first|exact⟨false,rfl,λh=>by cases h⟩|(obtain⟨⟨⟨⟨f1,f2⟩,f3⟩,_⟩,f5⟩:=h1;subst f1;subst f2;exact⟨true,rfl,λ_=>TM.node O f3 λi a b C G=>H i a b (by have:=(aJ.1 C).1;omega) C G⟩)
  refine vq 9 (ι:=Nat) (λi=>[(7,int i)]) [4,3,2] (λi=>i<=ls.length) (λi=>ls.length-i) (0) (ak _) ?_;rintro i F
  try dsimp only at F
  refine j7 10 ?_ ?_<;>intro h4
  .refine vq 12 (ι:=Nat) (λj=>[(9,int j)]) [4,3,2] (λj=>j<=args.length/\∀(i:Nat) a b,i<j->args[i]? =some a->U[i]? =some b->TM a b) (λj=>args.length-j) (0) ⟨ak _,λi a b h=>absurd h (cT _)⟩ ?_;rintro j F
   try dsimp only at F
   obtain⟨hj1,H⟩:=F;refine j7 10 ?_ ?_<;>intro h12
   .refine od 11 ?_
    first|exact⟨false,rfl,λh=>by cases h⟩|(obtain⟨⟨⟨⟨f1,f2⟩,f3⟩,_⟩,f5⟩:=h1;subst f1;subst f2;exact⟨true,rfl,λ_=>TM.node O f3 λi a b C G=>H i a b (by have:=(aJ.1 C).1;omega) C G⟩)
   obtain⟨k',n',s',l',a',q⟩:=iZ (show j<args.length by omega);obtain⟨I,n2',J,l2',M,e⟩:=iZ (show j<U.length by omega);have hsz':=iO q;refine ma 5 [0,1,2] mixed ?_;refine pQ 3 iQ iY ?_ (hat:=(jr q));refine ga [4,5,6,7] ?_;refine pQ 8 iQ iY ?_ (hat:=(jr e));refine ga [9,10] ?_;refine A2 (T:=λ_=>False) 11 rfl (oK agk rfl rfl rfl rfl (ih k' n' s' l' a' I n2' J l2' M _ _ O (qF.get hw.2.1 q) (qF.get V.2.1 e)) (oq (oq (jw .nil))) (λd hd=>?_));obtain⟨r2,rfl,hr2⟩:=hd;refine ga [12] ?_;refine iB<|jq 7 ?_ ?_<;>intro h15
   .refine od 11 ?_
    first|exact⟨false,rfl,λh=>by cases h⟩|(obtain⟨⟨⟨⟨f1,f2⟩,f3⟩,_⟩,f5⟩:=h1;subst f1;subst f2;exact⟨true,rfl,λ_=>TM.node O f3 λi a b C G=>H i a b (by have:=(aJ.1 C).1;omega) C G⟩)
   refine jS 5 ?_;refine qX 2 (j+1) ?_;exact⟨⟨O,λi a b h C G=>by rcases bV i j with h'|h';exact H i a b h' C G;obtain rfl:i=j:=O;rw[q] at C;rw[e] at G;cases C;cases G;exact hr2 (by assumption)⟩,O⟩
  obtain⟨k',s',a',q⟩:=kj (show i<ls.length by omega);obtain⟨I,J,M,e⟩:=kj (show i<z.length by omega);obtain⟨x,hx,fx,ix⟩:=hw.1 _ (aO q);obtain⟨y,hy,fy,iy⟩:=V.1 _ (aO e);have W:=Lh (gl:=R) x y (Bt hL ix iy) (Bt hL iy ix);have Y:=tT x;have hyS:=tT y;rw[<- hx,<-hy] at W;rw[<- hx] at Y;rw[<- hy] at hyS;have hss:=G6 (gl:=R) _ k' s' a' I J M (ae _) Y hyS;refine ma 5 [0,1,2] mixed ?_;refine pQ 3 oz oP ?_ (hat:=(lj q));refine ga [4,5,6,7] ?_;refine pQ 8 oz oP ?_ (hat:=(lj e));refine ga [9] ?_;refine A2 (T:=λ_=>False) 10 rfl (oK adl rfl rfl rfl rfl (hss) (oq (oq .nil)) (λd hd=>?_));obtain⟨q1,rfl⟩:=hd;refine ga [11] ?_;refine iB<|xP 7 69 68 1 ?_;refine rF 2 ?_;refine xc (ι:=Bool) (λr=>[(8,fH r)]) [7,4,3,2] (λr=>True) rfl ?_ ?_
  .refine j7 0 ?_ ?_<;>intro h7
   .refine qX 1 (q1) ?_;trivial
   refine ma 0 [0,1,2] mixed ?_;refine pQ 3 oz oP ?_ (hat:=(lj q));refine ga [4,5,6,7] ?_;refine pQ 8 oz oP ?_ (hat:=(lj e));refine ga [9] ?_;refine A2 (T:=λ_=>False) 10 rfl (oK age rfl rfl rfl rfl (W) (oq (oq .nil)) (λd hd=>?_));obtain⟨q2,rfl⟩:=hd;refine ga [11] ?_;refine iB<|qX 0 (q2) ?_;trivial
  .rintro r hcut
   try dsimp only at hcut
   refine j7 6 ?_ ?_<;>intro h9
   .refine jS 5 ?_;refine qX 2 (i+1) ?_;exact⟨O,O⟩
   refine od 11 ?_
   first|exact⟨false,rfl,λh=>by cases h⟩|(obtain⟨⟨⟨⟨f1,f2⟩,f3⟩,_⟩,f5⟩:=h1;subst f1;subst f2;exact⟨true,rfl,λ_=>TM.node O f3 λi a b C G=>H i a b (by have:=(aJ.1 C).1;omega) C G⟩)
theorem JL(H:z.length<=6)(I:∀s n,y s=some n->n<=1000000)(R m s j h q r x i e)
 (J:Wt y z (.mk R m s j h) c) (C:Wt y z (.mk q r x i e) F):
 jA fC G 50 [(ie.mk R m s j h).d,(ie.mk q r x i e).d] λd=> ∃b:Bool,d=fF b/\(b=true->TM (.mk R m s j h) (.mk q r x i e)):=by
 refine oN Tryz.func50 8 ?_;refine wE 11 (No H I _ R m s j h q r x i e c F (ae _) J C) λd hd=>?_;obtain⟨M,rfl,U⟩:=hd;refine od 4 ?_;exact⟨_,rfl,U⟩
inductive HT (sg:Sg) (ps:List fB) (S:Nat):Nat->ie->Int->Prop
 |base {n t c:_} (h:Wt sg ps t c) (hz:t.size<=S):HT sg ps S n t c
 |sort {n L c:_} (h:qV ps L):HT sg ps S n (.mk 1 0 .empty [L] []) c
 |pi {n A B c:_} (hA:Wt sg ps A c) (hz:A.size<=S) (hB:HT sg ps S n B (c+1)):HT sg ps S (n+1) (.mk 5 0 .empty [] [A,B]) c
theorem HT.wt(h:HT e i S n t c):Wt e i t c:=by
 induction h with
 |base h=>exact h
 |sort h=>exact Wt.sort h
 |pi b _ _ k=>exact Wt.bind (.inr rfl) b k
theorem HT.mono{sg:Sg}{ps:List fB}(h:HT sg ps S n t c)(i:S<=e):∀{b:Nat},n<=b->HT sg ps e b t c:=by
 induction h with
 |base h hz=>intro b _;exact .base h O
 |sort h=>intro b _;exact .sort h
 |pi k hz _ U=>
  intro b j;obtain⟨m,rfl⟩:∃m,b=m+1:=⟨b-1,O⟩;exact .pi k O (U O)
theorem HT.up{sg:Sg}{ps:List fB}{S n:Nat}{t:ie}{c:Int}(h:HT sg ps S n t c):∀{b:Int},c<=b->HT sg ps S n t b:=by
 induction h with
 |base h hz=>intro b k;exact .base (h.up k) hz
 |sort h=>intro b _;exact .sort h
 |pi U hz _ e=>intro b k;exact .pi (U.up k) hz (e O)
theorem HT.tx(h:HT i j S n (.mk 5 m s q e) c):∃A B,e=[A,B]/\m=0/\s=.empty/\q=[]/\Wt i j A c/\A.size<=S/\HT i j S n B (c+1):=by
 generalize k:ie.mk 5 m s q e=t at h;cases h with
 |base h hz=>
  subst k;obtain⟨A,B,rfl,rfl,rfl,rfl,U,b⟩:=h.two (.inr (.inr rfl));rw[if_neg Z] at b;simp only[ie.size,iG,ij] at hz;exact⟨A,B,rfl,rfl,rfl,rfl,U,O,.base b O⟩
 |sort h=>cases k
 |pi U hz b=>cases k;exact⟨_,_,rfl,rfl,rfl,rfl,U,hz,b.mono (ae _) O⟩
theorem JH(j m s e c)(h:j≠3):
 jA fC gl 65 [(ie.mk j m s e c).d] (· =.jj [(ie.mk j m s e c).d,.sl 5 (im [])]):=by
 refine oN Tryz.func65 37 ?_;refine pt 14 (ι:=Unit) (λ_=>[]) (λ_=>[tO j m s e c,zO]) [4,2,1] (λ_=>True) (λ_=>0) (()) ([0,1]) (by trivial) ?_;rintro _ b
 try dsimp only at b
 refine jq 8 ?_ ?_<;>intro U
 .contradiction
 refine rF 14 ?_;refine o1 (le4 iQ ?_);refine sH 0 ?_;refine pt 4 (ι:=Unit) (λ_=>[]) (λ_=>[tO j m s e c,zO]) [6,5,4,2,1] (λ_=>True) (λ_=>0) (()) ([0,1]) (by trivial) ?_;rintro _ b
 try dsimp only at b
 refine jq 7 ?_ ?_<;>intro i
 .contradiction
 refine v8 14 (.jj [(ie.mk j m s e c).d,.sl 5 (im [])]) ?_;rfl
theorem EV(i w t C m s h c)(x:C=1\/C=5)(F e j):
 jT fC gl 51 [iD i w,iC,tf F e t j] [.jk 0 0,.d (ie.mk C m s h c).d,.jk 2 0] λout ob'=>out=.ret (.d (ie.mk C m s h c).d)/\ob'=[iD i w,iC,tf F e t j]:=by
 have U:=JH (gl:=gl) C m s h c O;refine nR Tryz.func51 141 3 ?_;refine pt 8 (ι:=Unit) (λ_=>[]) (λ_=>[iD i w,iC,tf F e t j,tO C m s h c,zO]) [6,4,0,2] (λ_=>True) (λ_=>0) (()) ([0,1,2,3,4]) (by trivial) ?_;rintro _ b
 try dsimp only at b
 refine xP 9 27 22 5 ?_;refine j7 2 ?_ ?_<;>intro y
 .refine jD 12 ((ie.mk C m s h c).d) [0,1,2] [iD i w,iC,tf F e t j] ⟨rfl,rfl⟩
 refine ny 6 U ?_;refine jq 22 ?_ ?_<;>intro z
 .omega
 refine jq 6 ?_ ?_<;>intro q
 .omega
 refine jq 6 ?_ ?_<;>intro r
 .omega
 refine jD 14 ((ie.mk C m s h c).d) [0,1,2] [iD i w,iC,tf F e t j] ⟨rfl,rfl⟩
end
end Go.Proofs.YtndbnldjidciiaaGreatDoor
namespace Go.Mt
variable{A B C F G K R T a c e first h i j l m n q r s t x}
open E
theorem Ue(n t)(s:Nat->E):(BM n t).sub s=BM n (t.sub (yc n s)):=by
 induction n generalizing s with
 |zero=>rfl
 |succ n b=>show E.lam _=E.lam _;rw[b,Ba];rfl
theorem Xa(R first e c h i)(s:Nat->E):(TK R first e c h i).sub s=TK R (first.map (·.sub s)) (e.map (·.sub s)) (c.sub s) h i:=by
 unfold TK;rw[Ue];show BM _ (E.app _ _)=BM _ (E.app _ _)
 congr 2
 .rw [om,om,bN,bN,bN]
  congr 1
  .congr 1
   exact bZ λx _=>J6 _ x s
  .refine bZ λx _=>?_
   show(E.sub _ _).sub _=_;rw[sub_sub,Qu,OP]
 .rw [om,J6,TR]
theorem E6(R first)(s:Nat->E):∀(F:List Nr) (b cs:List E),(xf R first b F cs).map (·.sub s)=xf R (first.map (·.sub s)) (b.map (·.sub s)) F (cs.map (·.sub s))
 |[],_,_=>by simp[xf]
 | .QW A::F,b,[]=>by simp[xf]
 | .rc k U::F,b,[]=>by simp[xf]
 | .QW A::F,b,c::cs=>by
  have:=E6 R first s F (b++[c]) cs
  rw[bf] at this;exact this
 | .rc k U::F,b,c::cs=>by
  have:=E6 R first s F (b++[c]) cs
  rw[bf] at this;show E.sub _ _::List.map _ _=_::_;rw[Xa,this];rfl
theorem Ud(j:wi)(i:Nat)(c:Ns)(e h:List E)(s:Nat->E):(j.made i c e h).sub s=j.made i c (e.map (·.sub s)) (h.map (·.sub s)):=by
 unfold wi.made;rw[om,bf,E6,dN,cu,cu,getD_map _ (·.sub s) rfl]
def W3(e:wi)(i:Nat)(c:Ns)(n m:Nat):E:=e.made i c ((List.range n).map .var) ((List.range m).map λq=>.var (n+q))
theorem T6(j i c e h):(W3 j i c e.length h.length).sub (inst (e++h))=j.made i c e h:=by
 unfold W3;rw[Ud]
 congr 1
 .refine dY (by simp) λq k b=>?_
  simp only[dZ,eb];show inst _ _=_;simp only[inst,ba,bl b,aZ b,cY]
 .refine dY (by simp) λq k b=>?_
  simp only[dZ,eb];show inst _ _=_;simp only[inst,ba,bA (Nat.le_add_right _ _),Nat.add_sub_cancel_left,aZ b,cY]
theorem Dq{G:oO}{K:fB->Option E}{C:Ctx}(c:pk G):∀{l:List E} {h b T:E},(∀ T,Ty G K C h T->Ty G K C b T)->Ty G K C (h.apps l) T->Ty G K C (b.apps l) T
 |[],_,_,_,k,h=>k _ h
 |a::l,f,q,T,k,h=>Dq c (l:=l) (λT U=>by
  obtain⟨A,B,e,i,j⟩:=U.rz c;exact .conv (.app (k _ e) i) j) h
theorem Ty.arg{G:oO}{K:fB->Option E}{C:Ctx}(c:pk G){q a i T:E}(h:Ty G K C (.app q a) T)(r:∀T,Ty G K C a T->Ty G K C i T)(e:Cv G a i):Ty G K C (.app q i) T:=by
 obtain⟨A,B,b,U,j⟩:=h.rz c;exact .conv (.app b (r _ U)) ((Cv.Jv c B (Cv.one e.symm)).trans c j)
end Go.Mt
namespace Go.Proofs.YtndbnldjidciiaaGreatDoor
variable{ι ρ A B B' C F G H I J K L M N P Q Q' R S T V W Y a a6 acc args az c cap e es first fr fuel g gl h h' hi i ix j k2 l l3 l4 ls' m m3 m4 most n n' n0 o ob ob' p q q' q2 r r3 r7 r8 rp rs rt s s3 s4 sl sx t u us v w w' x y z}
section
open Go Go.Vd Go.RowKit
open Go.Mt (E oO Cv Ty)
structure zl (es:List iI) (I:fB->Option E) (G:oO) (K:fB->Option E):Prop where
 cl:z9 I
 df:∀{s e j},iw s es=(2,e,j)->I s=some (er I e.d.vl)
 nd:∀{s},(iw s es).1≠0->(iw s es).1≠2->I s=none
 g:Mt.pk G
 afg:∀{s e j i} {c:fB×ie},iw s es=(5,e,j)->e.d.cs[i]? =some c->G s c.1=some (ym e,iv c.2,Mt.W3 (uK I s e.d) i (z6 I e.d.nm e.d.ar.toNat c) (ym e) (iv c.2))
 X5:∀{s e j},iw s es=(5,e,j)->Mt.RV G K (uK I s e.d)
 ty:∀{s x},oM s es=some x->∀us C,Ty G K C (er I (.mk 2 0 s us [])) (er I x.2)
theorem zl.pz{c:List iI}{I:fB->Option E}{G:oO}{K:fB->Option E}(h:zl c I G K){s:fB}(e:(iw s c).1≠0)(i:(iw s c).1≠2)(j):er I (.mk 2 0 s j [])=.pz s:=by
 show(I s).getD (.pz s)=_;rw[h.nd e i];rfl
theorem GD(i:Wt e h t c):er I t=(er I (ig t).1).apps ((ig t).2.map (er I)):=by
 rw[<- og,(Wt.spine _ (ae _) i).2.2.2]
theorem IL(i:nS c)(s:e∈c)(z:e.d.k=3):(iw e.d.nm c).1≠0/\(iw e.d.nm c).1≠2:=by
 refine⟨λh=>(ry i.ok.k0).1 h (U0 s),λh=>?_⟩;obtain⟨b,j,k⟩:∃b j,iw e.d.nm c=(2,b,j):=⟨(iw e.d.nm c).2.1,(iw e.d.nm c).2.2,by rw[<- h]⟩;have U:=n9 k Z;have q:b.d.k=2:=by
  rcases nY k Z with h|h|h
  .exact h.symm
  .omega
  .omega
 have C:b.d.nm=e.d.nm:=by
  clear z;have:∀{c:List iI},(∀ x∈c,x.d.k≠0)->iw e.d.nm c=(2,b,j)->b.d.nm=e.d.nm:=by
   intro c
   induction c with
   |nil=>intro _ h;rw[iw] at h;cases h
   |cons x r F=>
    intro G h;rw[iw] at h;split at h
    .simp only[bW] at h;obtain⟨_,rfl,_⟩:=h;assumption
    .split at h
     .cases h
     .split at h
      .cases h
      .exact F (λy H=>G y (bB _ H)) h
  exact this i.ok.k0 k
 have:=yF i.ok U s C;rw[this] at q;omega
theorem WA(y:zl V I G K)(S:nS V){ps:List fB}(hc:0<=c):∀(n:Nat) {t:ie} {d:Nat} {u:ie} {d':Nat},RW V J n t d (.ok u d')->d<=J->Wt (jY V) ps t c->
 Cv G (er I t) (er I u)/\∀C T,Ty G K C (er I t) T->Ty G K C (er I u) T:=by
 intro n
 induction n with
 |zero=>intro t d u d' h;exact h.elim
 |succ n ih=>
  intro t d u d' h hd hw;obtain⟨_,hH,hA,_⟩:=Wt.spine _ (ae _) hw;have M:=GD (I:=I) hw;have H:∀{v x:ie},Bh J d (RW V J n) x v (.ok u d')->Wt (jY V) ps x c->(Cv G (er I t) (er I x)/\∀C T,Ty G K C (er I t) T->Ty G K C (er I x) T)->Cv G (er I t) (er I u)/\∀C T,Ty G K C (er I t) T->Ty G K C (er I u) T:=by
   intro v x hs hx h1;rcases hs with⟨_,F⟩|⟨h3,_,F⟩
   .cases F
   .obtain ⟨g1,g2⟩:=ih F O hx;exact⟨h1.1.trans y.g g1,λC T h=>g2 C T (h1.2 C T h)⟩
  have U:∀{x:ie},er I t=er I x->Cv G (er I t) (er I x)/\∀C T,Ty G K C (er I t) T->Ty G K C (er I x) T:=λe=>by rw[e];exact⟨.rfl,λ_ _ h=>h⟩
  rcases h with⟨A,b,a,r,h1,F,h3⟩|⟨A,v,b,h1,h3⟩|⟨s,us,e,j,h1,F,h4,h3⟩|⟨s,us,e,j,io,h1,F,h4,h5,h6⟩|⟨_,h3⟩
  .rw [h1] at hH M;obtain⟨a',b',hab,_,_,_,hA1,R⟩:=hH.two (.inr (.inl rfl));cases hab;rw[if_neg Z] at R;rw[F] at hA M;have M:er I t=(E.app (.lam (er I b)) (er I a)).apps (r.map (er I)):=M;have ha:=hA a bC;obtain⟨B1,b1⟩:=R.Fb;obtain⟨B2,b2⟩:=ha.Fb;refine H h3 (Wt.apply (Wt.sub hc R ha) λx hx=>hA x (bB _ hx)) ?_;rw[M,og,Df y.cl b1 b2];exact⟨Cv.apps y.g (Mt.nu.beta .z .z).cv rfl λ_=>.rfl,λC T h=>Mt.Dq y.g (λT h=>h.beta y.g) h⟩
  .rw [h1] at hH M;obtain⟨A',v',b',hab,_,_,_,hA1,hV1,R⟩:=hH.three rfl;cases hab;obtain⟨B1,b1⟩:=R.Fb;obtain⟨B2,b2⟩:=hV1.Fb;refine H h3 (Wt.apply (Wt.sub hc R hV1) hA) (U ?_);rw[M,og,Df y.cl b1 b2];rfl
  .rw [h1] at hH M;have W:=n9 F Z;have hk:e.d.k=2:=by
    rcases nY F Z with h|h|h
    .exact h.symm
    .omega
    .omega
   have hv0:=((S.ok.AZ _ W).vl hk).1;have hv:=hv0.Ny (us:=us) O hH.1;obtain⟨B1,b1⟩:=hv0.Fb;refine H h3 (Wt.apply (hv.up hc) hA) (U ?_);rw[M,og,PG I _ _ _ b1];show E.apps ((I s).getD (.pz s)) _=_;rw[y.df F];rfl
  .rw [h1] at hH M;have W:=n9 F Z;have hk:e.d.k=3:=by
    rcases nY F Z with h|h|h
    .rcases (S.ok.AZ _ W).k with h'|h'|h'<;>omega
    .omega
    .exact h.2
   rcases h5 with⟨g1,rfl⟩|⟨x,g1,⟨_,rfl⟩|⟨mj,d1,g2,⟨_,rfl⟩|⟨i,z,us2,g3,⟨_,rfl⟩|⟨g4,g5,g6,rfl⟩⟩⟩⟩
   .cases h6;exact U rfl
   .cases h6
   .cases h6;exact U rfl
   .cases h6
   .have hx:=hA x (aO g1);obtain⟨q1,q2,q3,q4⟩:=vB S.ok hc n g2 hd hx;obtain⟨c1,c2⟩:=ih g2 hd hx;obtain⟨_,qH,qA,_⟩:=Wt.spine _ (ae _) q1;obtain⟨w1,w2,w3,w4,w5,w6,w7⟩:=xl S.ok W qH g3;have hal:=(aJ.1 g1).1;have hI:=Kb (es:=V) hc (S.ok.AZ _ W) hk hH hA qA w2 O w4 w6 hal w1;have hs0:(iw s V).1≠0:=by rw[F];show(5:Int)≠0;decide
    have hs2:(iw s V).1≠2:=by rw[F];show(5:Int)≠2;decide
    obtain⟨sc,k,cn,k1,k2,k3,k4,k5⟩:=g3;have he2:k=e:=yF S.ok (n9 k2 Z) W k3;subst he2;have hcn:cn=sc:=by
     obtain⟨c0,m1,m2⟩:=vt S.ok.k4 (by rw[k2]:(iw sc V).1=4);rw[k2] at m1;rw[k4] at m1;cases m1;exact m2
    subst hcn;have hio:=X8 (I:=I) y.cl hc (y.nd (IL S W hk).1 (IL S W hk).2) (y.nd hs0 hs2) k4 hH hA qA w4 ((S.ok.AZ _ W).ar hk) w7 (S.pos _ W hk _ (aO k4)) w6 O w2 hal;have ems:=GD (I:=I) q1;rw[k1,y.pz (by rw[k2];show(4:Int)≠0;decide) (by rw[k2];show(4:Int)≠2;decide)] at ems;have hsp:(ig t).2=(ig t).2.take (ym k)++x::(ig t).2.drop (ym k+1):=by
     obtain⟨hlt,hxe⟩:=aJ.1 g1;subst hxe;rw[List.getElem_cons_drop,dp]
    have hal2:((ig t).2.take (ym k)).length=ym k:=by rw[bj];omega
    rw[y.pz hs0 hs2,hsp,bf,bG,Mt.zi] at M;have M:er I t=(E.app ((E.pz s).apps (((ig t).2.take (ym k)).map (er I))) (er I x)).apps (((ig t).2.drop (ym k+1)).map (er I)):=M;have hG:=y.afg F k4;have hpl:(((ig t).2.take (ym k)).map (er I)).length=ym k:=by rw[bc];exact hal2
    have hcl:((ig mj).2.map (er I)).length=iv z:=by rw[bc];exact w6
    have hpar:Mt.nu G (.app ((E.pz s).apps (((ig t).2.take (ym k)).map (er I))) ((E.pz cn).apps ((ig mj).2.map (er I)))) ((uK I s k.d).made i (z6 I k.d.nm k.d.ar.toNat (cn,z)) (((ig t).2.take (ym k)).map (er I)) ((ig mj).2.map (er I))):=by
     have hgen:∀p q:List E,p.length=ym k->q.length=iv z->Mt.nu G (.app ((E.pz s).apps p) ((E.pz cn).apps q)) ((uK I s k.d).made i (z6 I k.d.nm k.d.ar.toNat (cn,z)) p q):=λp q hp hq=>by
      have:=Mt.nu.iota (G:=G) (r:=s) (c:=cn) (p:=p) (q:=q) (p':=p) (q':=q) (by rw[hp,hq];exact hG) rfl rfl (λ_=>.z) (λ_=>.z);rw[<- hp,<-hq,Mt.T6] at this;exact this
     exact hgen _ _ hpl hcl
    have Y:Cv G (er I t) (er I (rb k (.mk 2 0 s us []) (ig t).2 (ig mj).2 i z us2))/\∀C T,Ty G K C (er I t) T->Ty G K C (er I (rb k (.mk 2 0 s us []) (ig t).2 (ig mj).2 i z us2)) T:=by
     rw[hio,M];rw[ems] at c1 c2;refine⟨Cv.apps y.g ((Cv.app y.g .rfl c1).trans y.g hpar.cv) rfl λ_=>.rfl,λC T h=>Mt.Dq y.g (λT h=>?_) h⟩;have hfm:(uK I s k.d).ct[i]? =some (z6 I k.d.nm k.d.ar.toNat (cn,z)):=by
      show(List.map _ _)[i]? =_;rw[bt,k4];rfl
     have har:=(S.ok.AZ _ W).ar hk;have hia:ym k=k.d.ar.toNat+1+k.d.cs.length+(iv k.d.ty-k.d.ar.toNat):=rfl;have hxl:=jx (iv k.d.ty) k.d.ty (ae _);have hcx:=jx (iv z) z (ae _);refine Mt.XO y.g (y.X5 F) hfm ?_ ?_ (h.arg y.g (c2 C) c1)
     .rw [hpl,hia];show _=(List.map _ _).length+1+(List.map _ _).length+(List.map _ _).length;simp only[bc,bj,bK,hxl];omega
     .rw [hcl];show _=(List.map _ _).length+(List.map _ _).length;simp only[bc,bj,bK,hxl,hcx];omega
    obtain⟨p1,p2⟩:=ih h6 O hI;exact⟨Y.1.trans y.g p1,λC T h=>p2 C T (Y.2 C T h)⟩
  .cases h3;exact U rfl
def yq(c:List iI)(t u:ie):Prop:=nS c->∀I G K,zl c I G K->Cv G (er I t) (er I u)
theorem yq.node(e:l.length=m.length)(h:∀(i:Nat) a b,l[i]? =some a->m[i]? =some b->yq c a b):yq c (.mk y n s j l) (.mk y n s j m):=
 λq I G K U=>Rv U.g e λi a b r x=>h i a b r x q I G K U
theorem G0.cv(h:G0 t u):yq c t u:=λ_ I G K b=>h I G b.cl b.g
theorem yq.trans{c:List iI}{t u v:ie}(h:yq c t u)(k:yq c u v):yq c t v:=λU I G K b=>(h U I G K b).trans b.g (k U I G K b)
theorem yq.rfl{c:List iI}{t:ie}:yq c t t:=λ_ _ _ _ _=>.rfl
theorem yq.symm{c:List iI}{t u:ie}(h:yq c t u):yq c u t:=λb I G K k=>(h b I G K k).symm
theorem TM.cv(h:TM t u):yq c t u:=λ_ I G K b=>by rw[h I];exact .rfl
theorem Qk{r:List iI}{j:Nat}{R:ie->Nat->Int->tQ->Prop}(G:∀{t u:ie} {d k:Nat} {p U c:Int} {s:List fB},R t d p (.ok u k U)->d<=j->0<=c->Wt (jY r) s t c->k<=j/\yq r t u){s:List fB}{b:Bool}:
 ∀{l q:List ie} {d k:Nat} {p U c:Int},Ch R l d p (.ok q k U)->d<=j->0<=c->qF (jY r) s b l c->l.length=q.length/\∀(i:Nat) a y,l[i]? =some a->q[i]? =some y->yq r a y
 |[],q,d,k,p,U,c,h,hd,H,C=>by cases h;exact⟨rfl,λi a y e=>by simp at e⟩
 |x::l,q,d,k,p,U,c,h,hd,H,C=>by
  rcases h with⟨_,F⟩|⟨y,d2,p2,S,F,V,I⟩
  .cases F
  .cases S with
   |ja=>cases I
   |ok l2 d3 p3=>
    cases I;obtain⟨W,Y⟩:=G F hd (show 0<=(if b&&l.isEmpty then c+1 else c) by split<;>omega) C.1;obtain⟨k1,k2⟩:=Qk G V W H C.2;refine⟨congrArg Nat.succ k1,λi a z J M=>?_⟩;cases i with
    |zero=>cases J;cases M;exact Y
    |succ i=>exact k2 i a z J M
theorem Wp(e:l.length=m.length)(j:∀(i:Nat) a y,l[i]? =some a->m[i]? =some y->yq c a y):yq c (iF h l) (iF h m):=λq I G K k=>by
 rw[og,og];refine Cv.apps k.g .rfl (by simp[e]) λi=>?_
 simp only[ba,bt];cases b:l[i]? with
 |none=>
  have:m[i]? =none:=by rw[List.getElem?_eq_none_iff] at b ⊢;omega
  rw[this];exact .rfl
 |some a=>
  have r:=(aJ.1 b).1;have U:m[i]? =some (m[i]'O):=aZ O;rw[U];exact j i a _ b U q I G K k
theorem aee(C:ko i):∀(n:Nat) {t u:ie} {d U:Nat} {p j c:Int} {ps:List fB},RN i e n t d p (.ok u U j)->d<=e->0<=c->Wt (jY i) ps t c->U<=e/\yq i t u:=by
 intro n
 induction n with
 |zero=>intro t u d U p j c ps h;exact h.elim
 |succ n F=>
  intro t u d U p j c ps h hd q hw;refine⟨(D7 C _ h hd q hw).2.2.1,?_⟩;rcases h with⟨_,_,h⟩|⟨m,v,d1,H,J,Y,r⟩
  .cases h
  .obtain ⟨M,e1,R,e3⟩:=vB C q m J hd hw;have y:yq i t v:=λS I G K V=>(WA V S q m J hd hw).1
   refine y.trans ?_;rcases r with⟨_,r,x⟩|⟨_,r,x⟩
   .cases H with
    |ja=>cases x
    |ok l2 d3 p3=>
     cases x;obtain⟨_,hH,W,z⟩:=Wt.spine _ (ae _) M;obtain⟨k1,k2⟩:=Qk (b:=false) (λ{t u d U p j c ps}=>F) r R q (qF.flat W);have:=Wp (h:=(ig v).1) k1 k2
     rwa [z] at this
   .cases H with
    |ja=>cases x
    |ok l2 d3 p3=>
     cases x;obtain⟨k,m2,s,ls,args⟩:=v;obtain⟨k1,k2⟩:=Qk (b:=decide (4<=k)) (λ{t u d U p j c ps}=>F) r R q M.2.1;exact yq.node k1 k2
end
section
open Go Go.Vd Go.RowKit
attribute [local irreducible] iK iL jI ik iW jH
def Wu(h:List iI)(w:Bool)(Q:ie->Prop)(c:Out)(e:List Ob):Prop:=
 ∃(u:ie) (k code:Int) (b:Bool),c=.ret (.d (.jj [u.d,.v (.int .i64 k),.v (.int .i64 code)]))/\e=[iD h b,iC]/\(code=0\/code=14)/\(b=false->w=false)/\(code=0->b=false/\Q u)
theorem DK(i w x m s j c)(q:x=1\/x=5)(e):
 jT fC gl 32 [iD i w,iC] [.jk 0 0,.d (ie.mk x m s j c).d,fE e] (Wu i w λu=>u=.mk x m s j c):=by
 have b:=EV (gl:=gl) i w false x m s j c q 0 e 0;refine nR Tryz.func32 34 2 ?_;refine nC 21 b [0,1,4] ?_;refine rV 12 26 22 4 ?_;refine jq 2 ?_ ?_<;>intro r
 .refine jD 10 (.jj [iu.d,fD 0,fD 14]) [0,1] [iD i w,iC] ⟨iu,0,14,w,rfl,rfl,.inr rfl,λh=>h,λh=>O⟩
 refine ma 3 [0,1,2,3,4] mixed ?_;refine nO 5 ?_;refine ga [6,7] ?_;refine iB<|jD 2 (.jj [(ie.mk x m s j c).d,fD 0,fD 0]) [0,1] [iD i w,iC] ?_
 .have U:w=false:=(by cases w<;>simp_all);exact⟨_,0,0,w,rfl,rfl,.inl rfl,λh=>h,λ_=>⟨U,rfl⟩⟩
theorem DL{r:List iI}(W:ko r){Y:List fB}{c:Int}(M:0<=c){i S n:Nat}(hm:i<=1000000)(w:Bool)(k m:Int)(s:fB)(y:List iq)(j:List ie)(hz:c+S+30000*i<=1000000000000)(R:HT (jY r) Y S n (.mk k m s y j) c):
 jT fC gl 32 [iD r w,iC] [.jk 0 0,.d (ie.mk k m s y j).d,fE i] (Wu r w λu=>HT (jY r) Y (S+30000*i) n u c/\yq r (.mk k m s y j) u):=by
 have z:=R.mono (Nat.le_add_right S (30000*i)) (ae _);generalize V:ie.mk k m s y j=t at R;cases R with
 |base h hs=>
  subst V;refine(Ov W M hm w k m s y j O h).mono λo b C=>?_
  obtain⟨u,F,code,H,rfl,rfl,h1,J,x,U⟩:=C;refine⟨u,F,code,H,rfl,rfl,J,λe=>(U e).1,λe=>⟨x e,?_⟩⟩;rcases(U (x e)).2 with⟨e1,_⟩|⟨_,q,e2⟩
  .omega
  .obtain ⟨g1,g2,g3,g4⟩:=vB W M q e2 O h;exact⟨.base g1 O,λhF I G K hD=>(WA hD hF M q e2 O h).1⟩
 |sort h=>
  cases V;refine(DK r w 1 0 .empty _ [] (.inl rfl) i).mono λo b C=>?_
  obtain⟨u,F,code,H,rfl,rfl,J,x,U⟩:=C;exact⟨u,F,code,H,rfl,rfl,J,x,λe=>⟨(U e).1,by rw[(U e).2];exact⟨z,.rfl⟩⟩⟩
 |pi hA hs hB=>
  cases V;refine(DK r w 5 0 .empty [] _ (.inr rfl) i).mono λo b C=>?_
  obtain⟨u,F,code,H,rfl,rfl,J,x,U⟩:=C;exact⟨u,F,code,H,rfl,rfl,J,x,λe=>⟨(U e).1,by rw[(U e).2];exact⟨z,.rfl⟩⟩⟩
def abh(q:List iI)(c s:Nat)(i:Int)(w r:Bool)(Q:ie->Prop)(e:Out)(h:List Ob):Prop:=
 ∃(u:ie) (b:Nat) (k j:Bool) (U:Int),e=.ret (.d u.d)/\h=[iD q j,iC,tf b c k U]/\s<=b/\b<=c/\i<U/\U<=pB i/\(j=false->w=false/\(k=true\/(k=false/\r=false/\Q u)))
def NQ(gl:Nat->List D)(e:List iI)(c:Nat)(t:ie)(Q:ie->Prop):Prop:=
 ∀(d:Nat) (b:Int) (w k:Bool),d<=c->0<=b->b<=1000000000000000000->
  jT fC gl 37 [iD e w,iC,tf d c k b] [.jk 0 0,.d t.d,.jk 2 0] (abh e c d b w k Q)
set_option maxHeartbeats 800000 in
theorem FI(F e k m s r c)(hk:k=1\/k=5)(hl:c.length<=1000000)(Q:Nat->ie->Prop)(hQ:∀(i:Nat) x,c[i]? =some x->NQ C F e x (Q i)):
 NQ C F e (.mk k m s r c) λu=> ∃U,u=.mk k m s r U/\U.length=c.length/\∀(i:Nat) y,U[i]? =some y->Q i y:=by
 intro d q w H I hp0 hpm;have R:=EV (gl:=C) F w H k m s r c hk d e q;have S:q+1<=pB q:=by unfold pB;split<;>omega
 have hal:=ir c;refine nR Tryz.func37 93 3 ?_;refine nC 11 R [0,1,2] ?_;refine jS 9 ?_;refine rV 13 33 28 5 ?_;refine rV 13 45 41 4 ?_;refine jq 2 ?_ ?_<;>intro h4
 .refine jD 8 ((ie.mk k m s r c).d) [0,1,2] [iD F (w||decide (20000<q+1)),iC,tf d e H (q+1)] ?_
  .refine ⟨.mk k m s r c,d,H,_,q+1,rfl,rfl,ae _,I,O,S,λhw=>?_⟩;simp only[ef,decide_eq_false_iff_not,dJ] at hw;refine⟨hw.1,.inl ?_⟩;rcases h4 with h|h|h
   .exact h
   .rw [hw.1] at h;cases h
   .omega
 refine jq 10 ?_ ?_<;>intro h6
 .omega
 have V:H=false/\w=false/\q+1<=20000:=(by cases H<;>cases w<;>simp_all);obtain⟨rfl,rfl,hpr⟩:=V;refine rF 14 ?_;refine iP 39 5 rfl<|pt 0 (ι:=Nat×Bool×Bool×Nat×Int×List ie) (λ⟨i,w3,t3,d3,p3,U⟩=>[(11,int i),(10,.own 5 5 (im U))]) (λ⟨i,w3,t3,d3,p3,U⟩=>[iD F w3,iC,tf d3 e t3 p3,tO k m s r c,zO,tR]) [6,4,0,2] (λ⟨i,w3,t3,d3,p3,U⟩=>i<=c.length/\U.length=i/\d<=d3/\d3<=e/\q+1<=p3/\p3<=20001+(20000-q)*1000000000001+i/\(q+1<p3\/i=0)/\(w3=false->t3=true\/(t3=false/\∀(j:Nat) y,U[j]? =some y->Q j y))) (λ⟨i,w3,t3,d3,p3,U⟩=>c.length-i) ((0,(false||decide (20000<q+1)),false,d,q+1,[])) ([0,1,2,3,4,5]) ⟨ak _,rfl,ae _,I,aP _,O,.inr rfl,λ_=>.inr ⟨rfl,λj y h=>by cases h⟩⟩ ?_ (hM:=by exact oL (iU (j8 rfl (by exact Fit.nil rfl))));rintro⟨i,w3,t3,d3,p3,U⟩ b
 try dsimp only at b
 refine j7 10 ?_ ?_<;>intro h15
 .have W:=uM (gl:=C) k m s r c U;refine ny 9 W ?_;refine jD 4 ((ie.mk k m s r U).d) [0,1,2] [iD F w3,iC,tf d3 e t3 p3] ?_
  .obtain ⟨i1,Y,i3,i4,i5,i6,i7,i8⟩:=b;refine⟨.mk k m s r U,d3,t3,w3,p3,rfl,rfl,i3,i4,O,by unfold pB;rw[if_pos O];omega,λhw=>⟨rfl,?_⟩⟩;rcases i8 hw with g1|⟨g1,g2⟩
   .exact .inl g1
   .exact .inr ⟨g1,rfl,U,rfl,O,g2⟩
 obtain⟨kx,mx,sx,lx,ax,z⟩:=iZ (show i<c.length by omega);have hi2:=b.2.1;have hnm:=hQ i _ z d3 p3 w3 t3 b.2.2.2.1 (by have:=b.2.2.2.2.1;omega) (by have:=b.2.2.2.2.2.1;omega);have hytl:=ir U;refine ni 10 iQ iY ?_ (hat:=(jr z));refine uo 2 hnm [0,1,2] ?_;rintro s ob' ⟨⟨kY,mY,sY,lY,aY⟩,d4,t4,w4,p4,⟨⟩,rfl,hq3,hq4,hq5,J,hq7⟩;have hnx:im U++[[fD kY,fD mY,fG sY,.sl 3 (iR lY),.sl 5 (im aY)]]=im (U++[.mk kY mY sY lY aY]):=(by rw[ll];rfl);refine uv ?_;refine oR 0 mN [.tmp 87] jz ?_;refine oc (ya mN ?_);refine jS 6 ?_;refine rF 2 ?_;rw[hnx];refine ml 0 (i+1,w4,t4,d4,p4,U++[.mk kY mY sY lY aY]) [0,1,2,3,4,5] ?_
 .obtain ⟨i1,Y,i3,i4,i5,i6,i7,i8⟩:=b;refine⟨⟨O,by rw[aN,Y];rfl,O,hq4,O,?_,.inl O,λhw=>?_⟩,show c.length-(i+1)<c.length-i by omega⟩
  .unfold pB at J;split at J<;>omega
  .obtain ⟨e1,M⟩:=hq7 hw;rcases M with M|⟨M,e3,e4⟩
   .exact .inl M
   .rcases i8 e1 with f1|⟨f1,f2⟩
    .rw [f1] at e3;cases e3
    .refine .inr ⟨M,λj y G=>?_⟩;rcases bV j i with hji|hji
     .rw [bl O] at G;exact f2 j y G
     .rw [bA O] at G;have hj:j=i:=by
       have h3:=(aJ.1 G).1;simp only[aj,aH] at h3;omega
      subst hj;rw[Y,bL] at G;cases G;exact e4
theorem FJ{q:List iI}(hE:ko q){ps:List fB}{j S:Nat}(hm:j<=1000000):∀(n:Nat) (t:ie) (c:Int),HT (jY q) ps S n t c->0<=c->c+n+S+30000*j<=1000000000000->NQ gl q j t λu=>HT (jY q) ps (S+30000*j) n u c/\yq q t u:=by
 have I:∀(t:ie) (c:Int),Wt (jY q) ps t c->t.size<=S->0<=c->c+S+30000*j<=1000000000000->NQ gl q j t λu=>(Wt (jY q) ps u c/\u.size<=S+30000*j)/\yq q t u:=by
  intro t c h hs R hz d V w W U r C;obtain⟨k,m,s,ls,args,rfl⟩:=ie.case t
  refine(Ip hE (ps:=ps) hm ((ie.mk k m s ls args).size+30000*(j-d)+1) k m s ls args c d V w W U R O O h r C).mono λo b Y=>?_
  obtain⟨u,d',t',w',p',rfl,rfl,G,H,h3,h4,J⟩:=Y;refine⟨u,d',t',w',p',rfl,rfl,G,H,h3,h4,λe=>⟨(J e).1,?_⟩⟩;rcases(J e).2 with⟨M,_⟩|⟨M,e2,e3⟩
  .exact .inl M
  .obtain ⟨g1,_,_,_,_,g2⟩:=D7 hE _ e3 U R h;exact .inr ⟨M,e2,⟨g1,O⟩,(aee hE _ e3 U R h).2⟩
 have F:∀{t:ie} {Q Q':ie->Prop},(∀ u,Q u->Q' u)->NQ gl q j t Q->NQ gl q j t Q':=by
  intro t Q Q' hi h d V w W U r C;refine(h d V w W U r C).mono λo b Y=>?_
  obtain⟨u,d',t',w',p',r1,r2,G,H,h3,h4,J⟩:=Y;exact⟨u,d',t',w',p',r1,r2,G,H,h3,h4,λe=>⟨(J e).1,(J e).2.imp id λf=>⟨f.1,f.2.1,hi u f.2.2⟩⟩⟩
 intro n t c h
 induction h with
 |base h hs=>intro R hz;exact F (λu hu=>⟨.base hu.1.1 hu.1.2,hu.2⟩) (I _ _ h hs R O)
 |sort h=>
  intro R hz d V w W U r C;refine(FI q j 1 0 .empty [_] [] (.inl rfl) (by simp) (λ_ _=>True) (λi x hx=>by cases hx) d V w W U r C).mono λo b Y=>?_
  obtain⟨u,d',t',w',p',rfl,rfl,G,H,h3,h4,J⟩:=Y;refine⟨u,d',t',w',p',rfl,rfl,G,H,h3,h4,λe=>⟨(J e).1,?_⟩⟩;rcases(J e).2 with M|⟨M,e2,ys,rfl,e3,e4⟩
  .exact .inl M
  .obtain rfl:=ch e3;exact .inr ⟨M,e2,.sort h,.rfl⟩
 | @pi n A B c hA hs hB ih=>
  intro R hz d V w W U r C;refine(FI q j 5 0 .empty [] [A,B] (.inr rfl) (by simp) (λi y=>(i=0->(Wt (jY q) ps y c/\y.size<=S+30000*j)/\yq q A y)/\(i=1->HT (jY q) ps (S+30000*j) n y (c+1)/\yq q B y)) (λi x hx=>?_) d V w W U r C).mono λo b Y=>?_
  .match i,hx with
   |0,hx=>cases hx;exact F (λu hu=>⟨λ_=>hu,λh=>O⟩) (I _ _ hA hs R O)
   |1,hx=>cases hx;exact F (λu hu=>⟨λh=>O,λ_=>hu⟩) (ih O O)
  .obtain ⟨u,d',t',w',p',rfl,rfl,G,H,h3,h4,J⟩:=Y;refine⟨u,d',t',w',p',rfl,rfl,G,H,h3,h4,λe=>⟨(J e).1,?_⟩⟩;rcases(J e).2 with M|⟨M,e2,ys,rfl,e3,e4⟩
   .exact .inl M
   .match ys,e3,e4 with
    |[y,z],_,e4=>
     have g1:=(e4 0 y rfl).1 rfl;have g2:=(e4 1 z rfl).2 rfl;exact .inr ⟨M,e2,.pi g1.1.1 g1.1.2 g2.1,yq.node (Eq.refl _) λi a b G H=>by
      match i,G,H with
      |0,G,H=>cases G;cases H;exact g1.2
      |1,G,H=>cases G;cases H;exact g2.2⟩
theorem HB(h:jA P gl j c Q)(i:∀d,Q d->e d):jA P gl j c e:=
 jT.mono h λo b k=>⟨k.1,k.2.elim λd hd=>⟨d,hd.1,i d hd.2⟩⟩
def SQ(c:Nat->List D)(t:ie)(Q:ie->Prop):Prop:=
 jA fC c 49 [t.d] λd=> ∃u:ie,d=u.d/\Q u
theorem DE(k m s z c)(hk:k=1\/k=5)(hl:c.length<=1000000)(Q:Nat->ie->Prop)(hQ:∀(i:Nat) x,c[i]? =some x->SQ F x (Q i)):
 SQ F (.mk k m s z c) λu=> ∃U,u=.mk k m s z U/\U.length=c.length/\∀(i:Nat) y,U[i]? =some y->Q i y:=by
 have hal:=ir c;unfold SQ;refine oN Tryz.func49 70 ?_;refine rF 18 ?_;refine iP 39 5 rfl<|pt 0 (ι:=Nat×List ie) (λ⟨i,U⟩=>[(4,int i),(3,.own 2 5 (im U))]) (λ⟨i,U⟩=>[tO k m s z c,zO,tR]) [2,1] (λ⟨i,U⟩=>i<=c.length/\U.length=i/\∀(j:Nat) y,U[j]? =some y->Q j y) (λ⟨i,U⟩=>c.length-i) ((0,[])) ([0,1,2]) ⟨ak _,rfl,λj y h=>by cases h⟩ ?_ (hM:=by exact oL (iU (j8 rfl (by exact Fit.nil rfl))));rintro⟨i,U⟩ b
 try dsimp only at b
 refine jq 10 ?_ ?_<;>intro h3
 .obtain ⟨kx,mx,sx,lx,ax,q⟩:=iZ (show i<c.length by omega);have C:=hQ i _ q;unfold SQ at C;have hytl:=ir U;have G:=b.2.1;refine ni 9 iQ iY ?_ (hat:=(jr q));refine wE 1 C λd hd=>?_;obtain⟨⟨H,I,J,M,R⟩,rfl,S⟩:=hd
  have V:im U++[[fD H,fD I,fG J,.sl 3 (iR M),.sl 5 (im R)]]=im (U++[.mk H I J M R]):=(by rw[ll];rfl);refine oR 0 mN [.tmp 21] jz ?_;refine oc (ya mN ?_);refine jS 6 ?_;refine rF 2 ?_;rw[V];refine ml 0 (i+1,U++[.mk H I J M R]) [0,1,2] ?_
  .refine ⟨⟨O,by rw[aN,b.2.1];rfl,λj y r=>?_⟩,show c.length-(i+1)<c.length-i by omega⟩;have i2:=b.2.1;rcases bV j i with hji|hji
   .rw [bl O] at r;exact b.2.2 j y r
   .rw [bA O] at r;have hj:j=i:=by
     have h3:=(aJ.1 r).1;simp only[aj,aH] at h3;omega
    subst hj;rw[i2,bL] at r;cases r;exact S
 have hi:i=c.length:=O;have G:=b.2.1;have W:=b.2.2;have Y:=uM (gl:=F) k m s z c U;obtain⟨kb,mb,sb,lb,ab,hb1⟩:∃kb mb sb lb ab,k=4->U[1]? =some (.mk kb mb sb lb ab):=⟨0,0,.empty,[],[],λe=>O⟩;have hk2:k∈[(1:Int),5]:=(by simpa using hk);clear hk;refine ny 9 Y ?_;refine' Cg 10 36 30 6 ?a1 ?_
 case a1=>
  intro hc hK;refine ni 2 iQ iY ?_ (hat:=(jr (hb1 hc)));refine rF 3 ?_;exact hK [_,_,_,_,_,_] rfl rfl
 refine j7 2 ?_ ?_<;>intro h7
 .exfalso;(exfalso;simp at hk2;omega)
 refine v8 8 ((ie.mk k m s z U).d) ?_;exact⟨_,rfl,U,rfl,O,W⟩
theorem DF(hS:S<=1000000000000):∀(n:Nat) (t:ie) (c:Int),HT C F S n t c->0<=c->c+n+S<=2000000000000->SQ gl t λu=>HT C F S n u (c+S)/\G0 t u:=by
 have e:∀(t:ie) (c:Int),Wt C F t c->t.size<=S->0<=c->c+S<=2000000000000->SQ gl t λu=>(Wt C F u (c+S)/\u.size<=S)/\G0 t u:=by
  intro t c h I G hz;obtain⟨k,m,s,ls,args,rfl⟩:=ie.case t
  refine HB (N7 (gl:=gl) _ k m s ls args c (ae _) O G O h) λd hd=>?_
  obtain⟨u,rfl,q,H,h3⟩:=hd;exact⟨u,rfl,⟨q.up O,O⟩,h3⟩
 have U:∀{t:ie} {Q M:ie->Prop},(∀ u,Q u->M u)->SQ gl t Q->SQ gl t M:=by
  intro t Q M hi h;refine HB h λd hd=>?_
  obtain⟨u,rfl,q⟩:=hd;exact⟨u,rfl,hi u q⟩
 intro n t c h
 induction h with
 |base h I=>intro G hz;exact U (λu j=>⟨.base j.1.1 j.1.2,j.2⟩) (e _ _ h I G O)
 |sort h=>
  intro G hz;refine U (λu j=>?_) (DE 1 0 .empty [_] [] (.inl rfl) (by simp) (λ_ _=>True) (λi x r=>by cases r));obtain⟨W,rfl,R,_⟩:=j;obtain rfl:=ch R;exact⟨.sort h,.rfl⟩
 | @pi n A B c hA I hB ih=>
  intro G hz;refine U (λu j=>?_) (DE 5 0 .empty [] [A,B] (.inr rfl) (by simp) (λi y=>(i=0->(Wt C F y (c+S)/\y.size<=S)/\G0 A y)/\(i=1->HT C F S n y (c+1+S)/\G0 B y)) (λi x r=>?_))
  .obtain ⟨W,rfl,R,J⟩:=j
   match W,R,J with
   |[y,z],_,J=>
    have V:=(J 0 y rfl).1 rfl;have Y:=(J 1 z rfl).2 rfl;exact⟨.pi V.1.1 V.1.2 (Y.1.up O),G0.node (Eq.refl _) λi a b q H=>by
     match i,q,H with
     |0,q,H=>cases q;cases H;exact V.2
     |1,q,H=>cases q;cases H;exact Y.2⟩
  .match i,r with
   |0,r=>cases r;exact U (λu j=>⟨λ_=>j,λh=>O⟩) (e _ _ hA I G O)
   |1,r=>cases r;exact U (λu j=>⟨λh=>O,λ_=>j⟩) (ih O O)
def EqP(w:Bool)(h:List iI)(i j:ie)(c:Out)(e:List Ob):Prop:=
 ∃(r:Bool) (code:Int) (b:Bool),c=.ret (.d (.jj [.v (.bool r),.v (.int .i64 code)]))/\e=[iD h b,iC]/\(code=0\/code=14)/\(code=0->b=false)/\(b=false->w=false)/\(code=0->r=true->yq h i j)
set_option maxHeartbeats 800000 in
theorem Bz{q:List iI}(W:ko q){ps:List fB}(hL:ps.length<=6){c:Int}(H:0<=c){e S n n2:Nat}(hm:e<=1000000)(w:Bool)(k m:Int)(s:fB)(I:List iq)(j:List ie)(J M:Int)(R:fB)(x:List iq)(i:List ie)(hz:c+n+S+30000*e<=1000000000000)(Y:c+n2+S+30000*e<=1000000000000)(hw:HT (jY q) ps S n (.mk k m s I j) c)(hw2:HT (jY q) ps S n2 (.mk J M R x i) c):
 jT fC gl 30 [iD q w,iC] [.jk 0 0,.d (ie.mk k m s I j).d,.d (ie.mk J M R x i).d,fE e] (EqP w q (.mk k m s I j) (.mk J M R x i)):=by
 have hn1:=FJ (gl:=gl) W (ps:=ps) hm n _ c hw H hz 0 0 w false O O O;refine nR Tryz.func30 41 2 ?_;refine uo 21 hn1 [0,1,4] ?_;rintro s ob' ⟨⟨k3,m3,s3,l3,a3⟩,d1,t1,w1,p1,⟨⟩,rfl,hd1,hd2,hp1,z,U⟩;unfold pB at z;rw[if_pos O] at z;have hn2:=FJ (gl:=gl) W (ps:=ps) hm n2 _ c hw2 H Y d1 p1 w1 t1 hd2 O O;refine uv ?_;refine uo 9 hn2 [0,1,4] ?_;rintro s ob' ⟨⟨k4,m4,s4,l4,a4⟩,d2,t2,V,p2,⟨⟩,rfl,hd3,hd4,hp3,hp4,b⟩;refine uv ?_;refine rV 12 32 28 4 ?_;refine jq 2 ?_ ?_<;>intro h4
 .refine jD 8 (.jj [fF false,fD 14]) [0,1] [iD q V,iC] ⟨false,14,V,rfl,rfl,.inr rfl,λh=>O,λh=>(U (b h).1).1,λh=>O⟩
 have hok:t2=false/\V=false:=(by cases t2<;>cases V<;>simp_all);obtain⟨rfl,rfl⟩:=hok;obtain⟨hw1,hr2⟩:=b rfl;obtain⟨hw0,hr1⟩:=U hw1;have y:t1=false/\HT (jY q) ps (S+30000*e) n2 (.mk k4 m4 s4 l4 a4) c/\yq q (.mk J M R x i) (.mk k4 m4 s4 l4 a4):=(by
  rcases hr2 with h|⟨_,h1,h2⟩
  .cases h
  .exact ⟨h1,h2⟩)
 have C:HT (jY q) ps (S+30000*e) n (.mk k3 m3 s3 l3 a3) c/\yq q (.mk k m s I j) (.mk k3 m3 s3 l3 a3):=(by
  rcases hr1 with h|⟨_,h1,h2⟩
  .rw [y.1] at h;cases h
  .exact h2)
 have F:=DF (gl:=gl) (show S+30000*e<=1000000000000 by omega) n _ c C.1 H O;have G:=DF (gl:=gl) (show S+30000*e<=1000000000000 by omega) n2 _ c y.2.1 H O;unfold SQ at F G;refine wE 5 F λd hd=>?_;obtain⟨⟨k5,m5,s5,l5,a5⟩,rfl,g1,y1⟩:=hd;refine wE 6 G λd hd=>?_;obtain⟨⟨k6,m6,s6,l6,a6⟩,rfl,g3,y2⟩:=hd;refine wE 7 (JL hL (λs n h=>aQ (W.sg h) O) k5 m5 s5 l5 a5 k6 m6 s6 l6 a6 g1.wt g3.wt) λd hd=>?_;obtain⟨r,rfl,hr5⟩:=hd
 refine jD 5 (.jj [fF r,fD 0]) [0,1] [iD q false,iC] ⟨r,0,false,rfl,rfl,.inl rfl,λ_=>rfl,λ_=>hw0,λ_ h=>((C.2.trans y1.cv).trans (hr5 h).cv).trans (y.2.2.trans y2.cv).symm⟩
def abm(w:Bool)(h:List iI)(i j:ie)(c:Out)(e:List Ob):Prop:=
 ∃(code:Int) (b:Bool),c=.ret (.d (.v (.int .i64 code)))/\e=[iD h b,iC]/\(code=0->b=false)/\(b=false->w=false)/\(code=0->yq h i j)
theorem CS{q:List iI}(R:ko q){G:List fB}(V:G.length<=6){c:Int}(W:0<=c){most S n n2:Nat}(Y:most<=1000000)(w:Bool)(k m:Int)(s:fB)(y:List iq)(i:List ie)(z C:Int)(F:fB)(j:List iq)(e:List ie)(hz:c+n+S+30000*most<=1000000000000)(H:c+n2+S+30000*most<=1000000000000)(hw:HT (jY q) G S n (.mk k m s y i) c)(I:HT (jY q) G S n2 (.mk z C F j e) c):
 jT fC gl 63 [iD q w,iC] [.jk 0 0,.d (ie.mk k m s y i).d,.d (ie.mk z C F j e).d,fE most] (abm w q (.mk k m s y i) (.mk z C F j e)):=by
 have J:=Bz (gl:=gl) R V W Y w k m s y i z C F j e hz H hw I;refine nR Tryz.func63 24 2 ?_;refine uo 13 J [0,1] ?_;rintro s ob' ⟨r,code,U,⟨⟩,rfl,h1',x,b,M⟩;refine uv ?_;refine jq 14 ?_ ?_<;>intro h2
 .refine jD 8 (fD code) [0,1] [iD q U,iC] ⟨code,U,rfl,rfl,x,b,λh=>absurd h O⟩
 refine jq 9 ?_ ?_<;>intro h4
 .refine jD 7 (fD 9) [0,1] [iD q U,iC] ⟨9,U,rfl,rfl,λh=>O,b,λh=>O⟩
 refine jD 8 (fD 0) [0,1] [iD q U,iC] ⟨0,U,rfl,rfl,λ_=>x O,b,λ_=>M O (by first|assumption|simp_all)⟩
end
section
open Go Go.Vd Go.RowKit
def Dl:Alg:=⟨λa b=>max a b,λa b=>max a (1+b),λa v b=>max (max a v) b,0,0⟩
def Zm:Alg:=⟨λa b=>1+a+b,λa b=>1+a+b,λa v b=>1+a+v+b,1,0⟩
def dep(t:ie):Nat:=zE Dl t λ_=>0
def NF(t:ie):Nat:=zE Zm t λ_=>0
theorem IX:qC 0 (λ_=>0)=λ_=>0:=by funext i;cases i<;>rfl
theorem Yk(m s c a e):dep (.mk 3 m s c [a,e])=max (dep a) (dep e):=by
 unfold dep;rw[zE];rfl
theorem WW(m s c a e):NF (.mk 3 m s c [a,e])=1+NF a+NF e:=by
 unfold NF;rw[zE];rfl
theorem Rq{k:Int}(e:k=4\/k=5)(m s c a h):dep (.mk k m s c [a,h])=max (dep a) (1+dep h):=by
 unfold dep;rw[zE,if_neg O,if_pos O];show max _ (1+zE Dl h (qC 0 _))=_;rw[IX]
theorem Qr{k:Int}(e:k=4\/k=5)(m s c a h):NF (.mk k m s c [a,h])=1+NF a+NF h:=by
 unfold NF;rw[zE,if_neg O,if_pos O];show 1+_+zE Zm h (qC 0 _)=_;rw[IX]
theorem Yl(m s c)(e:oD B' v)(h:oD B i):dep (.mk 6 m s c [a,v,i])=max (max (dep a) (dep v)) (dep (jJ i v)):=by
 unfold dep;rw[zE,if_neg O,if_pos O,TQ Dl e h];rfl
theorem WX(m s e)(h:oD c v)(i:oD B j):NF (.mk 6 m s e [a,v,j])=1+NF a+NF v+NF (jJ j v):=by
 unfold NF;rw[zE,if_neg O,if_pos O,TQ Zm h i];rfl
theorem V7:∀(n:Nat) (t:ie) (ρ:Nat->Nat) (M:Nat),t.size<=n->(∀ i,ρ i<=M)->zE Dl t ρ<=t.size+M:=by
 intro n
 induction n with
 |zero=>intro t ρ M h;obtain⟨k,m,s,ls,args,rfl⟩:=ie.case t;simp[ie.size] at h
 |succ n q=>
  intro t ρ M e U;have j:∀x,x<=M->∀i,qC x ρ i<=M:=λx z i=>by cases i with|zero=>exact z|succ i=>exact U i
  match t,e with
  | .mk k m s ls [a,b],e=>
   simp only[ie.size,ij] at e ⊢;rw[zE];have C:=q a ρ M O U;split
   .have:=U m.toNat;omega
   .split
    .have y:=q b (qC 0 ρ) M O (j 0 (ak _));show max (zE Dl a ρ) (1+zE Dl b (qC 0 ρ))<=_;omega
    .have y:=q b ρ M O U;show max (zE Dl a ρ) (zE Dl b ρ)<=_;omega
  | .mk k m s ls [a,v,b],e=>
   simp only[ie.size,ij] at e ⊢;rw[zE];have C:=q a ρ M O U;have y:=q v ρ M O U;split
   .have:=U m.toNat;omega
   .split
    .have F:=q b (qC (zE Dl v ρ) ρ) (v.size+M) O (λi=>by
      cases i with
      |zero=>exact y
      |succ i=>exact aQ (U i) O)
     show max (max (zE Dl a ρ) (zE Dl v ρ)) (zE Dl b (qC (zE Dl v ρ) ρ))<=_;omega
    .exact ak _
  | .mk k m s ls [],e=>simp only[zE];split;(have:=U m.toNat;omega);exact ak _
  | .mk k m s ls [a],e=>simp only[zE];split;(have:=U m.toNat;omega);exact ak _
  | .mk k m s ls (a::b::c::d::r),e=>simp only[zE];split;(have:=U m.toNat;omega);exact ak _
theorem y9(t):dep t<=t.size:=V7 _ t _ 0 (ae _) λ_=>ae _
mutual
theorem K5{sg:Sg}{ps:List fB}{v:ie}{c B:Int}(hc:0<=c)(hv:Wt sg ps v c):∀{t:ie} {d:Int},0<=d->c+d+t.size+v.size<=B->oD B t->oD B (ju (j6 v) t d)
 | .mk k n s ls args,d,hd,hB,h=>by
  simp only[ie.size] at hB;by_cases hk:k=0
  .subst hk;obtain⟨h0,h1,rfl,rfl,rfl⟩:=wm h rfl;rw[jL,j6];have hvar:∀i:Int,0<=i->i<=B->oD B (.mk 0 i .empty [] []):=λi h2 h3=>⟨λl hl=>(by cases hl),trivial,.inl ⟨rfl,⟨h2,h3⟩,rfl,rfl,rfl⟩⟩
   split
   .exact hvar _ O O
   .split
    .exact (hv.Y0 hd).sh (by rw[tt];simp only[iG,ij] at hB;omega)
    .exact hvar _ O O
  .rw [ju,if_neg hk];exact⟨h.1,HM hc hv hd O h.2.1,by rw[pN];exact h.2.2⟩
theorem HM{sg:Sg}{ps:List fB}{v:ie}{c B:Int}(hc:0<=c)(hv:Wt sg ps v c):∀{l:List ie} {b:Bool} {d:Int},0<=d->c+d+1+ij l+v.size<=B->CD B l->CD B (jm (j6 v) b l d)
 |[],b,d,_,_,_=>by simp[jm,CD]
 |t::r,b,d,hd,hB,h=>by
  simp only[ij] at hB;rw[jm];exact⟨K5 hc hv (by split<;>omega) (by split<;>omega) h.1,HM hc hv hd O h.2⟩
end
theorem QI(j:0<=c)(q:Wt e i v c)(r:c+s.size+v.size<=B)(h:oD B s):oD B (jJ s v):=K5 j q (aP _) O h
theorem Wt.Ve(i:Wt e h a c)(j:Wt e h v c)(q:Wt e h r (c+1)):Wt e h (.mk 6 0 .empty [] [a,v,r]) c:=by
 refine⟨λl k=>(by cases k),?_,.inr (.inr (.inr (.inr ⟨rfl,rfl,rfl,rfl,rfl⟩)))⟩;simp only[qF,dA,dB,dC,dD,bu,if_false,decide_eq_true_eq];exact⟨i,j,by rw[if_pos O];exact q,trivial⟩
theorem KT(C:ko c)(h:oM q c=some x):Wt (jY c) x.1 x.2 0/\x.1.length<=7/\x.2.size<=1099511627776:=by
 rcases k:iw q c with⟨i,e,j⟩;by_cases U:i=0
 .rw [NR k U] at h;cases h
 .have b:=C.AZ _ (n9 k U);have H:=b.ps;by_cases r:i=4
  .unfold oM at h;rw[k] at h;subst r;simp only at h;rw[if_neg Z,if_true] at h;obtain⟨F,G,rfl⟩:=bO.1 h;have s:=b.cs _ (aO G);exact⟨s.1,by show e.d.ps.length<=7;omega,by have:=s.2.1;show F.2.size<=_;omega⟩
  .by_cases y:i=5
   .rw [NO k y] at h;cases h;have z:e.d.k=3:=by
     rcases nY k U with h|h|h
     .have:=b.k;omega
     .omega
     .exact h.2
    exact⟨(b.rt z).1,b.rp,(b.rt z).2⟩
   .rw [xx k U r y] at h;cases h;exact⟨b.ty.1,by show e.d.ps.length<=7;omega,by have:=b.ty.2;show e.d.ty.size<=_;omega⟩
end
section
open Go Go.Vd Go.RowKit
open Go.Mt (E oO Cv Ty)
def cxE(I:fB->Option E)(c:List ie):Mt.Ctx:=Mt.yn (c.map (er I)) Mt.nul
def xu(e:List iI)(c:List ie)(t u:ie):Prop:=nS e->∀I G K,zl e I G K->Ty G K (cxE I c) (er I t) (er I u)
def YA(e:List iI)(c:List ie)(t:ie):Prop:=nS e->∀I G K,zl e I G K->Ty G K (cxE I c) (er I t) .nD
theorem VW:∀(l:List E) (n:Nat) (x:E),n<l.length->l[l.length-1-n]? =some x->Mt.yn l Mt.nul n=some (Mt.q9 (n+1) x):=by
 intro l
 induction l using Mt.Bl with
 |h0=>intro n x h;cases h
 |h1 l a k=>
  intro n x U b;rw[Mt.De];rw[aN,eE] at U b;cases n with
  |zero=>
   rw[bA O,show l.length+1-1-0-l.length=0 by omega] at b;cases b;rfl
  |succ n=>
   rw[bl O,show l.length+1-1-(n+1)=l.length-1-n by omega] at b;show(Mt.yn l Mt.nul n).map E.sh=_;rw[k n x O b];exact congrArg some (Mt.FZ (n+1) x)
theorem xu.conv{e:List iI}{c:List ie}{t u v:ie}(h:xu e c t u)(i:yq e u v):xu e c t v:=λb I G K U=>.conv (h b I G K U) (i b I G K U)
theorem YA.of(h:xu e c t u)(j:yq e u (.mk 1 0 s i [])):YA e c t:=λb I G K U=>.conv (h b I G K U) (j b I G K U)
theorem xu.var{h:List iI}{c:List ie}{n:Int}(q:0<=n){j:Nat}(r:(c.length:Int)-1-n=j){x:ie}(e:c[j]? =some x){B:Int}(i:oD B x):xu h c (.mk 0 n .empty [] []) (ju (mr (n+1) 0) x 0):=λs I G K k=>by
 have b:=zQ k.cl i (n.toNat+1);rw[mZ,show((n.toNat+1:Nat):Int)=n+1 by omega] at b;rw[b];have U:=(aJ.1 e).1;refine .var ?_;unfold cxE;refine VW _ _ _ (by rw[bc];omega) ?_;rw[bc,show c.length-1-n.toNat=j by omega,bt,e];rfl
theorem xu.sort(l h):xu e c (.mk 1 0 .empty l []) (.mk 1 0 .empty h []):=λb I G K k=>.nD
theorem xu.pz(h:oM s i=some x)(e)(j:oD B x.2):xu i c (.mk 2 0 s e []) (ld x.1 e x.2):=λk I G K b=>by
 rw[PG I _ _ _ j];exact b.ty h e _
theorem xu.app{e:List iI}{c:List ie}{C a F A B h:ie}(i:xu e c C F)(j:yq e F (.mk 5 0 .empty [] [A,B]))(q:xu e c a h)(r:yq e h A){s x:Int}(y:oD s B)(z:oD x a):xu e c (.mk 3 0 .empty [] [C,a]) (jJ B a):=λk I G K b=>by
 rw[Df b.cl y z];exact .app (.conv (i k I G K b) (j k I G K b)) (.conv (q k I G K b) (r k I G K b))
theorem Ru(I:fB->Option E)(c A):cxE I (c++[A])=Mt.ext (er I A) (cxE I c):=by
 unfold cxE;rw[bf,cD,Mt.De]
theorem xu.lam{e:List iI}{c:List ie}{A i B:ie}(h:xu e (c++[A]) i B):xu e c (.mk 4 0 .empty [] [A,i]) (.mk 5 0 .empty [] [A,B]):=λk I G K U=>by
 have:=h k I G K U;rw[Ru] at this;exact .lam this
theorem xu.pi{e:List iI}{c:List ie}{A B:ie}(h:YA e c A)(i:YA e (c++[A]) B)(l):xu e c (.mk 5 0 .empty [] [A,B]) (.mk 1 0 .empty l []):=λb I G K U=>by
 have:=i b I G K U;rw[Ru] at this;exact .pi (h b I G K U) this
theorem xu.Ve(q:oD i s)(r:oD j v)(h:xu e c (jJ s v) u):xu e c (.mk 6 0 .empty [] [A,v,s]) u:=λU I G K k=>by
 have:=h U I G K k;rw[Df k.cl q r] at this;exact this
end
section
open Go Go.Vd Go.RowKit
attribute [local irreducible] iK iL jI ik iW jH
def Cf(e:List iI)(h:List fB)(S:Nat)(c:List ie):Prop:= ∀(i:Nat) x,c[i]? =some x->Wt (jY e) h x i/\x.size<=S
def WJ(e:List iI)(j:List fB)(S:Nat)(c:List ie)(t:ie)(w:Bool)(h:Out)(i:List Ob):Prop:=
 ∃(u:ie) (code:Int) (b:Bool),h=.ret (.d (.jj [u.d,.v (.int .i64 code)]))/\i=[iD e b,iC]/\(b=false->w=false)/\(code=0->b=false/\Wt (jY e) j t c.length/\HT (jY e) j S (dep t) u c.length/\xu e c t u)
def Hx(gl:Nat->List D)(e:List iI)(h:List fB)(c S:Nat)(t:ie):Prop:=
 ∀(b:List ie) (w:Bool),Cf e h S b->b.length+dep t<=1000000->t.size<=S->oD 4398046511104 t->
  jT fC gl 36 [iD e w,iC] [.jk 0 0,.d (nU h),.d (.sl 5 (im b)),.d t.d,.d (.v (.int .i64 c))] (WJ e h S b t w)
def Ww(e:List iI)(j:List fB)(c:List ie)(t:ie)(w:Bool)(h:Out)(i:List Ob):Prop:=
 ∃(l:iq) (code:Int) (b:Bool),h=.ret (.d (.jj [l.d,.v (.int .i64 code)]))/\i=[iD e b,iC]/\(b=false->w=false)/\(code=0->b=false/\Wt (jY e) j t c.length/\qV j l/\YA e c t)
theorem ud(hE:ko j)(hm:e<=1000000)(hS:S<=1000000000)(k m s q c)(hI:Hx gl j y e S (.mk k m s q c))(i w)(r:Cf j y S i)(x:i.length+dep (.mk k m s q c)<=1000000)(hz:(ie.mk k m s q c).size<=S)(C:oD 4398046511104 (.mk k m s q c)):
 jT fC gl 60 [iD j w,iC] [.jk 0 0,.d (nU y),.d (.sl 5 (im i)),.d (ie.mk k m s q c).d,fE e] (Ww j y i (.mk k m s q c) w):=by
 have F:=hI i w r x hz C;refine nR Tryz.func60 49 2 ?_;refine uo 14 F [0,1] ?_;rintro s ob' ⟨⟨k1,m1,s1,l1,a1⟩,Y,w1,⟨⟩,rfl,b,G⟩;refine uv ?_;refine jq 15 ?_ ?_<;>intro h2
 .refine jD 10 (.jj [(iq.mk 0 .empty []).d,fD Y]) [0,1] [iD j w1,iC] ⟨.mk 0 .empty [],Y,w1,rfl,rfl,b,λh=>absurd h O⟩
 obtain⟨rfl,H,I,J⟩:=G O;have M:=DL (gl:=gl) hE (c6 _) hm false k1 m1 s1 l1 a1 O I;refine uo 7 M [0,1] ?_;rintro s ob' ⟨⟨k2,m2,s2,l2,a2⟩,d2,c2,z,⟨⟩,rfl,hq4,hq5,R⟩;refine uv ?_;refine jq 17 ?_ ?_<;>intro h5
 .refine jD 10 (.jj [(iq.mk 0 .empty []).d,fD c2]) [0,1] [iD j z,iC] ⟨.mk 0 .empty [],c2,z,rfl,rfl,λh=>b rfl,λh=>absurd h O⟩
 refine jq 10 ?_ ?_<;>intro h7
 .refine jD 9 (.jj [(iq.mk 0 .empty []).d,fD 10]) [0,1] [iD j z,iC] ⟨.mk 0 .empty [],10,z,rfl,rfl,λh=>b rfl,λh=>absurd h O⟩
 obtain⟨rfl,V,W⟩:=R O;obtain rfl:k2=1:=O;have U:=V.wt;obtain⟨rfl,rfl⟩:m2=0/\a2=[]:=(by
  rcases U.2.2 with h|h|h|h|h
  .omega
  .exact ⟨h.2.1,bE.1 h.2.2.2.2⟩
  .omega
  .omega
  .omega)
 obtain⟨⟨kl,sl,al⟩,rfl⟩:∃l,l2=[l]:=(by
  rcases U.2.2 with h|h|h|h|h
  .omega
  .exact fm.1 h.2.2.2.1
  .omega
  .omega
  .omega)
 refine ni 6 oz oP ?_ (hat:=rfl);refine jD 6 (.jj [(iq.mk kl sl al).d,fD 0]) [0,1] [iD j false,iC] ⟨.mk kl sl al,0,false,rfl,rfl,λh=>b rfl,λ_=>⟨rfl,H,U.1 _ bC,YA.of J W⟩⟩
set_option maxHeartbeats 800000 in
theorem Hm(hE:ko i){ps:List fB}(hL:ps.length<=6)(hm:e<=1000000)(hS:S<=1000000000/\20000<=S)(m s ls H I J M R x y z C F)(hI1:Hx gl i ps e S (.mk H I J M R))(hI2:Hx gl i ps e S (.mk x y z C F))(j w)(W:Cf i ps S j)(hlen:j.length+dep (.mk 3 m s ls [.mk H I J M R,.mk x y z C F])<=1000000)(hz:(ie.mk 3 m s ls [.mk H I J M R,.mk x y z C F]).size<=S)(q:oD 4398046511104 (.mk 3 m s ls [.mk H I J M R,.mk x y z C F])):
 jT fC gl 59 [iD i w,iC] [.jk 0 0,.d (nU ps),.d (.sl 5 (im j)),.d (ie.mk 3 m s ls [.mk H I J M R,.mk x y z C F]).d,fE e] (WJ i ps S j (.mk 3 m s ls [.mk H I J M R,.mk x y z C F]) w):=by
 have hdep:=Yk m s ls (.mk H I J M R) (.mk x y z C F);obtain⟨_,hm0,hs0,hl0,_⟩:(3:Int)=3/\m=0/\s=.empty/\ls=[]/\True:=(by
  rcases q.2.2 with h|h|h|h|h
  .omega
  .omega
  .omega
  .exact ⟨rfl,h.2.1,h.2.2.1,h.2.2.2.1,trivial⟩
  .omega)
 subst hm0 hs0 hl0;have hzz:1+((ie.mk H I J M R).size+((ie.mk x y z C F).size+0))<=S:=by simp only[ie.size,iG,ij] at hz ⊢;omega
 have hin1:=hI1 j w W O O q.2.1.1;generalize hT:ie.mk 3 0 .empty [] [.mk H I J M R,.mk x y z C F]=T at hdep hlen;have hTd:T.d=(ie.mk 3 0 .empty [] [.mk H I J M R,.mk x y z C F]).d:=by rw[hT]
 rw[hTd];refine nR Tryz.func59 94 2 ?_;refine ni 14 iQ iY ?_ (hat:=rfl);refine uo 2 hin1 [0,1] ?_;rintro s ob' ⟨⟨k3,m3,s3,l3,a3⟩,c1,w1,⟨⟩,rfl,b,hq3⟩;refine uv ?_;refine jq 15 ?_ ?_<;>intro h2
 .refine jD 10 (.jj [iu.d,fD c1]) [0,1] [iD i w1,iC] ⟨iu,c1,w1,rfl,rfl,b,λh=>absurd h O⟩
 obtain⟨rfl,Y,hHT1,hTy1⟩:=hq3 O;have hwh:=DL (gl:=gl) hE (c6 _) hm false k3 m3 s3 l3 a3 O hHT1;refine uo 7 hwh [0,1] ?_;rintro s ob' ⟨⟨kg,mg,sg',lg,ag⟩,d2,c2,w2,⟨⟩,rfl,hq4,hq5,hq6⟩;refine uv ?_;refine jq 17 ?_ ?_<;>intro h5
 .refine jD 10 (.jj [iu.d,fD c2]) [0,1] [iD i w2,iC] ⟨iu,c2,w2,rfl,rfl,λh=>b rfl,λh=>absurd h O⟩
 refine jq 10 ?_ ?_<;>intro V
 .refine jD 9 (.jj [iu.d,fD 8]) [0,1] [iD i w2,iC] ⟨iu,8,w2,rfl,rfl,λh=>b rfl,λh=>absurd h O⟩
 obtain⟨rfl,hH2,hcv2⟩:=hq6 O;obtain rfl:kg=5:=O;obtain⟨⟨kA,mA,sA,lA,aA⟩,⟨kB,mB,sB,lB,aB⟩,rfl,rfl,rfl,rfl,hAw,hAz,hBh⟩:=hH2.tx;have hin2:=hI2 j false W O O q.2.1.2.1;refine ni 9 iQ iY ?_ (hat:=rfl);refine uo 2 hin2 [0,1] ?_;rintro s ob' ⟨⟨k4,m4,s4,l4,a4⟩,c4,w4,⟨⟩,rfl,hq7,hq8⟩;refine uv ?_;refine jq 15 ?_ ?_<;>intro h10
 .refine jD 10 (.jj [iu.d,fD c4]) [0,1] [iD i w4,iC] ⟨iu,c4,w4,rfl,rfl,λh=>b rfl,λh=>absurd h O⟩
 obtain⟨rfl,U,hHT2,hTy2⟩:=hq8 O;have hmu:=CS (gl:=gl) hE hL (c:=(j.length:Int)) (c6 _) (most:=e) (S:=S+30000*e) (n:=dep (.mk x y z C F)) (n2:=0) hm false k4 m4 s4 l4 a4 kA mA sA lA aA O O (hHT2.mono O (ae _)) (.base hAw hAz);refine ma 3 [0,1,2,3] mixed ?_;refine pQ 4 iQ iY ?_ (hat:=rfl);refine ga [5,6] ?_;refine A2 7 rfl (iX adn rfl rfl rfl rfl (hmu) [0,1] (jN (oT .nil)) rfl rfl rfl rfl (jw (oq (oq (jw .nil)))) (λs ob' hq=>?_) (λs ob' hq=>?_));rotate_left
 .obtain ⟨_,_,k,_⟩:=hq;cases k
 obtain⟨c5,w5,k,rfl,hq9,hq10,hq11⟩:=hq;cases k;refine⟨_,_,_,_,_,rfl,rfl,rfl,rfl,rfl,?_⟩;refine ga [8] ?_;refine iB<|jq 8 ?_ ?_<;>intro h13
 .refine jD 10 (.jj [iu.d,fD c5]) [0,1] [iD i w5,iC] ⟨iu,c5,w5,rfl,rfl,λh=>b rfl,λh=>absurd h O⟩
 obtain rfl:=hq9 O;have hcv3:=hq11 O;have r:=hBh.wt;have hsu:=PD (gl:=gl) i false (B:=4398046511104) (B':=4398046511104) O O kB mB sB lB aB x y z C F (r.tS λs n h=>aQ (hE.sg h) O) O (λh=>r.sh O) q.2.1.2.1;refine ma 3 [0,1,2] mixed ?_;refine pQ 3 iQ iY ?_ (hat:=rfl);refine ga [4,5,6] ?_;refine pQ 7 iQ iY ?_ (hat:=rfl);refine ga [8] ?_;refine ki (rs:=[9,10]) gN rfl ⟨?_,?_,trivial⟩
 .skip
  refine A4 9 rfl (iX adm rfl rfl rfl rfl (hsu) [0,1] (jN (oT .nil)) rfl rfl rfl rfl (jw (oq (oq .nil))) (λs ob' hq=>?_) (λs ob' hq=>?_));rotate_left
  .obtain ⟨_,_,k,_⟩:=hq;cases k
  obtain⟨⟨k6,m6,s6,l6,a6⟩,w6,k,rfl,hw6⟩:=hq;cases k;refine⟨_,_,_,_,_,rfl,rfl,rfl,rfl,rfl,?_⟩;refine A2 10 rfl (AW jz ?_);refine nO 11 ?_;refine iB<|jq 10 ?_ ?_<;>intro G
  .refine jD 9 (.jj [iu.d,fD 14]) [0,1] [iD i w6,iC] ⟨iu,14,w6,rfl,rfl,λh=>b rfl,λh=>absurd h O⟩
  refine jD 10 (.jj [(ie.mk k6 m6 s6 l6 a6).d,fD 0]) [0,1] [iD i w6,iC] ?_
  .rcases hw6 with⟨rfl,_,V,h8⟩|⟨V,_⟩
   .refine ⟨.mk k6 m6 s6 l6 a6,0,false,rfl,rfl,λh=>b rfl,λ_=>⟨rfl,?_,.base ?_ O,?_⟩⟩
    .rw [<- hT];exact Wt.app Y U
    .rw [V];exact Wt.sub (c6 _) r U
    .rw [V,<-hT];obtain⟨bx,hbx⟩:=r.Fb;exact xu.app hTy1 hcv2 hTy2 hcv3 hbx q.2.1.2.1
   .exfalso;rw[V] at G;simp at G
 .skip
  refine A4 10 rfl (AW jz ?_);refine MZ 9 hsu [0,1] ?_;rintro s ob' ⟨⟨k6,m6,s6,l6,a6⟩,w6,⟨⟩,rfl,hw6⟩;refine Lg ?_;refine nO 11 ?_;refine iB<|jq 10 ?_ ?_<;>intro G
  .refine jD 9 (.jj [iu.d,fD 14]) [0,1] [iD i w6,iC] ⟨iu,14,w6,rfl,rfl,λh=>b rfl,λh=>absurd h O⟩
  refine jD 10 (.jj [(ie.mk k6 m6 s6 l6 a6).d,fD 0]) [0,1] [iD i w6,iC] ?_
  .rcases hw6 with⟨rfl,_,V,h8⟩|⟨V,_⟩
   .refine ⟨.mk k6 m6 s6 l6 a6,0,false,rfl,rfl,λh=>b rfl,λ_=>⟨rfl,?_,.base ?_ O,?_⟩⟩
    .rw [<- hT];exact Wt.app Y U
    .rw [V];exact Wt.sub (c6 _) r U
    .rw [V,<-hT];obtain⟨bx,hbx⟩:=r.Fb;exact xu.app hTy1 hcv2 hTy2 hcv3 hbx q.2.1.2.1
   .exfalso;rw[V] at G;simp at G
theorem Hj(hS:S<=1000000000)(n):Hx s r G c S (.mk 0 n .empty [] []):=by
 intro k w e C hz x;obtain⟨i,H,_⟩:=wm x rfl;have I:=ir k;refine nR Tryz.func36 285 2 ?_;refine jq 16 ?_ ?_<;>intro J
 .refine jD 9 (.jj [iu.d,fD 14]) [0,1] [iD r w,iC] ⟨iu,14,w,rfl,rfl,λh=>h,λh=>absurd h O⟩
 obtain rfl:=J;refine Eo 16 ?_;refine jq 10 ?_ ?_<;>intro h5
 .refine jD 11 (.jj [iu.d,fD 7]) [0,1] [iD r false,iC] ⟨iu,7,false,rfl,rfl,λh=>rfl,λh=>absurd h O⟩
 obtain⟨j,M⟩:∃j:Nat,((im k).length:Int)-1-n=j:=⟨((im k).length-1-n).toNat,O⟩;obtain⟨k2,y,s2,l2,a2,b⟩:=iZ (show j<k.length by omega);obtain⟨U,R⟩:=e _ _ b;have q:=rE (gl:=s) (n0:=n+1) (B:=4398046511104) O O _ k2 y s2 l2 a2 0 (ae _) (U.sh O) O O;obtain⟨V,W,Y,l3,a3,z⟩:=ie.case (ju (mr (n+1) 0) (.mk k2 y s2 l2 a2) 0)
 rw[z] at q;refine ma 3 [0,1,2] mixed ?_;refine A1 3 rfl (isu ⟨_,rfl,?_⟩);refine ga [4,5] ?_;refine A1 6 rfl (isu ⟨_,rfl,?_⟩);refine pQ 7 iQ iY ?_ (hat:=by rw[M];exact jr b);refine ga [8,9,10] ?_;refine A1 11 rfl (Mm ⟨_,rfl,?_⟩);refine qB 12 q ?_;refine nO 13 ?_;refine ga [14] ?_;refine iB<|jD 4 (.jj [(ie.mk V W Y l3 a3).d,fD 0]) [0,1] [iD r false,iC] ?_
 .have F:=U.lift (fr:=0) (m:=n+1) O (d:=0);have h9:=Cz (n+1) 0 (.mk k2 y s2 l2 a2) 0;rw[z] at F h9;refine⟨_,0,false,rfl,rfl,λh=>rfl,λ_=>⟨rfl,Wt.var i O,.base (F.up O) O,?_⟩⟩;rw[<- z];exact xu.var i O b (U.sh (B:=4398046511104) O)
theorem y4(hL:q.length<=6)(hS:S<=1000000000)(r s y):Hx C j q c S (.mk 1 0 .empty [.mk r s y] []):=by
 intro R w I J hz F;obtain⟨x,z,k⟩:=F.1 _ bC;have G:=x.nq;simp only[ie.size,iG,ij] at hz;have U:=Ai (gl:=C) x q (by rw[<- z] at G;omega) O;rw[<- z] at U;refine nR Tryz.func36 285 2 ?_;refine jq 16 ?_ ?_<;>intro V
 .refine jD 9 (.jj [iu.d,fD 14]) [0,1] [iD j w,iC] ⟨iu,14,w,rfl,rfl,λh=>h,λh=>absurd h O⟩
 obtain rfl:=V;refine vw 16 ?_;refine Eo 6 ?_;refine ni 4 oz oP ?_ (hat:=rfl);refine wE 2 U λd hd=>?_;obtain⟨b,rfl,M⟩:=hd;refine jq 10 ?_ ?_<;>intro W
 .refine jD 11 (.jj [iu.d,fD 5]) [0,1] [iD j false,iC] ⟨iu,5,false,rfl,rfl,λh=>rfl,λh=>absurd h O⟩
 refine ni 6 oz oP ?_ (hat:=rfl);refine oR 1 tr [.tmp 71] pC ?_;refine ny 1 (tJ 1 .empty [.mk r s y]) ?_;refine jD 7 (.jj [(ie.mk 1 0 .empty [.mk 1 .empty [.mk r s y]] []).d,fD 0]) [0,1] [iD j false,iC] ?_
 .have i:b=true:=(by cases b<;>simp_all);have H:qV q (.mk r s y):=⟨x,z,k,M i⟩;exact⟨_,0,false,rfl,rfl,λh=>rfl,λ_=>⟨rfl,Wt.sort H,.sort ⟨.succ x,by rw[z];rfl,⟨Z,Z,λe=>absurd e Z,k,trivial⟩,λp Y=>M i p Y⟩,xu.sort _ _⟩⟩
theorem El(J:ko c)(hL:I.length<=6)(hS:S<=1000000000/\20000<=S)(s j):Hx gl c I y S (.mk 2 0 s j []):=by
 intro ctx w hctx hlen hz M;have q:=KS (gl:=gl) c w s J.b J.k4;have hll:=jn j;have z:∀u∈j,u.size<=S:=λu R=>by
  obtain⟨i,hi⟩:=b7 R;have:=oA hi;simp only[ie.size] at hz;omega
 rcases C:oM s c with _|⟨F,⟨k3,m3,s3,l3,a3⟩⟩
 .rw [C] at q;refine nR Tryz.func36 285 2 ?_;refine jq 16 ?_ ?_<;>intro V
  .refine jD 9 (.jj [iu.d,fD 14]) [0,1] [iD c w,iC] ⟨iu,14,w,rfl,rfl,λh=>h,λh=>absurd h O⟩
  obtain rfl:=V;refine vw 16 ?_;refine vw 6 ?_;refine Eo 6 ?_;refine nC 5 q [0,1] ?_;refine Eo 17 ?_;refine jD 11 (.jj [iu.d,fD 4]) [0,1] [iD c false,iC] ⟨iu,4,false,rfl,rfl,λh=>rfl,λh=>absurd h O⟩
 .rw [C] at q;obtain⟨r,W,G⟩:=KT J C;simp only at r W G;have hpl:=jU F;refine nR Tryz.func36 285 2 ?_;refine jq 16 ?_ ?_<;>intro V
  .refine jD 9 (.jj [iu.d,fD 14]) [0,1] [iD c w,iC] ⟨iu,14,w,rfl,rfl,λh=>h,λh=>absurd h O⟩
  obtain rfl:=V;refine vw 16 ?_;refine vw 6 ?_;refine Eo 6 ?_;refine nC 5 q [0,1] ?_;refine vw 17 ?_;refine jq 13 ?_ ?_<;>intro h17
  .refine jD 11 (.jj [iu.d,fD 6]) [0,1] [iD c false,iC] ⟨iu,6,false,rfl,rfl,λh=>rfl,λh=>absurd h O⟩
  refine vq 9 (ι:=Nat) (λi=>[(16,int i)]) [13,14,10,8,0,1] (λi=>i<=j.length/\∀l∈j.take i,qV I l) (λi=>j.length-i) (0) ⟨ak _,by simp⟩ ?_;rintro i U
  try dsimp only at U
  refine jq 10 ?_ ?_<;>intro h20
  .obtain ⟨kx,sx,ax,k⟩:=kj (show i<j.length by omega);obtain⟨x,Y,hfx⟩:=M.1 _ (aO k);have hxs:=x.nq;have hxz:=z _ (aO k);have H:=Ai (gl:=gl) x I (by rw[<- Y] at hxs;omega) O;rw[<- Y] at H;refine ni 9 oz oP ?_ (hat:=(lj k));refine wE 2 H λd hd=>?_;obtain⟨b,rfl,hb⟩:=hd;refine j7 9 ?_ ?_<;>intro h23
   .refine jS 5 ?_;refine qX 2 (i+1) ?_
    .refine ⟨⟨O,λl hl=>?_⟩,O⟩;rw[bo,k] at hl;rcases bn.1 hl with hl|hl
     .exact U.2 l hl
     .simp only[dq,bF] at hl;subst hl;have hbt:b=true:=(by cases b<;>simp_all);exact⟨x,Y,hfx,hb hbt⟩
   refine jD 15 (.jj [iu.d,fD 5]) [0,1] [iD c false,iC] ⟨iu,5,false,rfl,rfl,λh=>rfl,λh=>absurd h O⟩
  have e:=U.2;rw[aS O] at e;have hlv:=zR (gl:=gl) c false F j O O (λu R=>by have:=z u R;omega) k3 m3 s3 l3 a3 G;refine uo 12 hlv [0,1] ?_;rintro s ob' ⟨⟨k6,m6,s6,l6,a6⟩,w6,⟨⟩,rfl,hw6⟩;refine uv ?_;refine jq 13 ?_ ?_<;>intro h26
  .refine jD 11 (.jj [iu.d,fD 14]) [0,1] [iD c w6,iC] ⟨iu,14,w6,rfl,rfl,λh=>rfl,λh=>absurd h O⟩
  refine jD 12 (.jj [(ie.mk k6 m6 s6 l6 a6).d,fD 0]) [0,1] [iD c w6,iC] ?_
  .rcases hw6 with⟨rfl,_,h7,h8⟩|⟨h7,_⟩
   .refine ⟨_,0,false,rfl,rfl,λh=>rfl,λ_=>⟨rfl,?_,.base ?_ O,?_⟩⟩
    .refine ⟨e,trivial,.inr (.inr (.inl ⟨rfl,rfl,?_,rfl⟩))⟩;unfold jY;rw[C];simp only[bH,an];omega
    .rw [h7];exact(Wt.Ny O e r).up (c6 _)
    .rw [h7];obtain⟨bx,hbx⟩:=r.Fb;exact xu.pz C j hbx
   .exfalso;simp_all
theorem Cf.app{e:List iI}{ps:List fB}{S:Nat}{c:List ie}{a:ie}(h:Cf e ps S c)(j:Wt (jY e) ps a c.length)(q:a.size<=S):Cf e ps S (c++[a]):=by
 intro i x b;rcases bV i c.length with hi|hi
 .rw [bl hi] at b;exact h i x b
 .rw [bA hi] at b;have k:=(aJ.1 b).1;simp only[aj,aH] at k;obtain rfl:i=c.length:=O;rw[bL] at b;cases b;exact⟨j,q⟩
theorem Ma(c:List ie)(a:ie):(c++[a]).length=c.length+1:=by simp
set_option maxHeartbeats 800000 in
theorem Hl(hE:ko z){ps:List fB}(hm:y<=1000000)(hS:S<=1000000000/\20000<=S)(i j q r x k2 m2 s2 l2 a2)(hI1:Hx Y z ps y S (.mk i j q r x))(hI2:Hx Y z ps y S (.mk k2 m2 s2 l2 a2)):Hx Y z ps y S (.mk 4 0 .empty [] [.mk i j q r x,.mk k2 m2 s2 l2 a2]):=by
 intro G w H hlen hz hsh;have hdep:=Rq (k:=4) (.inl rfl) 0 .empty [] (.mk i j q r x) (.mk k2 m2 s2 l2 a2);have hzz:1+((ie.mk i j q r x).size+((ie.mk k2 m2 s2 l2 a2).size+0))<=S:=by simp only[ie.size,iG,ij] at hz ⊢;omega
 have hl1:=Ma G (.mk i j q r x);have hex:=ua (gl:=Y) G i j q r x O;generalize hT:ie.mk 4 0 .empty [] [.mk i j q r x,.mk k2 m2 s2 l2 a2]=T at hdep hlen;have hTd:T.d=(ie.mk 4 0 .empty [] [.mk i j q r x,.mk k2 m2 s2 l2 a2]).d:=by rw[hT]
 rw[hTd];refine nR Tryz.func36 285 2 ?_;refine jq 16 ?_ ?_<;>intro h1
 .refine jD 9 (.jj [iu.d,fD 14]) [0,1] [iD z w,iC] ⟨iu,14,w,rfl,rfl,λh=>h,λh=>absurd h O⟩
 obtain rfl:=h1;refine vw 16 ?_;refine vw 6 ?_;refine vw 6 ?_;refine vw 6 ?_;refine Eo 6 ?_;have hso:=ud (gl:=Y) hE hm hS.1 i j q r x hI1 G false H O O hsh.2.1.1;refine ni 7 iQ iY ?_ (hat:=rfl);refine uo 2 hso [0,1] ?_;rintro s ob' ⟨⟨kl,sl,al⟩,c1,w1,⟨⟩,rfl,hq2,hq3⟩;refine uv ?_;refine jq 15 ?_ ?_<;>intro h33
 .refine jD 12 (.jj [iu.d,fD c1]) [0,1] [iD z w1,iC] ⟨iu,c1,w1,rfl,rfl,λh=>rfl,λh=>absurd h O⟩
 obtain⟨rfl,c,hlv,hSr1⟩:=hq3 O;have C:=hI2 (G++[.mk i j q r x]) false (H.app c O) O O hsh.2.1.2.1;refine ma 3 [0,1,2,3,4] mixed ?_;refine pQ 5 iQ iY ?_ (hat:=rfl);refine ga [6,8,9] ?_;refine pQ 10 iQ iY ?_ (hat:=rfl);refine ga [11,12] ?_;refine ki (rs:=[7,17]) gN rfl ⟨?_,?_,trivial⟩
 .skip
  refine A4 7 rfl (cv ado rfl rfl (hex) (jw (oq .nil)) ?_);refine ki (rs:=[13,17]) gN rfl ⟨?_,?_,trivial⟩
  .skip
   refine A4 13 rfl (iX Yu rfl rfl rfl rfl (C) [0,1] (jN (oT .nil)) rfl rfl rfl rfl (jw (jw (jw (oq (jw .nil))))) (λs ob' hq=>?_) (λs ob' hq=>?_));rotate_left
   .obtain ⟨_,_,_,hq1,_⟩:=hq;cases hq1
   obtain⟨⟨I,J,M,R,V⟩,W,w4,hq1,rfl,hq7,F⟩:=hq;cases hq1;refine⟨_,_,_,_,_,rfl,rfl,rfl,rfl,rfl,?_⟩;refine ga [14,15,16] ?_;refine A2 17 rfl (AW jz ?_);refine nO 18 ?_;refine ga [19] ?_;refine iB<|jq 8 ?_ ?_<;>intro h36
   .refine jD 12 (.jj [iu.d,fD W]) [0,1] [iD z w4,iC] ⟨iu,W,w4,rfl,rfl,λh=>rfl,λh=>absurd h O⟩
   refine ma 3 [0,1] mixed ?_;refine pQ 2 iQ iY ?_ (hat:=rfl);refine ga [3,4] ?_;refine qB 5 (BN i j q r x I J M R V) ?_;refine nO 6 ?_;refine ga [7] ?_;refine iB<|jD 4 (.jj [(ie.mk 5 0 .empty [] [.mk i j q r x,.mk I J M R V]).d,fD 0]) [0,1] [iD z w4,iC] ?_
   .obtain ⟨rfl,b,U,e⟩:=F O;rw[hl1] at b U;refine⟨_,0,false,rfl,rfl,λh=>rfl,λ_=>⟨rfl,?_,?_,by rw[<- hT];exact e.lam⟩⟩
    .rw [<- hT];exact Wt.bind (.inl rfl) c b
    .exact (HT.pi c O U).mono (ae _) O
  .skip
   refine A4 17 rfl (AW jz ?_);refine MZ 13 C [0,1] ?_;rintro s ob' ⟨⟨I,J,M,R,V⟩,W,w4,⟨⟩,rfl,hq7,F⟩;refine Lg ?_;refine ga [14,15,16] ?_;refine nO 18 ?_;refine ga [19] ?_;refine iB<|jq 8 ?_ ?_<;>intro h36
   .refine jD 12 (.jj [iu.d,fD W]) [0,1] [iD z w4,iC] ⟨iu,W,w4,rfl,rfl,λh=>rfl,λh=>absurd h O⟩
   refine ma 3 [0,1] mixed ?_;refine pQ 2 iQ iY ?_ (hat:=rfl);refine ga [3,4] ?_;refine qB 5 (BN i j q r x I J M R V) ?_;refine nO 6 ?_;refine ga [7] ?_;refine iB<|jD 4 (.jj [(ie.mk 5 0 .empty [] [.mk i j q r x,.mk I J M R V]).d,fD 0]) [0,1] [iD z w4,iC] ?_
   .obtain ⟨rfl,b,U,e⟩:=F O;rw[hl1] at b U;refine⟨_,0,false,rfl,rfl,λh=>rfl,λ_=>⟨rfl,?_,?_,by rw[<- hT];exact e.lam⟩⟩
    .rw [<- hT];exact Wt.bind (.inl rfl) c b
    .exact (HT.pi c O U).mono (ae _) O
 .skip
  refine A4 17 rfl (AW jz ?_);refine qB 7 hex ?_;refine MZ 13 C [0,1] ?_;rintro s ob' ⟨⟨I,J,M,R,V⟩,W,w4,⟨⟩,rfl,hq7,F⟩;refine Lg ?_;refine ga [14,15,16] ?_;refine nO 18 ?_;refine ga [19] ?_;refine iB<|jq 8 ?_ ?_<;>intro h36
  .refine jD 12 (.jj [iu.d,fD W]) [0,1] [iD z w4,iC] ⟨iu,W,w4,rfl,rfl,λh=>rfl,λh=>absurd h O⟩
  refine ma 3 [0,1] mixed ?_;refine pQ 2 iQ iY ?_ (hat:=rfl);refine ga [3,4] ?_;refine qB 5 (BN i j q r x I J M R V) ?_;refine nO 6 ?_;refine ga [7] ?_;refine iB<|jD 4 (.jj [(ie.mk 5 0 .empty [] [.mk i j q r x,.mk I J M R V]).d,fD 0]) [0,1] [iD z w4,iC] ?_
  .obtain ⟨rfl,b,U,e⟩:=F O;rw[hl1] at b U;refine⟨_,0,false,rfl,rfl,λh=>rfl,λ_=>⟨rfl,?_,?_,by rw[<- hT];exact e.lam⟩⟩
   .rw [<- hT];exact Wt.bind (.inl rfl) c b
   .exact (HT.pi c O U).mono (ae _) O
set_option maxHeartbeats 800000 in
theorem Kc(hE:ko r){ps:List fB}(hm:j<=1000000)(hS:S<=1000000000/\20000<=S)(M R V W Y k2 m2 s2 l2 a2)(hI1:Hx gl r ps j S (.mk M R V W Y))(hI2:Hx gl r ps j S (.mk k2 m2 s2 l2 a2)):Hx gl r ps j S (.mk 5 0 .empty [] [.mk M R V W Y,.mk k2 m2 s2 l2 a2]):=by
 intro ctx w hctx hlen hz hsh;have hdep:=Rq (k:=5) (.inr rfl) 0 .empty [] (.mk M R V W Y) (.mk k2 m2 s2 l2 a2);have hzz:1+((ie.mk M R V W Y).size+((ie.mk k2 m2 s2 l2 a2).size+0))<=S:=by simp only[ie.size,iG,ij] at hz ⊢;omega
 have hl1:=Ma ctx (.mk M R V W Y);have hex:=ua (gl:=gl) ctx M R V W Y O;generalize hT:ie.mk 5 0 .empty [] [.mk M R V W Y,.mk k2 m2 s2 l2 a2]=T at hdep hlen;have hTd:T.d=(ie.mk 5 0 .empty [] [.mk M R V W Y,.mk k2 m2 s2 l2 a2]).d:=by rw[hT]
 rw[hTd];refine nR Tryz.func36 285 2 ?_;refine jq 16 ?_ ?_<;>intro h1
 .refine jD 9 (.jj [iu.d,fD 14]) [0,1] [iD r w,iC] ⟨iu,14,w,rfl,rfl,λh=>h,λh=>absurd h O⟩
 obtain rfl:=h1;refine vw 16 ?_;refine vw 6 ?_;refine vw 6 ?_;refine vw 6 ?_;refine vw 6 ?_;refine Eo 6 ?_;have hso:=ud (gl:=gl) hE hm hS.1 M R V W Y hI1 ctx false hctx O O hsh.2.1.1;refine ni 7 iQ iY ?_ (hat:=rfl);refine uo 2 hso [0,1] ?_;rintro s ob' ⟨⟨kl,sl,al⟩,c1,w1,⟨⟩,rfl,hq2,hq3⟩;refine uv ?_;refine jq 15 ?_ ?_<;>intro h41
 .refine jD 12 (.jj [iu.d,fD c1]) [0,1] [iD r w1,iC] ⟨iu,c1,w1,rfl,rfl,λh=>rfl,λh=>absurd h O⟩
 obtain⟨rfl,q,hlv,z⟩:=hq3 O;have C:=ud (gl:=gl) hE hm hS.1 k2 m2 s2 l2 a2 hI2 (ctx++[.mk M R V W Y]) false (hctx.app q O) O O hsh.2.1.2.1;refine ma 3 [0,1,2,3,4] mixed ?_;refine pQ 5 iQ iY ?_ (hat:=rfl);refine ga [6,8,9] ?_;refine pQ 10 iQ iY ?_ (hat:=rfl);refine ga [11,12] ?_;refine ki (rs:=[7,17]) gN rfl ⟨?_,?_,trivial⟩
 .skip
  refine A4 7 rfl (cv ado rfl rfl (hex) (jw (oq .nil)) ?_);refine ki (rs:=[13,17]) gN rfl ⟨?_,?_,trivial⟩
  .skip
   refine A4 13 rfl (iX agf rfl rfl rfl rfl (C) [0,1] (jN (oT .nil)) rfl rfl rfl rfl (jw (jw (jw (oq (jw .nil))))) (λs ob' hq=>?_) (λs ob' hq=>?_));rotate_left
   .obtain ⟨_,_,_,hq1,_⟩:=hq;cases hq1
   obtain⟨⟨kr,U,ar⟩,c4,w4,hq1,rfl,hq7,F⟩:=hq;cases hq1;refine⟨_,_,_,_,_,rfl,rfl,rfl,rfl,rfl,?_⟩;refine ga [14,15,16] ?_;refine A2 17 rfl (AW pC ?_);refine nO 18 ?_;refine ga [19] ?_;refine iB<|jq 8 ?_ ?_<;>intro h44
   .refine jD 12 (.jj [iu.d,fD c4]) [0,1] [iD r w4,iC] ⟨iu,c4,w4,rfl,rfl,λh=>rfl,λh=>absurd h O⟩
   refine oR 6 tr [.tmp 218,.tmp 219] pC ?_;refine ny 1 (tJ 3 .empty [.mk kl sl al,.mk kr U ar]) ?_;refine jD 7 (.jj [(ie.mk 1 0 .empty [.mk 3 .empty [.mk kl sl al,.mk kr U ar]] []).d,fD 0]) [0,1] [iD r w4,iC] ?_
   .obtain ⟨rfl,b,c,i⟩:=F O;rw[hl1] at b;obtain⟨x,hx,G,H⟩:=hlv;obtain⟨y,hy,I,J⟩:=c;refine⟨_,0,false,rfl,rfl,λh=>rfl,λ_=>⟨rfl,?_,.sort ⟨.imax x y,by rw[hx,hy];rfl,⟨Z,Z,λe=>absurd e Z,G,I,trivial⟩,λp hp=>hp.elim (H p) (J p)⟩,?_⟩⟩
    .rw [<- hT];exact Wt.bind (.inr rfl) q b
    .rw [<- hT];exact xu.pi z i _
  .skip
   refine A4 17 rfl (AW pC ?_);refine MZ 13 C [0,1] ?_;rintro s ob' ⟨⟨kr,U,ar⟩,c4,w4,⟨⟩,rfl,hq7,F⟩;refine Lg ?_;refine ga [14,15,16] ?_;refine nO 18 ?_;refine ga [19] ?_;refine iB<|jq 8 ?_ ?_<;>intro h44
   .refine jD 12 (.jj [iu.d,fD c4]) [0,1] [iD r w4,iC] ⟨iu,c4,w4,rfl,rfl,λh=>rfl,λh=>absurd h O⟩
   refine oR 6 tr [.tmp 218,.tmp 219] pC ?_;refine ny 1 (tJ 3 .empty [.mk kl sl al,.mk kr U ar]) ?_;refine jD 7 (.jj [(ie.mk 1 0 .empty [.mk 3 .empty [.mk kl sl al,.mk kr U ar]] []).d,fD 0]) [0,1] [iD r w4,iC] ?_
   .obtain ⟨rfl,b,c,i⟩:=F O;rw[hl1] at b;obtain⟨x,hx,G,H⟩:=hlv;obtain⟨y,hy,I,J⟩:=c;refine⟨_,0,false,rfl,rfl,λh=>rfl,λ_=>⟨rfl,?_,.sort ⟨.imax x y,by rw[hx,hy];rfl,⟨Z,Z,λe=>absurd e Z,G,I,trivial⟩,λp hp=>hp.elim (H p) (J p)⟩,?_⟩⟩
    .rw [<- hT];exact Wt.bind (.inr rfl) q b
    .rw [<- hT];exact xu.pi z i _
 .skip
  refine A4 17 rfl (AW pC ?_);refine qB 7 hex ?_;refine MZ 13 C [0,1] ?_;rintro s ob' ⟨⟨kr,U,ar⟩,c4,w4,⟨⟩,rfl,hq7,F⟩;refine Lg ?_;refine ga [14,15,16] ?_;refine nO 18 ?_;refine ga [19] ?_;refine iB<|jq 8 ?_ ?_<;>intro h44
  .refine jD 12 (.jj [iu.d,fD c4]) [0,1] [iD r w4,iC] ⟨iu,c4,w4,rfl,rfl,λh=>rfl,λh=>absurd h O⟩
  refine oR 6 tr [.tmp 218,.tmp 219] pC ?_;refine ny 1 (tJ 3 .empty [.mk kl sl al,.mk kr U ar]) ?_;refine jD 7 (.jj [(ie.mk 1 0 .empty [.mk 3 .empty [.mk kl sl al,.mk kr U ar]] []).d,fD 0]) [0,1] [iD r w4,iC] ?_
  .obtain ⟨rfl,b,c,i⟩:=F O;rw[hl1] at b;obtain⟨x,hx,G,H⟩:=hlv;obtain⟨y,hy,I,J⟩:=c;refine⟨_,0,false,rfl,rfl,λh=>rfl,λ_=>⟨rfl,?_,.sort ⟨.imax x y,by rw[hx,hy];rfl,⟨Z,Z,λe=>absurd e Z,G,I,trivial⟩,λp hp=>hp.elim (H p) (J p)⟩,?_⟩⟩
   .rw [<- hT];exact Wt.bind (.inr rfl) q b
   .rw [<- hT];exact xu.pi z i _
set_option maxHeartbeats 1600000 in
theorem Hk(hE:ko q)(hL:y.length<=6)(hm:i<=1000000)(hS:S<=1000000000/\20000<=S)(k1 m1 s1 l1 a1 V W Y l2 a2 k3 m3 s3 l3 a3)(hI1:Hx F q y i S (.mk k1 m1 s1 l1 a1))(hI2:Hx F q y i S (.mk V W Y l2 a2))(hI3:Hx F q y i S (jJ (.mk k3 m3 s3 l3 a3) (.mk V W Y l2 a2))):Hx F q y i S (.mk 6 0 .empty [] [.mk k1 m1 s1 l1 a1,.mk V W Y l2 a2,.mk k3 m3 s3 l3 a3]):=by
 intro k w r hlen hz j;have hdep:=Yl 0 .empty [] (a:=.mk k1 m1 s1 l1 a1) j.2.1.2.1 j.2.1.2.2.1;have hzz:1+((ie.mk k1 m1 s1 l1 a1).size+((ie.mk V W Y l2 a2).size+((ie.mk k3 m3 s3 l3 a3).size+0)))<=S:=by simp only[ie.size,iG,ij] at hz ⊢;omega
 have hsu:=xi (gl:=F) q false (B:=4398046511104) (B':=4398046511104) O O k3 m3 s3 l3 a3 V W Y l2 a2 O O j.2.1.2.2.1 j.2.1.2.1;have hIw:Hx F q y i S tg:=y4 hL hS.1 0 .empty [];generalize hT:ie.mk 6 0 .empty [] [.mk k1 m1 s1 l1 a1,.mk V W Y l2 a2,.mk k3 m3 s3 l3 a3]=T at hdep hlen;have hTd:T.d=(ie.mk 6 0 .empty [] [.mk k1 m1 s1 l1 a1,.mk V W Y l2 a2,.mk k3 m3 s3 l3 a3]).d:=by rw[hT]
 rw[hTd];refine nR Tryz.func36 285 2 ?_;refine jq 16 ?_ ?_<;>intro h1
 .refine jD 9 (.jj [iu.d,fD 14]) [0,1] [iD q w,iC] ⟨iu,14,w,rfl,rfl,λh=>h,λh=>absurd h O⟩
 obtain rfl:=h1;refine vw 16 ?_;refine vw 6 ?_;refine vw 6 ?_;refine vw 6 ?_;refine vw 6 ?_;refine vw 6 ?_;have hso:=ud (gl:=F) hE hm hS.1 k1 m1 s1 l1 a1 hI1 k false r O O j.2.1.1;refine ni 10 iQ iY ?_ (hat:=rfl);refine uo 2 hso [0,1] ?_;rintro s ob' ⟨⟨kl,sl,al⟩,c1,w1,⟨⟩,rfl,hq2,hq3⟩;refine uv ?_;refine jq 15 ?_ ?_<;>intro h48
 .refine jD 10 (.jj [iu.d,fD c1]) [0,1] [iD q w1,iC] ⟨iu,c1,w1,rfl,rfl,λh=>rfl,λh=>absurd h O⟩
 obtain⟨rfl,H,hlv,hSr1⟩:=hq3 O;have hin2:=hI2 k false r O O j.2.1.2.1;refine ni 9 iQ iY ?_ (hat:=rfl);refine uo 2 hin2 [0,1] ?_;rintro s ob' ⟨⟨k4,m4,s4,l4,a4⟩,c4,w4,⟨⟩,rfl,hq7,hq8⟩;refine uv ?_;refine jq 15 ?_ ?_<;>intro h51
 .refine jD 10 (.jj [iu.d,fD c4]) [0,1] [iD q w4,iC] ⟨iu,c4,w4,rfl,rfl,λh=>rfl,λh=>absurd h O⟩
 obtain⟨rfl,C,hHT2,hTy2⟩:=hq8 O;have hmu:=CS (gl:=F) hE hL (c:=(k.length:Int)) (c6 _) (most:=i) (S:=S) (n:=dep (.mk V W Y l2 a2)) (n2:=0) hm false k4 m4 s4 l4 a4 k1 m1 s1 l1 a1 O O hHT2 (.base H O);refine ma 3 [0,1,2,3] mixed ?_;refine pQ 4 iQ iY ?_ (hat:=rfl);refine ga [5,6] ?_;refine A2 7 rfl (iX adn rfl rfl rfl rfl (hmu) [0,1] (jN (oT .nil)) rfl rfl rfl rfl (jw (oq (oq (jw .nil)))) (λs ob' z=>?_) (λs ob' z=>?_));rotate_left
 .obtain ⟨_,_,U,_⟩:=z;cases U
 obtain⟨c5,w5,U,rfl,hq9,hq10,hq12⟩:=z;cases U;refine⟨_,_,_,_,_,rfl,rfl,rfl,rfl,rfl,?_⟩;refine ga [8] ?_;refine iB<|jq 8 ?_ ?_<;>intro h54
 .refine jD 10 (.jj [iu.d,fD c5]) [0,1] [iD q w5,iC] ⟨iu,c5,w5,rfl,rfl,λh=>rfl,λh=>absurd h O⟩
 obtain rfl:=hq9 O;refine ma 3 [0,1,2] mixed ?_;refine pQ 3 iQ iY ?_ (hat:=rfl);refine ga [4,5,6] ?_;refine pQ 7 iQ iY ?_ (hat:=rfl);refine ga [8] ?_;refine ki (rs:=[9,10]) gN rfl ⟨?_,?_,trivial⟩
 .skip
  refine A4 9 rfl (iX adm rfl rfl rfl rfl (hsu) [0,1] (jN (oT .nil)) rfl rfl rfl rfl (jw (oq (oq .nil))) (λs ob' z=>?_) (λs ob' z=>?_));rotate_left
  .obtain ⟨_,_,U,_⟩:=z;cases U
  obtain⟨⟨k6,m6,s6,l6,a6⟩,w6,U,rfl,hw6⟩:=z;cases U;refine⟨_,_,_,_,_,rfl,rfl,rfl,rfl,rfl,?_⟩;refine A2 10 rfl (AW jz ?_);refine nO 11 ?_;refine iB<|rF 2 ?_;skip;have I:jT fC F 36 [iD q w6,iC] [.jk 0 0,.d (nU y),.d (.sl 5 (im k)),.d (ie.mk k6 m6 s6 l6 a6).d,fE i] (λout ob'=> ∃(u:ie) (code:Int) (G:Bool),out=.ret (.d (.jj [u.d,fD code]))/\ob'=[iD q G,iC]/\(code=0->G=false/\Wt (jY q) y (ie.mk k3 m3 s3 l3 a3) (k.length+1)/\HT (jY q) y S (dep T) u k.length/\xu q k (jJ (.mk k3 m3 s3 l3 a3) (.mk V W Y l2 a2)) u)):=by
   rcases hw6 with⟨rfl,_,h7,h8⟩|⟨rfl,h7⟩
   .rw [h7] at h8 ⊢;refine(hI3 k false r O O (QI (c6 _) C O j.2.1.2.2.1)).mono λo b hh=>?_;obtain⟨u,code,G,J,M,r3,x⟩:=hh
    exact⟨u,code,G,J,M,λe=>⟨(x e).1,Wt.YN (c6 _) j.2.1.2.2.1 (x e).2.1,(x e).2.2.1.mono (ae _) O,(x e).2.2.2⟩⟩
   .rw [h7];refine(hIw k true r (by have:dep tg=0:=rfl;omega) (by have:tg.size=2:=rfl;omega) (Wt.sh (EU (sg:=jY q) (ps:=y) (c:=0)) (by have:tg.size=2:=rfl;omega))).mono λo b hh=>?_
    obtain⟨u,code,G,J,M,r3,x⟩:=hh;exact⟨u,code,G,J,M,λe=>absurd (r3 (x e).1) Z⟩
  refine rF 6 ?_;refine oc (iX Yu rfl rfl rfl rfl (I) [0,1] (jN (oT .nil)) rfl rfl rfl rfl (jw (jw (jw (oq (jw .nil))))) (λs ob' z=>?_) (λs ob' z=>?_));rotate_left
  .obtain ⟨_,_,_,U,_⟩:=z;cases U
  obtain⟨⟨k8,m8,s8,l8,a8⟩,c8,w8,U,rfl,R⟩:=z;cases U;refine⟨_,_,_,_,_,rfl,rfl,rfl,rfl,rfl,?_⟩;refine jD 7 (.jj [(ie.mk k8 m8 s8 l8 a8).d,fD c8]) [0,1] [iD q w8,iC] ?_
  .refine ⟨_,c8,w8,rfl,rfl,λh=>rfl,λe=>?_⟩;obtain⟨J,M,r3,x⟩:=R e;refine⟨J,?_,r3,?_⟩
   .rw [<- hT];exact Wt.Ve H C M
   .rw [<- hT];exact xu.Ve j.2.1.2.2.1 j.2.1.2.1 x
 .skip
  refine A4 10 rfl (AW jz ?_);refine MZ 9 hsu [0,1] ?_;rintro s ob' ⟨⟨k6,m6,s6,l6,a6⟩,w6,⟨⟩,rfl,hw6⟩;refine Lg ?_;refine nO 11 ?_;refine iB<|rF 2 ?_;skip;have I:jT fC F 36 [iD q w6,iC] [.jk 0 0,.d (nU y),.d (.sl 5 (im k)),.d (ie.mk k6 m6 s6 l6 a6).d,fE i] (λout ob'=> ∃(u:ie) (code:Int) (G:Bool),out=.ret (.d (.jj [u.d,fD code]))/\ob'=[iD q G,iC]/\(code=0->G=false/\Wt (jY q) y (ie.mk k3 m3 s3 l3 a3) (k.length+1)/\HT (jY q) y S (dep T) u k.length/\xu q k (jJ (.mk k3 m3 s3 l3 a3) (.mk V W Y l2 a2)) u)):=by
   rcases hw6 with⟨rfl,_,h7,h8⟩|⟨rfl,h7⟩
   .rw [h7] at h8 ⊢;refine(hI3 k false r O O (QI (c6 _) C O j.2.1.2.2.1)).mono λo b hh=>?_;obtain⟨u,code,G,J,M,r3,x⟩:=hh
    exact⟨u,code,G,J,M,λe=>⟨(x e).1,Wt.YN (c6 _) j.2.1.2.2.1 (x e).2.1,(x e).2.2.1.mono (ae _) O,(x e).2.2.2⟩⟩
   .rw [h7];refine(hIw k true r (by have:dep tg=0:=rfl;omega) (by have:tg.size=2:=rfl;omega) (Wt.sh (EU (sg:=jY q) (ps:=y) (c:=0)) (by have:tg.size=2:=rfl;omega))).mono λo b hh=>?_
    obtain⟨u,code,G,J,M,r3,x⟩:=hh;exact⟨u,code,G,J,M,λe=>absurd (r3 (x e).1) Z⟩
  refine rF 6 ?_;refine oc (iX Yu rfl rfl rfl rfl (I) [0,1] (jN (oT .nil)) rfl rfl rfl rfl (jw (jw (jw (oq (jw .nil))))) (λs ob' z=>?_) (λs ob' z=>?_));rotate_left
  .obtain ⟨_,_,_,U,_⟩:=z;cases U
  obtain⟨⟨k8,m8,s8,l8,a8⟩,c8,w8,U,rfl,R⟩:=z;cases U;refine⟨_,_,_,_,_,rfl,rfl,rfl,rfl,rfl,?_⟩;refine jD 7 (.jj [(ie.mk k8 m8 s8 l8 a8).d,fD c8]) [0,1] [iD q w8,iC] ?_
  .refine ⟨_,c8,w8,rfl,rfl,λh=>rfl,λe=>?_⟩;obtain⟨J,M,r3,x⟩:=R e;refine⟨J,?_,r3,?_⟩
   .rw [<- hT];exact Wt.Ve H C M
   .rw [<- hT];exact xu.Ve j.2.1.2.2.1 j.2.1.2.1 x
theorem Gj(hE:ko e)(hL:i.length<=6)(hm:c<=1000000)(hS:S<=1000000000/\20000<=S)(j q r x y z C F G H)(I:Hx gl e i c S (.mk j q r x y))(J:Hx gl e i c S (.mk z C F G H)):Hx gl e i c S (.mk 3 0 .empty [] [.mk j q r x y,.mk z C F G H]):=by
 intro U w b k hz M;have R:=Hm (gl:=gl) hE hL hm hS 0 .empty [] j q r x y z C F G H I J U false b k hz M;refine nR Tryz.func36 285 2 ?_;refine jq 16 ?_ ?_<;>intro h1
 .refine jD 9 (.jj [iu.d,fD 14]) [0,1] [iD e w,iC] ⟨iu,14,w,rfl,rfl,λh=>h,λh=>absurd h O⟩
 obtain rfl:=h1;refine vw 16 ?_;refine vw 6 ?_;refine vw 6 ?_;refine Eo 6 ?_;refine uo 7 R [0,1] ?_;rintro s ob' ⟨⟨k3,m3,s3,l3,a3⟩,Y,w1,⟨⟩,rfl,V,W⟩;refine uv ?_;refine jD 9 (.jj [(ie.mk k3 m3 s3 l3 a3).d,fD Y]) [0,1] [iD e w1,iC] ⟨_,Y,w1,rfl,rfl,V,W⟩
theorem AJ(q:ko C){ps:List fB}(x:ps.length<=6)(y:most<=1000000)(j:S<=1000000000/\20000<=S):∀(n:Nat) (t:ie),NF t<n->Hx gl C ps most S t:=by
 intro n
 induction n with
 |zero=>intro t h;omega
 |succ n i=>
  intro t J e w b U hz c;obtain⟨k,m,s,ls,args,rfl⟩:=ie.case t
  rcases c.2.2 with h|h|h|h|h
  .obtain ⟨rfl,_,rfl,rfl,ha⟩:=h;obtain rfl:=bE.1 ha;exact Hj j.1 m e w b U hz c
  .obtain ⟨rfl,rfl,rfl,F,ha⟩:=h;obtain rfl:=bE.1 ha;obtain⟨⟨G,sl,H⟩,rfl⟩:=fm.1 F;exact y4 x j.1 G sl H e w b U hz c
  .obtain ⟨rfl,rfl,_,ha⟩:=h;obtain rfl:=bE.1 ha;exact El q x j s ls e w b U hz c
  .obtain ⟨I,rfl,rfl,rfl,ha⟩:=h
   match args,ha with
   |[⟨k1,r,s1,l1,a1⟩,⟨k2,z,s2,l2,a2⟩],_=>
    rcases I with rfl|rfl|rfl
    .have hw:=WW 0 .empty [] (.mk k1 r s1 l1 a1) (.mk k2 z s2 l2 a2);exact Gj q x y j _ _ _ _ _ _ _ _ _ _ (i _ O) (i _ O) e w b U hz c
    .have hw:=Qr (k:=4) (.inl rfl) 0 .empty [] (.mk k1 r s1 l1 a1) (.mk k2 z s2 l2 a2);exact Hl q y j _ _ _ _ _ _ _ _ _ _ (i _ O) (i _ O) e w b U hz c
    .have hw:=Qr (k:=5) (.inr rfl) 0 .empty [] (.mk k1 r s1 l1 a1) (.mk k2 z s2 l2 a2);exact Kc q y j _ _ _ _ _ _ _ _ _ _ (i _ O) (i _ O) e w b U hz c
  .obtain ⟨rfl,rfl,rfl,rfl,ha⟩:=h
   match args,ha with
   |[⟨k1,r,s1,l1,a1⟩,⟨k2,z,s2,l2,a2⟩,⟨M,R,V,W,Y⟩],_=>
    have hw:=WX 0 .empty [] (a:=.mk k1 r s1 l1 a1) c.2.1.2.1 c.2.1.2.2.1;exact Hk q x y j _ _ _ _ _ _ _ _ _ _ _ _ _ _ _ (i _ O) (i _ O) (i _ O) e w b U hz c
theorem rY{r:List iI}(z:ko r){x:List fB}(G:x.length<=6){h S:Nat}(C:h<=1000000)(F:S<=1000000000/\20000<=S)(I m:Int)(s:fB)(i:List iq)(c:List ie)(e:List ie)(w:Bool)(j:Cf r x S e)(q:e.length+dep (.mk I m s i c)<=1000000)(H:(ie.mk I m s i c).size<=S)(y:oD 4398046511104 (.mk I m s i c)):
 jT fC gl 60 [iD r w,iC] [.jk 0 0,.d (nU x),.d (.sl 5 (im e)),.d (ie.mk I m s i c).d,fE h] (Ww r x e (.mk I m s i c) w):=
 ud z C F.1 I m s i c (AJ z G C F _ _ (dI _)) e w j q H y
def ZG(p m:Nat)(c:Int)(t:ie):Prop:=(ig t).2.length=p+m/\∀(j:Nat) a,j<p->(ig t).2[j]? =some a->∃s ls ar,a=.mk 0 (c-1-j) s ls ar
def Lq(c:fB)(p m e:Nat)(a:ie):Prop:=nP (rW c) a 0=true->ZG p m ((e:Int)+iv a) (jQ (iv a) a)
def abo(i:List iI)(h:fB)(p:Int)(m j:Nat)(a:ie)(w:Bool)(c:Out)(e:List Ob):Prop:=
 ∃(code:Int) (b:Bool),c=.ret (.d (.v (.int .i64 code)))/\e=[iD i b,iC]/\(b=false->w=false)/\(code=0->Ox h p a/\Lq h p.toNat m j a)
set_option maxHeartbeats 800000 in
theorem Hu{r:List iI}(hE:ko r)(x:RD)(hL:x.pd.length<=6)(hx:0<=x.ad/\x.ad<=1000000000){C S:Nat}(hm:C<=1000000)(hS:S<=1000000000/\20000<=S)(k n:Int)(s:fB)(e:List iq)(c:List ie)(q:List ie)(w:Bool)(J:Cf r x.pd S q)(hlen:q.length+(ie.mk k n s e c).size<=1000000)(hz:(ie.mk k n s e c).size<=S)(hw:Wt (jY r) x.pd (.mk k n s e c) q.length)(m:Nat)(hmm:m<=1000000000)(M:Int)(R:fB)(V:List iq)(W:qV x.pd (.mk M R V)):
 jT fC gl 171 [iD r w,iC] [.jk 0 0,.d x.dec.d,.d (ie.mk k n s e c).d,.d (.sl 5 (im q)),fE m,.d (iq.mk M R V).d,fE C] (abo r x.sd x.ad m q.length (.mk k n s e c) w):=by
 have hdl:=y9 (.mk k n s e c);have Y:=hw.sh (B:=4398046511104) O;have F:=uQ (gl:=gl) x.sd _ k n s e c (ae _) O;have hpi:=se (gl:=gl) k n s e c Y O;have hpz:=nE _ (.mk k n s e c) (ae _);have hso:=rY (gl:=gl) hE hL hm hS k n s e c q w J O hz Y;have halw:=zj (gl:=gl) hL M R V W;have hcl:=ir q;obtain⟨lw,hlw,hlf,hlp⟩:=id W;generalize hA:nP (rW x.sd) (.mk k n s e c) 0=A at F;refine nR Tryz.func171 81 2 ?_;refine ny 13 F ?_;refine rF 9 ?_;refine xo (ι:=Unit) (λ_=>[]) (λ_=>[iD r w,iC,Dm x,tO k n s e c,lO M R V]) [12,9,8,0,3,6] (λ_=>Ox x.sd x.ad (.mk k n s e c)/\Lq x.sd x.ad.toNat m q.length (.mk k n s e c)) rfl ?_ ?_
 .refine j7 0 ?_ ?_<;>intro h2
  .refine ml 1 () [0,1,2,3,4] ?_;refine⟨λh=>?_,λh=>?_⟩<;>(rw[hA] at h;subst h;simp at h2)
  refine ny 3 hpi ?_;refine pt 17 (ι:=Nat×Int×Int×fB×List iq×List ie) (λ⟨i,k1,H,s1,l1,a1⟩=>[(18,int i)]) (λ⟨i,k1,H,s1,l1,a1⟩=>[iD r w,iC,Dm x,tO k n s e c,lO M R V,tO k1 H s1 l1 a1]) [17,16,12,9,8,0,3,4,6] (λ⟨i,k1,H,s1,l1,a1⟩=>i<=iv (.mk k n s e c)/\ie.mk k1 H s1 l1 a1=jQ i (.mk k n s e c)) (λ⟨i,k1,H,s1,l1,a1⟩=>iv (.mk k n s e c)-i) ((0,k,n,s,e,c)) ([0,1,2,3,4,5]) ⟨ak _,rfl⟩ ?_;rintro⟨i,k1,H,s1,l1,a1⟩ U
  try dsimp only at U
  refine j7 8 ?_ ?_<;>intro h6
  .obtain rfl:i=iv (.mk k n s e c):=O;have z:=nj (iv (.mk k n s e c)) (.mk k n s e c);have hwe:=(hw.yN _ (ae _)).1;rw[<- U.2] at z hwe;have hre:=DJ (gl:=gl) x k1 H s1 l1 a1 m (((im q).length:Int)+(iv (.mk k n s e c):Nat)) (hwe.spine _ (ae _)).1 O O hx O O;refine jS 13 ?_;refine wE 0 hre λd hd=>?_;obtain⟨b,rfl,hb⟩:=hd;refine jq 9 ?_ ?_<;>intro h13
   .refine jD 7 (fD 12) [0,1] [iD r w,iC] ⟨12,w,rfl,rfl,λh=>h,λh=>absurd h O⟩
   refine ml 1 () [0,1,2,3,4] ?_
   .obtain ⟨n',ls',ar,e1,e2,e3⟩:=hb (by revert h13;cases b<;>simp);rw[U.2] at e1 e2 e3;refine⟨λ_=>⟨n',ls',ar,e1,O⟩,λ_=>⟨O,λj a hj ha=>?_⟩⟩;have:=e3 j a O ha
    rwa [hcl] at this
  obtain⟨m5,s5,l5,⟨kX,mX,sX,lX,aX⟩,⟨kY,mY,sY,lY,aY⟩,g1,g2,g3,g4⟩:=oX i _ (show i<iv (.mk k n s e c) by omega);have z:=nj (i+1) (.mk k n s e c);rw[g3,mS] at z;simp only[ij] at z;rw[<- U.2] at g1;refine rF 5 ?_;cases g1;have hsX:(ie.mk kX mX sX lX aX).size<=1099511627776:=O;have hhX:=uQ (gl:=gl) x.sd _ kX mX sX lX aX (ae _) hsX;generalize hB:nP (rW x.sd) (.mk kX mX sX lX aX) 0=B at hhX;refine ma 0 [0,1] mixed ?_;refine pQ 2 iQ iY ?_ (hat:=rfl);refine ga [3,4,5] ?_;refine qB 6 hhX ?_;refine ga [7] ?_;refine iB<|jq 7 ?_ ?_<;>intro h9
  .refine jD 13 (fD 12) [0,1] [iD r w,iC] ⟨12,w,rfl,rfl,λh=>h,λh=>absurd h O⟩
  refine ni 5 iQ iY ?_ (hat:=rfl);refine jS 7 ?_;refine ml 2 (i+1,kY,mY,sY,lY,aY) [0,1,2,3,4,5] ?_;exact⟨⟨O,g2.symm⟩,show _-(i+1)<_-i by omega⟩
 .rintro _ y
  try dsimp only at y
  refine wE 3 halw λd hd=>?_;obtain⟨b2,rfl⟩:=hd;refine jq 9 ?_ ?_<;>intro h16
  .refine jD 7 (fD 0) [0,1] [iD r w,iC] ⟨0,w,rfl,rfl,λh=>h,λ_=>y⟩
  refine uo 10 hso [0,1] ?_;rintro s ob' ⟨⟨kr,sr',ar'⟩,code,w1,⟨⟩,rfl,I,hq3⟩;refine uv ?_;refine jq 15 ?_ ?_<;>intro h19
  .refine jD 8 (fD code) [0,1] [iD r w1,iC] ⟨code,w1,rfl,rfl,I,λh=>absurd h h19⟩
  obtain rfl:code=0:=O;obtain⟨rfl,hWt,⟨lv,hv,hvf,hvp⟩,_⟩:=hq3 rfl;have G:=vd (gl:=gl) lv lw (Bt hL hvp hlp);rw[<- hv,<-hlw] at G;refine wE 6 G λd hd=>?_;obtain⟨b3,rfl⟩:=hd;refine jq 10 ?_ ?_<;>intro h22
  .refine jD 7 (fD 13) [0,1] [iD r false,iC] ⟨13,false,rfl,rfl,I,λh=>absurd h O⟩
  refine jD 8 (fD 0) [0,1] [iD r false,iC] ⟨0,false,rfl,rfl,I,λ_=>y⟩
structure CtF (es:List iI) (nm:fB) (p m:Nat) (ty t:ie):Prop where
 sr:YA es [] t
 cv:∀(j:Nat) A B,j<p->(lQ p ty)[j]? =some A->(lQ p t)[j]? =some B->yq es A B
 hd:∃n ls ar,(ig (jQ (iv t) t)).1=.mk 2 n nm ls ar
 res:ZG p m (iv t) (jQ (iv t) t)
 pos:∀(i:Nat) a,p<=i->(lQ (iv t) t)[i]? =some a->Lq nm p m i a
def abl(c:List iI)(j:List fB)(i:fB)(p m:Nat)(q t:ie)(w:Bool)(e:Out)(h:List Ob):Prop:=
 ∃(code:Int) (b:Bool),e=.ret (.d (.v (.int .i64 code)))/\h=[iD c b,iC]/\(b=false->w=false)/\(code=0->Wt (jY c) j t 0/\p<=iv t/\G7 i p t/\CtF c i p m q t)
theorem Rw(h:Wt (jY c) e t 0)(q:i<=iv t)(r:t.size<=S):Cf c e S (lQ i t):=by
 intro j y b;have k:=(h.yN i q).2 j y b;have U:=nj i t;have s:=iO b;exact⟨by simpa using k,O⟩
set_option maxHeartbeats 1600000 in
theorem Tp{F:List iI}(hE:ko F)(x:RD)(hL:x.pd.length<=6)(p:Nat)(hx:x.ad=p){most S:Nat}(hm:most<=1000000)(hS:S<=900000/\20000<=S)(m:Nat)(hw1:Wt (jY F) x.pd (.mk x.k1 x.n1 x.s1 x.l1 x.a1) 0)(hz1:(ie.mk x.k1 x.n1 x.s1 x.l1 x.a1).size<=S)(hpm:iv (.mk x.k1 x.n1 x.s1 x.l1 x.a1)=p+m)(nm:fB)(k n:Int)(s:fB)(q:List iq)(e:List ie)(w:Bool)(hz:(ie.mk k n s q e).size<=S)(hsh:oD 4398046511104 (.mk k n s q e))(kl:Int)(sl:fB)(al:List iq)(hlv:qV x.pd (.mk kl sl al)):
 jT fC gl 165 [iD F w,iC] [.jk 0 0,.d x.dec.d,.d (.agg (fG nm::(ie.mk k n s q e).cells)),fE m,.d (iq.mk kl sl al).d,fE most] (abl F x.pd x.sd p m (.mk x.k1 x.n1 x.s1 x.l1 x.a1) (.mk k n s q e) w):=by
 have hdl:=y9 (.mk k n s q e);have hpi:=se (gl:=gl) k n s q e hsh O;have hpz:=nE _ (.mk k n s q e) (ae _);have hpz1:=nE _ (.mk x.k1 x.n1 x.s1 x.l1 x.a1) (ae _);have hso:=rY (gl:=gl) hE hL hm O k n s q e [] w (λi y hy=>by simp at hy) (by simp only[aH];omega) hz hsh;refine nR Tryz.func165 125 2 ?_;refine uo 16 hso [0,1] ?_;rintro s ob' ⟨⟨kr,sr',ar'⟩,code,w1,⟨⟩,rfl,hq2,W⟩;refine uv ?_;refine jq 15 ?_ ?_<;>intro z
 .refine jD 8 (fD code) [0,1] [iD F w1,iC] ⟨code,w1,rfl,rfl,hq2,λh=>absurd h z⟩
 obtain rfl:code=0:=O;obtain⟨rfl,hWt,hlr,hSr⟩:=W rfl;have C:Wt (jY F) x.pd (.mk k n s q e) 0:=hWt;obtain rfl:w=false:=hq2 rfl;refine ny 6 hpi ?_;refine jq 12 ?_ ?_<;>intro h5
 .refine jD 7 (fD 11) [0,1] [iD F false,iC] ⟨11,false,rfl,rfl,λh=>h,λh=>absurd h O⟩
 refine pt 25 (ι:=Nat×Int×Int×fB×List iq×List ie×Int×Int×fB×List iq×List ie) (λ⟨i,k1,m1,s1,l1,a1,k2,m2,s2,l2,a2⟩=>[(18,int i)]) (λ⟨i,k1,m1,s1,l1,a1,k2,m2,s2,l2,a2⟩=>[iD F false,iC,Dm x,WM nm k n s q e,lO kl sl al,lO kr sr' ar',tO k1 m1 s1 l1 a1,tO k2 m2 s2 l2 a2]) [17,16,15,10,8,7,0,3,5] (λ⟨i,k1,m1,s1,l1,a1,k2,m2,s2,l2,a2⟩=>i<=p/\ie.mk k1 m1 s1 l1 a1=jQ i (.mk k n s q e)/\ie.mk k2 m2 s2 l2 a2=jQ i (.mk x.k1 x.n1 x.s1 x.l1 x.a1)/\∀(j:Nat) A B,j<i->(lQ i (.mk x.k1 x.n1 x.s1 x.l1 x.a1))[j]? =some A->(lQ i (.mk k n s q e))[j]? =some B->yq F A B) (λ⟨i,k1,m1,s1,l1,a1,k2,m2,s2,l2,a2⟩=>p-i) ((0,k,n,s,q,e,x.k1,x.n1,x.s1,x.l1,x.a1)) ([0,1,2,3,4,5,6,7]) ⟨ak _,rfl,rfl,λj A B h=>absurd h (cT _)⟩ ?_;rintro⟨i,k1,m1,s1,l1,a1,k2,m2,s2,l2,a2⟩ U
 try dsimp only at U
 refine jq 9 ?_ ?_<;>intro h10
 .obtain ⟨m5,s5,l5,⟨I,J,M,R,V⟩,⟨kY,mY,sY,lY,aY⟩,g1,g2,g3,g4⟩:=oX i _ (show i<iv (.mk k n s q e) by omega);obtain⟨m6,s6,l6,⟨kV,mV,sV,lV,aV⟩,⟨kW,mW,sW,lW,aW⟩,f1,f2,f3,f4⟩:=oX i _ (show i<iv (.mk x.k1 x.n1 x.s1 x.l1 x.a1) by omega);have G:=nj (i+1) (.mk k n s q e);have hfs:=nj (i+1) (.mk x.k1 x.n1 x.s1 x.l1 x.a1);rw[g3,mS] at G;rw[f3,mS] at hfs;have hxi:(lQ (i+1) (.mk k n s q e))[i]? =some (.mk I J M R V):=(by rw[g3,bA (by rw[jx _ _ O];exact ae _),jx _ _ O,bL];rfl);have hyi:(lQ (i+1) (.mk x.k1 x.n1 x.s1 x.l1 x.a1))[i]? =some (.mk kV mV sV lV aV):=(by rw[f3,bA (by rw[jx _ _ O];exact ae _),jx _ _ O,bL];rfl);have H:=(C.yN (i+1) O).2 i _ hxi;have hwV:=(hw1.yN (i+1) O).2 i _ hyi;rw[dE] at H hwV;simp only[ij] at G hfs;rw[<- U.2.1] at g1;rw[<- U.2.2.1] at f1;refine rF 5 ?_;cases g1;cases f1;have heq:=Bz (gl:=gl) hE hL (c:=(i:Int)) O (S:=S) (n:=0) (n2:=0) hm false I J M R V kV mV sV lV aV O O (.base H O) (.base hwV O);refine ma 0 [0,1,2] mixed ?_;refine pQ 3 iQ iY ?_ (hat:=rfl);refine ga [4,5,6] ?_;refine pQ 7 iQ iY ?_ (hat:=rfl);refine ga [8,9] ?_;refine MZ 10 heq [0,1] ?_;rintro s ob' ⟨r,code,w1,⟨⟩,rfl,h1',h2',h3',h4'⟩;refine Lg ?_;refine ga [11,12,13,14,15] ?_;refine iB<|jq 8 ?_ ?_<;>intro h13
  .refine jD 13 (fD code) [0,1] [iD F w1,iC] ⟨code,w1,rfl,rfl,h3',λh=>absurd h h13⟩
  obtain rfl:code=0:=O;obtain rfl:w1=false:=h2' rfl;refine jq 9 ?_ ?_<;>intro h15
  .refine jD 12 (fD 11) [0,1] [iD F false,iC] ⟨11,false,rfl,rfl,λh=>h,λh=>absurd h O⟩
  refine ni 6 iQ iY ?_ (hat:=rfl);refine ni 7 iQ iY ?_ (hat:=rfl);refine jS 7 ?_;refine ml 2 (i+1,kY,mY,sY,lY,aY,kW,mW,sW,lW,aW) [0,1,2,3,4,5,6,7] ?_
  .refine ⟨⟨O,g2.symm,f2.symm,λj A B hj e1 e2=>?_⟩,show _-(i+1)<_-i by omega⟩;rw[f3] at e1;rw[g3] at e2;rcases bV j i with hj2|hj2
   .rw [bl (by rw[jx _ _ O];exact hj2)] at e1 e2;exact U.2.2.2 j A B hj2 e1 e2
   .obtain rfl:j=i:=O;rw[bA (by rw[jx _ _ O];exact ae _),jx _ _ O,bL] at e1 e2;cases e1;cases e2;exact(h4' rfl (by first|assumption|simp_all)).symm
 have hCvP:=U.2.2.2;rw[show i=p by omega] at hCvP;have hen:=B4 (gl:=gl) (iv (.mk k n s q e)) k n s q e hsh (ae _) O;have hese:=nj (iv (.mk k n s q e)) (.mk k n s q e);have hwe:=(C.yN _ (ae _)).1;obtain⟨kE,mE,sE,lE,aE,hEe⟩:=ie.case (jQ (iv (.mk k n s q e)) (.mk k n s q e))
 rw[hEe] at hen hese hwe;have hre:=DJ (gl:=gl) x kE mE sE lE aE m ((iv (.mk k n s q e):Nat)) (hwe.spine _ (ae _)).1 O O O O O;refine ma 6 [0,1,2,4,5,6] mixed ?_;refine qB 3 hen ?_;refine A2 (T:=λ_=>False) 7 rfl (oK adu rfl rfl rfl rfl (hre) (jw (oq (jw (jw .nil)))) (λd hd=>?_));obtain⟨b,rfl,hb⟩:=hd;refine ga [8] ?_;refine iB<|jq 8 ?_ ?_<;>intro h20
 .refine jD 7 (fD 11) [0,1] [iD F false,iC] ⟨11,false,rfl,rfl,λh=>h,λh=>absurd h O⟩
 refine pt 21 (ι:=Nat×Bool×Int×Int×fB×List iq×List ie) (λ⟨i,Y,k3,m3,s3,l3,a3⟩=>[(23,int i),(22,.d (.sl 5 (im (lQ i (.mk k n s q e)))))]) (λ⟨i,Y,k3,m3,s3,l3,a3⟩=>[iD F Y,iC,Dm x,WM nm k n s q e,lO kl sl al,lO kr sr' ar',tO k3 m3 s3 l3 a3,tO k2 m2 s2 l2 a2]) [16,15,10,7,0,3,5] (λ⟨i,Y,k3,m3,s3,l3,a3⟩=>i<=iv (.mk k n s q e)/\ie.mk k3 m3 s3 l3 a3=jQ i (.mk k n s q e)/\∀(j:Nat) a,(p:Int)<=j->(lQ i (.mk k n s q e))[j]? =some a->Ox x.sd p a/\Lq x.sd p m j a) (λ⟨i,Y,k3,m3,s3,l3,a3⟩=>iv (.mk k n s q e)-i) ((0,false,k,n,s,q,e)) ([0,1,2,3,4,5,6,7]) ⟨ak _,rfl,λj a h1 z=>by simp[lQ] at z⟩ ?_ (hM:=by exact oL (iU (j8 rfl (by exact Fit.U2))));rintro⟨i,Y,k3,m3,s3,l3,a3⟩ U
 try dsimp only at U
 refine j7 8 ?_ ?_<;>intro h25
 .refine jD 11 (fD 0) [0,1] [iD F Y,iC] ?_
  .obtain rfl:i=iv (.mk k n s q e):=O;have hbt:b=true:=(by cases b<;>simp_all);obtain⟨n',ls',ar,q1,q2,q3⟩:=hb hbt;rw[<- hEe] at q1 q2 q3;exact⟨0,Y,rfl,rfl,λh=>rfl,λ_=>⟨C,O,λj a h1 z=>(U.2.2 j a h1 z).1,⟨hSr,hCvP,⟨n',ls',ar,q1⟩,⟨O,λj a h1 z=>q3 j a O z⟩,λj a h1 z=>(U.2.2 j a O z).2⟩⟩⟩
 obtain⟨m5,s5,l5,⟨I,J,M,R,V⟩,⟨kY,mY,sY,lY,aY⟩,g1,g2,g3,g4⟩:=oX i _ (show i<iv (.mk k n s q e) by omega);have G:=nj (i+1) (.mk k n s q e);rw[g3,mS] at G;have hxi:(lQ (i+1) (.mk k n s q e))[i]? =some (.mk I J M R V):=(by rw[g3,bA (by rw[jx _ _ O];exact ae _),jx _ _ O,bL];rfl);have H:=(C.yN (i+1) O).2 i _ hxi;rw[dE] at H;simp only[ij] at G;have hxl:=jx i (.mk k n s q e) U.1;have hxz:=iJ (lQ i (.mk k n s q e));rw[<- U.2.1] at g1;refine rF 5 ?_;cases g1;have har:=Hu (gl:=gl) hE x hL O hm (S:=S) O I J M R V (lQ i (.mk k n s q e)) Y (Rw C U.1 hz) O O (by rw[hxl];exact H) m O kl sl al hlv;have hexx:=ua (gl:=gl) (lQ i (.mk k n s q e)) I J M R V O;refine ni 3 iQ iY ?_ (hat:=rfl);refine rF 14 ?_;refine xo (ι:=Bool) (λw3=>[]) (λw3=>[iD F w3,iC,Dm x,WM nm k n s q e,lO kl sl al,lO kr sr' ar',tO 5 m3 s3 l3 [.mk I J M R V,.mk kY mY sY lY aY],tO k2 m2 s2 l2 a2,tO I J M R V]) [24,23,22,16,15,10,7,0,3,5] (λw3=>p<=i->Ox x.sd p (.mk I J M R V)/\Lq x.sd p m i (.mk I J M R V)) rfl ?_ ?_
 .refine j7 0 ?_ ?_<;>intro h28
  .refine ml 1 (Y) [0,1,2,3,4,5,6,7,8] ?_;exact λh=>O
  refine uo 9 har [0,1] ?_;rintro s ob' ⟨code,w4,⟨⟩,rfl,hq2,W⟩;refine uv ?_;refine j7 9 ?_ ?_<;>intro h30
  .refine ml 1 (w4) [0,1,2,3,4,5,6,7,8] ?_;exact λ_=>by rw[hx,cb,hxl] at W;exact W O
  refine jD 13 (fD code) [0,1] [iD F w4,iC] ⟨code,w4,rfl,rfl,λh=>rfl,λh=>absurd h h30⟩
 .rintro w3 hcut
  try dsimp only at hcut
  have hpos3:=hcut;refine ny 4 hexx ?_;refine ni 6 iQ iY ?_ (hat:=rfl);refine jS 7 ?_;refine rF 2 ?_;refine bk ((i+1,w3,kY,mY,sY,lY,aY)) rfl ?_ ([0,1,2,3,4,5,6,7]) ?_
  .refine ⟨⟨O,g2.symm,λj a h1 z=>?_⟩,show _-(i+1)<_-i by omega⟩;rw[g3] at z;rcases bV j i with hj|hj
   .rw [bl (by rw[jx _ _ O];exact hj)] at z;exact U.2.2 j a h1 z
   .rw [bA (by rw[jx _ _ O];exact hj)] at z;have h3:=(aJ.1 z).1;rw[jx _ _ O] at h3;simp only[aj,aH] at h3;obtain rfl:j=i:=O;rw[jx _ _ O,bL] at z;cases z;exact hpos3 O
  .refine mo ?_ (iU (yu rfl (by exact Fit.of_eq (by rw[g3];rfl)) (iU (iU (iU (iU (iU (iU (iU rA)))))))))
   repeat (first|exact nw|refine jN ?_|refine oT ?_)
def abi(h:List iI)(w:Bool)(c:Out)(e:List Ob):Prop:=
 ∃(b:Bool) (code:Int) (k:Bool),c=.ret (.d (.jj [.v (.bool b),.v (.int .i64 code)]))/\e=[iD h k,iC]/\(k=false->w=false)
set_option maxHeartbeats 1600000 in
theorem OY{q:List iI}(hE:ko q)(x:RD)(hL:x.pd.length<=6)(p:Nat)(hx:x.ad=p)(hp6:p<=1000000){C S:Nat}(hm:C<=1000000)(hS:S<=900000/\20000<=S)(hcs:∀c∈x.cd,Wt (jY q) x.pd c.2 0/\c.2.size<=S)(w:Bool)(kl:Int)(sl:fB)(al:List iq)(hlv:qV x.pd (.mk kl sl al)):
 jT fC gl 166 [iD q w,iC] [.jk 0 0,.d x.dec.d,.d (iq.mk kl sl al).d,fE C] (abi q w):=by
 have hnv:=FL (gl:=gl) hL kl sl al hlv;have hcl:=sZ x.cd;refine nR Tryz.func166 115 2 ?_;refine wE 11 hnv λd hd=>?_;obtain⟨b,rfl⟩:=hd
 refine rV 8 29 25 4 ?_;refine jq 2 ?_ ?_<;>intro h2
 .refine jD 8 (.jj [fF true,fD 0]) [0,1] [iD q w,iC] ⟨true,0,w,rfl,rfl,λh=>h⟩
 refine jq 11 ?_ ?_<;>intro h4
 .refine jD 8 (.jj [fF false,fD 0]) [0,1] [iD q w,iC] ⟨false,0,w,rfl,rfl,λh=>h⟩
 have hone:0<x.cd.length:=(by first|omega|(obtain⟨_,h9⟩:=h2;omega));obtain⟨cN,k,n,s,ls,args,F⟩:=zT hone;obtain⟨e,hz⟩:=hcs _ (aO F);refine rF 3 ?_;simp only at e hz;have hdl:=y9 (.mk k n s ls args);have hsh:=e.sh (B:=4398046511104) O;have hpi:=se (gl:=gl) k n s ls args hsh O;have hpz:=nE _ (.mk k n s ls args) (ae _);have hen:=B4 (gl:=gl) (iv (.mk k n s ls args)) k n s ls args hsh (ae _) O;have hese:=nj (iv (.mk k n s ls args)) (.mk k n s ls args);have hwe:=(e.yN _ (ae _)).1;obtain⟨kE,mE,sE,lE,aE,hEe⟩:=ie.case (jQ (iv (.mk k n s ls args)) (.mk k n s ls args))
 rw[hEe] at hen hese hwe;have hsp:=oW (gl:=gl) kE mE sE lE aE (hwe.spine _ (ae _)).1 O;have hsl:=mQ _ (.mk kE mE sE lE aE) (ae _);rcases hSp:ig (.mk kE mE sE lE aE) with⟨⟨kh,mh,sh,lh,ah⟩,az⟩;rw[hSp] at hsp hsl;simp only at hsl;have hsl2:=iJ az;have hasl:=ir az;refine ni 3 G4 Jt ?_ (hat:=(x8 (i:=0) F));refine ny 9 hpi ?_;refine ny 7 hen ?_;refine ny 0 hsp ?_;refine pt 20 (ι:=Nat×Bool×Int×Int×fB×List iq×List ie) (λ⟨i,y,R,H,I,J,a3⟩=>[(16,int i),(15,.d (.sl 5 (im (lQ i (.mk k n s ls args)))))]) (λ⟨i,y,R,H,I,J,a3⟩=>[iD q y,iC,Dm x,lO kl sl al,tO R H I J a3,tO kh mh sh lh ah]) [14,12,11,5,0,3] (λ⟨i,y,R,H,I,J,a3⟩=>i<=iv (.mk k n s ls args)/\ie.mk R H I J a3=jQ i (.mk k n s ls args)/\(y=false->w=false)) (λ⟨i,y,R,H,I,J,a3⟩=>iv (.mk k n s ls args)-i) ((0,w,k,n,s,ls,args)) ([0,1,2,3,4,5]) ⟨ak _,rfl,λh=>h⟩ ?_ (hM:=by exact oL (iU (j8 rfl (by exact Fit.U2))));rintro⟨i,y,R,H,I,J,a3⟩ U
 try dsimp only at U
 refine j7 8 ?_ ?_<;>intro h11
 .refine jD 12 (.jj [fF true,fD 0]) [0,1] [iD q y,iC] ⟨true,0,y,rfl,rfl,U.2.2⟩
 obtain⟨m5,s5,l5,⟨V,W,Y,lX,aX⟩,⟨kY,mY,sY,lY,aY⟩,g1,g2,g3,g4⟩:=oX i _ (show i<iv (.mk k n s ls args) by omega);have hes:=nj (i+1) (.mk k n s ls args);rw[g3,mS] at hes;have hxi:(lQ (i+1) (.mk k n s ls args))[i]? =some (.mk V W Y lX aX):=(by rw[g3,bA (by rw[jx _ _ O];exact ae _),jx _ _ O,bL];rfl);have hwX:=(e.yN (i+1) O).2 i _ hxi;rw[dE] at hwX;simp only[ij] at hes;have hxl:=jx i (.mk k n s ls args) U.1;have hxz:=iJ (lQ i (.mk k n s ls args));have hdX:=y9 (.mk V W Y lX aX);rw[<- U.2.1] at g1;refine rF 5 ?_;cases g1;have hso:=rY (gl:=gl) hE hL hm (S:=S) O V W Y lX aX (lQ i (.mk k n s ls args)) y (Rw e U.1 hz) O O (hwX.sh O);have hexx:=ua (gl:=gl) (lQ i (.mk k n s ls args)) V W Y lX aX O;have z:=U.2.2;have hi0:=U.1;refine ni 3 iQ iY ?_ (hat:=rfl);refine rF 14 ?_;refine xo (ι:=Bool) (λw3=>[]) (λw3=>[iD q w3,iC,Dm x,lO kl sl al,tO 5 H I J [.mk V W Y lX aX,.mk kY mY sY lY aY],tO kh mh sh lh ah,tO V W Y lX aX]) [17,16,15,14,12,11,5,0,3] (λw3=>w3=false->w=false) rfl ?_ ?_
 .refine j7 0 ?_ ?_<;>intro h14
  .refine ml 1 (y) [0,1,2,3,4,5,6] ?_;exact z
  refine uo 8 hso [0,1] ?_;rintro s ob' ⟨⟨kr,sr',ar'⟩,code,w4,⟨⟩,rfl,M,hq3⟩;refine uv ?_;refine jq 15 ?_ ?_<;>intro h16
  .refine jD 15 (.jj [fF false,fD code]) [0,1] [iD q w4,iC] ⟨false,code,w4,rfl,rfl,λh=>z (M h)⟩
  obtain rfl:code=0:=O;obtain⟨rfl,hWt,hlr,_⟩:=hq3 rfl;have halw:=zj (gl:=gl) hL kr sr' ar' hlr;refine wE 5 halw λd hd=>?_;obtain⟨b2,rfl⟩:=hd;refine vq 12 (ι:=Nat×Bool) (λ⟨j,fi⟩=>[(21,int j),(20,fH fi)]) [17,16,15,14,12,11,5,0,3] (λ⟨j,fi⟩=>True) (λ⟨j,fi⟩=>az.length-j) ((p,b2)) (by trivial) ?_ (hM:=by exact oL (j8 rfl (by exact Fit.of_eq (by rw[hx];rfl))))
  rintro⟨j,fi⟩ U
  try dsimp only at U
  refine j7 9 ?_ ?_<;>intro h20
  .refine j7 11 ?_ ?_<;>intro h23
   .refine ml 1 (false) [0,1,2,3,4,5,6] ?_;exact λh=>z (M h)
   refine jD 13 (.jj [fF false,fD 0]) [0,1] [iD q false,iC] ⟨false,0,false,rfl,rfl,λh=>z (M h)⟩
  obtain⟨k9,m9,s9,l9,a9,r⟩:=iZ (show j<az.length by omega);refine' Cg 7 104 86 18 ?a2 ?_
  case a2=>
   intro hc hK;refine ni 2 iQ iY ?_ (hat:=(jr r));refine' DM 4 103 93 10 ?a3 ?_
   case a3=>
    intro hc hK;refine ni 2 iQ iY ?_ (hat:=(jr r));refine sH 3 ?_;refine sH 1 ?_;refine rF 1 ?_;exact hK [_,_,_,_,_,_,_,_,_,_] rfl rfl
   exact hK [_,_,_,_,_,_,_,_] rfl rfl
  refine jS 6 ?_;refine qX 2 (j+1,(fi||(decide (k9=0)&&decide (m9=(iv (.mk k n s ls args):Int)-1-i)))) ?_;exact⟨trivial,show _-(j+1)<_-j by omega⟩
 .rintro w3 G
  try dsimp only at G
  refine ny 4 hexx ?_;refine ni 6 iQ iY ?_ (hat:=rfl);refine jS 7 ?_;refine ml 2 ((i+1,w3,kY,mY,sY,lY,aY)) ([0,1,2,3,4,5]) ⟨⟨O,g2.symm,G⟩,show _-(i+1)<_-i by omega⟩ (hM:=by exact oL (iU (j8 rfl (by exact Fit.of_eq (by rw[g3];rfl)))))
def zZ(n:Nat):fB:=if h:n<10 then⟨#[UInt8.ofNat (48+n%10)]⟩ else zZ (n/10)++⟨#[UInt8.ofNat (48+n%10)]⟩
theorem B7(h:n<10):zZ n=⟨#[UInt8.ofNat (48+n%10)]⟩:=by rw[zZ,dif_pos h]
theorem zS(h:¬n<10):zZ n=zZ (n/10)++⟨#[UInt8.ofNat (48+n%10)]⟩:=by rw[zZ,dif_neg h]
theorem IQ(n):(zZ n).size<=n+1:=by
 induction n using Nat.strongRecOn with
 |_ n b=>
  by_cases h:n<10
  .rw [B7 h];show 1<=_;omega
  .rw [zS h,db];have:=b (n/10) O;have k:(ByteArray.mk #[UInt8.ofNat (48+n%10)]).size=1:=rfl;omega
end
section
open Go Go.Vd Go.RowKit
def V8(l:List UInt8):Nat:=l.foldl (λa b=>10*a+(b.toNat-48)) 0
theorem Tm(l c):V8 (l++[c])=10*V8 l+(c.toNat-48):=by simp[V8]
theorem MS(n):(UInt8.ofNat (48+n%10)).toNat-48=n%10:=by
 have:(UInt8.ofNat (48+n%10)).toNat=(48+n%10)%256:=rfl;rw[this];omega
theorem IS(n):V8 (zZ n).data.toList=n:=by
 induction n using Nat.strongRecOn with
 |_ n b=>
  by_cases h:n<10
  .rw [B7 h];show 10*0+((UInt8.ofNat (48+n%10)).toNat-48)=n;rw[MS];omega
  .rw [zS h,ByteArray.data_append,eD];show V8 (_++[UInt8.ofNat (48+n%10)])=n;rw[Tm,b _ O,MS];omega
theorem V6(h:zZ m=zZ n):m=n:=by rw[<- IS m,h,IS]
theorem yb{a e c:fB}(h:a++e=a++c):e=c:=by
 have k:=congrArg (λx:fB=>x.data.toList) h;simp only[ByteArray.data_append,eD] at k;have U:=List.append_cancel_left k;exact eH (Array.toList_inj.1 U)
def rN:Nat->fB
 |0=>⟨#[114]⟩
 |n+1=>⟨#[114]⟩++zZ (n+1)
theorem MT(n):zZ n≠ .empty:=by
 intro h;by_cases b:n<10
 .rw [B7 b] at h;have:=congrArg ByteArray.size h;exact absurd (show(1:Nat)=0 from this) Z
 .rw [zS b] at h;have:=congrArg ByteArray.size h;rw[db] at this;have k:(ByteArray.mk #[UInt8.ofNat (48+n%10)]).size=1:=rfl;have U:ByteArray.empty.size=0:=rfl;omega
theorem ZN(h:rN m=rN n):m=n:=by
 match m,n with
 |0,0=>rfl
 |0,n+1=>
  have:(⟨#[114]⟩:fB)++ .empty=⟨#[114]⟩++zZ (n+1):=h;exact absurd (yb this).symm (MT _)
 |m+1,0=>
  have:(⟨#[114]⟩:fB)++zZ (m+1)=⟨#[114]⟩++ .empty:=h;exact absurd (yb this) (MT _)
 |m+1,n+1=>exact V6 (yb h)
theorem acv(n):rN n≠ .empty:=by
 intro h;have b:ByteArray.empty.size=0:=rfl;have k:(ByteArray.mk #[114]).size=1:=rfl;have:=congrArg ByteArray.size h
 match n with
 |0=>exact absurd (show(1:Nat)=0 from this) Z
 |n+1=>
  change ((⟨#[114]⟩:fB)++zZ (n+1)).size=0 at this
  rw[db] at this;omega
theorem UD{l:List fB}{r:Nat}(h:∀j,j<r->rN j∈l):r<=l.length:=by
 have U:((List.range r).map rN).Nodup:=by
  unfold List.Nodup;rw[List.pairwise_map];exact List.nodup_range.imp λh e=>h (ZN e)
 have c:=zC (b:=l) U λx i=>by
  obtain⟨j,q,rfl⟩:=bD.1 i;exact h j (b5.1 q)
 simpa using c
structure KI (x:RD):Prop where
 nm:x.sd.size<=200000
 pn:x.pd.length<=1000000
 pd:∀q∈x.pd,q≠ .empty
 ty:oD 99999 (.mk x.k1 x.n1 x.s1 x.l1 x.a1)/\(ie.mk x.k1 x.n1 x.s1 x.l1 x.a1).size<=800001
 vl:x.kd=2->oD 99999 (.mk x.k2 x.n2 x.s2 x.l2 x.a2)/\(ie.mk x.k2 x.n2 x.s2 x.l2 x.a2).size<=800001
 ar:0<=x.ad/\x.ad<=99
 cs:∀c∈x.cd,oD 99999 c.2/\c.2.size<=800001/\c.1.size<=200000
 csz:MX x.cd<=2000000
 cl:x.cd.length<=400000
 k:x.kd=1\/x.kd=2\/x.kd=3
 nc:x.kd≠3->x.cd=[]
 vz:(ie.mk x.k2 x.n2 x.s2 x.l2 x.a2).size<=800001
def Un(c:List iI)(e:mJ):Sg:=λs=>if s=e.nm\/Ei s (e.cs.map (·.1))=true then some e.ps.length else jY c s
theorem Of(c e):Un c e e.nm=some e.ps.length:=if_pos (.inl rfl)
theorem Uk(e i)(h:c∈i.cs):Un e i c.1=some i.ps.length:=if_pos (.inr (sn.2 (dX h)))
theorem ZD(q:∀e∈j,e.d.k≠0)(x:e.d.k=3)(r:∀y∈jV e.d,y∉lH j)(i:(jV e.d).Nodup):Hw (Un j e.d) (jY (j++[e])):=by
 intro s n b;unfold Un at b;split at b
 .rename_i h;rcases h with rfl|h
  .rw [Oe q (r _ (by simp[jV])),YS (.inr (.inr x)),b]
  .have h:=sn.1 h;obtain⟨c,k,rfl⟩:=bD.1 h;rw[Oe q (r _ (by unfold jV;exact bB _ (cQ _ h))),Xh k ?_,b];intro U;unfold jV at i;exact(cG.1 i).1 (cQ _ (by rw[<- U];exact h))
 .exact yE _ _ _ _ b
theorem Ul(i:∀e∈c,e.d.k≠0)(j:∀y∈jV e.d,y∉lH c):Hw (jY (c++[Ep e])) (Un c e.d):=by
 intro s n b;have U:e.d.nm∉lH c:=j _ (by simp[jV]);by_cases h:s=e.d.nm
 .subst h;rw[Oe i U] at b;have q:=YS (e:=Ep e) (.inl rfl);rw[show(Ep e).d.nm=e.d.nm from rfl] at q;rw[Of,<-b,q];rfl
 .have k:(iw s c).1≠0:=λk=>by
   have r:=Fh b;rw[qh i k,iw,if_neg (show ¬(Ep e).d.nm=s from λg=>h g.symm)] at r;exact r rfl
  have x:¬(s=e.d.nm\/Ei s (e.d.cs.map (·.1))=true):=λg=>by
   rcases g with g|g
   .exact h g
   .have g:=sn.1 g;exact k ((ry i).2 (j _ (by unfold jV;exact bB _ (cQ _ g))))
  unfold Un;rw[if_neg x];rw[JA (kJ k)] at b;exact b
structure D9 (es:List iI) (d:mJ) (rp:List fB) (rt:ie):Prop where
 new:∀y∈jV d,y∉lH es
 nd:(jV d).Nodup
 ps:d.ps.length<=6
 ty:Wt (jY es) d.ps d.ty 0
 ar:d.ar<=iv d.ty
 cs:∀c∈d.cs,Wt (Un es d) d.ps c.2 0/\d.ar<=iv c.2/\G7 d.nm d.ar c.2
 rpl:rp.length<=7
 rtw:Wt (Un es d) rp rt 0/\rt.size<=1000000000
 sr:YA es [] d.ty
 ct:∀c∈d.cs,CtF (es++[Ep ⟨d,[],iu⟩]) d.nm d.ar.toNat (iv d.ty-d.ar.toNat) d.ty c.2
 en:∃m s l a,jQ (iv d.ty) d.ty=.mk 1 m s l a
 er:∀I,z9 I->I d.nm=none->(∀ c∈d.cs,I c.1=none)->Go.Proofs.YtndbnldjidciiaaGreatDoor.er I rt=Ur I d.ar.toNat (iv d.ty-d.ar.toNat) d.nm d.ty d.cs
theorem D9.env(y:nS i)(z:i.length<1000000)(j:KI x)(q:x.kd=3)(h:D9 i x.dec r s):nS (i++[⟨x.dec,r,s⟩]):=by
 have U:=y.ok.k0;have b:Hw (Un i x.dec) (jY (i++[⟨x.dec,r,s⟩])):=ZD (e:=⟨x.dec,r,s⟩) U q h.new h.nd;refine y.app z h.new h.nd ⟨.inr (.inr q),h.ps,?_,⟨h.ty.mono (yE _ _) (λ_ h=>h) (aP _),j.ty.2⟩,λg=>?_,?_,λ_=>⟨j.ar.1,h.ar⟩,λc k=>⟨(h.cs c k).1.mono b (λ_ h=>h) (aP _),(j.cs c k).2.1,(h.cs c k).2.1⟩,h.rpl,λ_=>⟨h.rtw.1.mono b (λ_ h=>h) (aP _),?_⟩⟩ (λ_ c k=>(h.cs c k).2.2) (λg=>absurd q g) j.vz
 .exact aQ j.nm Z
 .exact absurd (q.symm.trans g) Z
 .exact aQ j.cl Z
 .exact aQ h.rtw.2 Z
structure RR (es:List iI) (d:mJ):Prop where
 new:d.nm∉lH es
 ps:d.ps.length<=6
 ty:Wt (jY es) d.ps d.ty 0
 vl:d.k=2->Wt (jY es) d.ps d.vl 0
 sr:YA es [] d.ty
 tv:d.k=2->xu es [] d.vl d.ty
theorem RR.env(r:nS j)(s:j.length<1000000)(e:KI x)(i:x.kd≠3)(h:RR j x.dec):nS (j++[⟨x.dec,[],iu⟩]):=by
 have b:jV x.dec=[x.sd]:=by
  unfold jV;rw[if_neg (show ¬x.dec.k=3 from i),show x.dec.cs=[] from e.nc i];rfl
 have q:∀c∈x.dec.cs,False:=λc k=>by rw[show x.dec.cs=[] from e.nc i] at k;cases k
 refine r.app s (λy U=>?_) (by show(jV x.dec).Nodup;rw[b];simp) ⟨?_,h.ps,?_,⟨h.ty.mono (yE _ _) (λ_ h=>h) (aP _),e.ty.2⟩,λg=>⟨(h.vl g).mono (yE _ _) (λ_ h=>h) (aP _),(e.vl g).2⟩,?_,λg=>absurd g i,λc k=>(q c k).elim,ak _,λg=>absurd g i⟩ (λg=>absurd g i) (λ_=>e.nc i) e.vz
 .change y∈jV x.dec at U
  rw[b] at U;simp only[bF] at U;subst U;exact h.new
 .exact e.k
 .exact aQ e.nm Z
 .exact aQ e.cl Z
theorem D9.fax(j:nS e)(q:e.length<1000000)(i:KI x)(h:D9 e x.dec r s):nS (e++[Ep ⟨x.dec,[],iu⟩]):=by
 have U:jV (Ep ⟨x.dec,[],iu⟩).d=[x.sd]:=rfl;have b:∀{p:Prop},(Ep ⟨x.dec,[],iu⟩).d.k=3->p:=λh=>absurd (show(1:Int)=3 from h) Z
 refine j.app q (λy k=>?_) (by rw[U];simp) ⟨.inl rfl,h.ps,aQ i.nm Z,⟨h.ty.mono (yE _ _) (λ_ h=>h) (aP _),i.ty.2⟩,λh=>absurd (show(1:Int)=2 from h) Z,ak _,b,λc z=>(by cases z),ak _,b⟩ b (λ_=>rfl) (by show iu.size<=_;decide);rw[U] at k;simp only[bF] at k;subst k;exact h.new _ (by simp[jV];exact .inl rfl)
inductive rI:List iI->Prop
 |nil:rI []
 |X5 {es d rp rt:_}:rI es->nS (es++[⟨d,rp,rt⟩])->nS (es++[Ep ⟨d,[],iu⟩])->0<=d.ar->d.k=3->D9 es d rp rt->rI (es++[⟨d,rp,rt⟩])
 |pln {es d:_}:rI es->nS (es++[⟨d,[],iu⟩])->d.k≠3->RR es d->rI (es++[⟨d,[],iu⟩])
theorem rI.f(h:rI c):nS c:=by
 cases h with
 |nil=>exact .nil
 |X5 _ h=>exact h
 |pln _ h=>exact h
theorem Wt.Uj(h:Wt q i (.mk 1 n s j e) c):∃l,j=[l]/\qV i l:=by
 rcases h.2.2 with g|g|g|g|g
 .exact absurd g.1 Z
 .obtain ⟨_,_,_,b,_⟩:=g;obtain⟨l,rfl⟩:=fm.1 b;exact⟨l,rfl,h.1 l (by simp)⟩
 .exact absurd g.1 Z
 .exact absurd g.1 Z
 .exact absurd g.1 Z
end
section
open Go Go.Vd Go.RowKit
attribute [local irreducible] iK iL jI ik iW jH
theorem Yi(n:Nat):[[D.v (.int .u8 (IntKind.wrap .u8 (48+(n:Int)%10)))]]=wF ⟨#[UInt8.ofNat (48+n%10)]⟩:=by
 have h:IntKind.wrap .u8 (48+(n:Int)%10)=((UInt8.ofNat (48+n%10)).toNat:Int):=by
  unfold IntKind.wrap;simp[IntKind.bits,IntKind.signed]
 rw[h];rfl
theorem MR(n:Nat)(c:n<=1099511627776):jA fC gl 168 [fD n] (· =fG (zZ n)):=by
 induction n using Nat.strongRecOn with
 |_ n k=>
  have U:=IQ (n/10);have b:(ByteArray.mk #[UInt8.ofNat (48+n%10)]).size=1:=rfl;refine oN Tryz.func168 18 ?_;refine rF 8 ?_;refine o1 (Y3 ?_);refine jS 0 ?_;refine o1 (Rf ui5 uo3 rfl rfl ?_);refine oR 0 YR [.tmp 7] ti5 ?_;refine o1 (Kr YR.under ui5 Du rfl rfl (Yi n) (by intro e;have:=congrArg ByteArray.size e;rw[b] at this;cases this) ?_);refine jq 10 ?_ ?_<;>intro h
  .refine od 8 ?_;rw[B7 O]
  refine rF 5 ?_;refine o1 (VK rfl rfl rfl O ?_);refine ny 0 (k (n/10) O O) ?_;refine rF 1 ?_;refine o1 (Dd ?_ (hb:=by(try simp only[db,zv,dh,aj,aH]);omega));refine od 4 ?_;rw[zS (n:=n) O]
def sR:Ob:=.row 9 1
def Yd(e:Nat)(c:List iI)(w:Bool):Ob:=.cells [.own e 21 (yo c),.d (.v (.bool w))] 47
def abk(h:List iI)(i:mJ)(w:Bool)(c:Out)(e:List Ob):Prop:=
 ∃(rp:List fB) (rt:ie) (code:Int) (b:Bool),c=.ret (.d (.jj [nU rp,rt.d,.v (.int .i64 code)]))/\e=[iD h b,iC]/\(b=false->w=false)/\(code=0->D9 h i rp rt)
def x0(x:RD):List fB:=x.sd::(x.cd.map (·.1)++[x.sd++CK])
theorem zP(c:x.kd=3):jV x.dec=x0 x:=by
 unfold jV x0;rw[if_pos (show x.dec.k=3 from c)];rfl
theorem S7{x:RD}{i:Nat}{c:fB×ie}(h:x.cd[i]? =some c):strs (x.sd::(x.cd.take i).map (·.1))++[[fG c.1]]=strs (x.sd::(x.cd.take (i+1)).map (·.1)):=by
 rw[bo,h];simp[strs]
theorem VU(x):strs (x.sd::(x.cd.take x.cd.length).map (·.1))++[[fG (x.sd++CK)]]=strs (x0 x):=by
 rw[bT];simp[strs,x0]
theorem VT{c:List iI}{l:List fB}{i:Nat}(e:i<l.length)(h:∀y∈l.take i,y∉lH c)(j:l[i]∉lH c):∀y∈l.take (i+1),y∉lH c:=by
 intro y hy;rw[bo,aZ e] at hy;rcases bn.1 hy with hy|hy
 .exact h y hy
 .simp only[dq,bF] at hy;subst hy;exact j
theorem TC(c:List iI)(x:RD)(e:List fB)(h:ie):yo (c++[Ep ⟨x.dec,e,h⟩])=yo c++[[fD 1,fG x.sd,.sl 1 (strs x.pd),fD x.k1,fD x.n1,fG x.s1,.sl 3 (iR x.l1),.sl 5 (im x.a1),fD 0,fD 0,fG .empty,.sl 3 [],.sl 5 [],fD 0,.sl 6 [],.sl 1 [],fD 0,fD 0,fG .empty,.sl 3 [],.sl 5 []]]:=by
 rw[MM];rfl
set_option maxHeartbeats 4000000 in
theorem MF{gl:Nat->List D}{C:List iI}(hE:ko C)(hel:C.length<1000000)(x:RD)(I:KI x)(hk:x.kd=3){most:Nat}(hm:most<=1000000)(w:Bool):
 jT fC gl 148 [iD C w,iC] [.jk 0 0,.d x.dec.d,fE most] (abk C x.dec w):=by
 have hcl:=sZ x.cd;have hcl2:=I.cl;have hpn:=I.pn;have hsd:=I.nm;have htz:=I.ty.2;have hsh:=rr (B':=4398046511104) Z I.ty.1;have hdl:=y9 (.mk x.k1 x.n1 x.s1 x.l1 x.a1);have hpi:=se (gl:=gl) x.k1 x.n1 x.s1 x.l1 x.a1 hsh O;have hpz:=nE _ (.mk x.k1 x.n1 x.s1 x.l1 x.a1) (ae _);have hen:=B4 (gl:=gl) (iv (.mk x.k1 x.n1 x.s1 x.l1 x.a1)) x.k1 x.n1 x.s1 x.l1 x.a1 hsh (ae _) O;have htw:=EZ (gl:=gl) x.pd O;have hel2:=BZ C;have hpl9:=jU x.pd;obtain⟨p,hp⟩:∃p:Nat,x.ad=p:=⟨x.ad.toNat,by have:=I.ar.1;omega⟩;have hp99:p<=99:=(by have:=I.ar.2;omega);have hfl:(x0 x).length=x.cd.length+2:=by simp[x0]
 have hfs:=jU (x0 x);obtain⟨kE,mE,sE,lE,aE,Y⟩:=ie.case (jQ (iv (.mk x.k1 x.n1 x.s1 x.l1 x.a1)) (.mk x.k1 x.n1 x.s1 x.l1 x.a1))
 rw[Y] at hen;refine nR Tryz.func148 234 2 ?_;refine oR 12 Ar [.tmp 30] R7 ?_;refine pt 10 (ι:=Nat) (λi=>[(10,int i),(9,.own 4 1 (strs (x.sd::(x.cd.take i).map (·.1))))]) (λi=>[iD C w,iC,Dm x,zO,sR]) [7,4,0,2] (λi=>i<=x.cd.length) (λi=>x.cd.length-i) (0) ([0,1,2,3,4]) (ak _) ?_;rintro i U
 try dsimp only at U
 refine jq 10 ?_ ?_<;>intro h3
 .obtain ⟨cN,cK,cM,cS,cL,cA,F⟩:=zT (show i<x.cd.length by omega);have R:=jU (x.sd::(x.cd.take i).map (·.1));have V:(x.sd::(x.cd.take i).map (·.1)).length<=x.cd.length+1:=(by simp only[aj,bc,bj];omega);refine ni 9 G4 Jt ?_ (hat:=(x8 F));refine oR 2 Ar [.tmp 45] R7 ?_;refine oc (CQ Ar rfl rfl rfl rfl rfl rfl rfl (.inl rfl) Z (by simp) (by(rw[R];simp only[maxLen,aj,aH] at V ⊢;omega)) rfl rfl rfl ?_);refine jS 6 ?_;refine ml 2 (i+1) ([0,1,2,3,4]) ⟨O,O⟩ (hM:=by exact oL (iU (j8 rfl (by exact Fit.of_eq (by rw[<- S7 F];rfl)))))
 obtain rfl:i=x.cd.length:=O;have R:=jU (x.sd::(x.cd.take x.cd.length).map (·.1));have V:(x.sd::(x.cd.take x.cd.length).map (·.1)).length<=x.cd.length+1:=(by simp only[aj,bc,bj];omega);refine rF 10 ?_;refine o1 (Dd ?_ (hb:=by(try simp only[db,zv,dh,aj,aH]);omega));refine oR 0 Ar [.tmp 51] R7 ?_;refine oc (CQ Ar rfl rfl rfl rfl rfl rfl rfl (.inl rfl) Z (by simp) (by(rw[R];simp only[maxLen,aj,aH] at V ⊢;omega)) rfl rfl rfl ?_);refine pt 10 (ι:=Nat) (λi=>[(11,int i),(9,.own 4 1 (strs (x0 x)))]) (λi=>[iD C w,iC,Dm x,zO,sR]) [7,4,0,2] (λi=>i<=(x0 x).length/\(∀ y∈(x0 x).take i,y∉lH C)/\((x0 x).take i).Nodup) (λi=>(x0 x).length-i) (0) ([0,1,2,3,4]) ⟨ak _,λy hy=>by simp at hy,by simp⟩ ?_ (hM:=by exact oL (iU (j8 rfl (by exact Fit.of_eq (by rw[<- VU];rfl)))));rintro i U
 try dsimp only at U
 refine jq 9 ?_ ?_<;>intro h8
 .have hi:i<(x0 x).length:=O;have hst:=HG (x0 x) i;have hkn:=F7 (gl:=gl) C w (x0 x)[i] hE.b;have ham:=tP (gl:=gl) (x0 x)[i] ((x0 x).take i) (by rw[bj];omega);refine rF 9 ?_;refine o1 (Q4 yv Cs ?_ (he:=by exact(u7 hi)));refine nC 1 hkn [0,1] ?_;refine ma 4 [0,1] mixed ?_;refine A1 2 rfl (Q4 yv Cs ⟨_,rfl,?_⟩ (he:=by exact(u7 hi)));refine ga [3,4,5] ?_;refine A1 6 rfl (pa yv Cs rfl rfl rfl rfl rfl rfl O (hst) ⟨_,rfl,?_⟩);refine qB 7 ham ?_;refine ga [8] ?_;refine iB<|rV 5 76 75 1 ?_;refine j7 2 ?_ ?_<;>intro h12
  .refine jS 5 ?_;refine ml 2 (i+1) [0,1,2,3,4] ?_;exact⟨⟨O,VT hi U.2.1 ((ry hE.k0).1 (by simpa using h12.1)),FK hi U.2.2 (by simpa using h12.2)⟩,O⟩
  refine jD 14 (.jj [nU [],iu.d,fD 3]) [0,1] [iD C w,iC] ⟨[],iu,3,w,rfl,rfl,λh=>h,λh=>absurd h O⟩
 obtain rfl:i=(x0 x).length:=O;have r:=U.2;rw[bT] at r;refine wE 9 htw λd hd=>?_;obtain⟨b,rfl,hb⟩:=hd;refine jq 9 ?_ ?_<;>intro h15
 .refine jD 10 (.jj [nU [],iu.d,fD 5]) [0,1] [iD C w,iC] ⟨[],iu,5,w,rfl,rfl,λh=>h,λh=>absurd h O⟩
 have W:x.pd.length<=6:=(hb (by revert h15;cases b<;>simp)).1;have hso:=rY (gl:=gl) hE W hm (S:=800001) Z x.k1 x.n1 x.s1 x.l1 x.a1 [] w (λi y hy=>by simp at hy) (by simp only[aH];omega) htz hsh;refine uo 10 hso [0,1] ?_;rintro s ob' ⟨⟨kr,sr',ar'⟩,code,w1,⟨⟩,rfl,hq2,hq3⟩;refine uv ?_;refine jq 15 ?_ ?_<;>intro h18
 .refine jD 11 (.jj [nU [],iu.d,fD code]) [0,1] [iD C w1,iC] ⟨[],iu,code,w1,rfl,rfl,hq2,λh=>absurd h h18⟩
 obtain rfl:code=0:=O;obtain⟨rfl,hWt,hlr,hSr⟩:=hq3 rfl;have G:Wt (jY C) x.pd (.mk x.k1 x.n1 x.s1 x.l1 x.a1) 0:=hWt;obtain rfl:w=false:=hq2 rfl;refine ny 6 hpi ?_;refine ny 8 hen ?_;refine rV 12 112 109 3 ?_;refine jq 2 ?_ ?_<;>intro h22
 .refine jD 10 (.jj [nU [],iu.d,fD 11]) [0,1] [iD C false,iC] ⟨[],iu,11,false,rfl,rfl,λh=>h,λh=>absurd h O⟩
 obtain⟨h22a,rfl⟩:¬((iv (.mk x.k1 x.n1 x.s1 x.l1 x.a1):Int)<x.ad)/\kE=1:=(by first|exact⟨O,O⟩);have hwe:=(G.yN _ (ae _)).1;rw[Y] at hwe;obtain⟨⟨kl,sl,al⟩,rfl,hlv⟩:=hwe.Uj;have halw:=zj (gl:=gl) W kl sl al hlv;have hnev:=FL (gl:=gl) W kl sl al hlv;obtain⟨M,hM⟩:∃M:Nat,iv (.mk x.k1 x.n1 x.s1 x.l1 x.a1)=p+M:=⟨iv (.mk x.k1 x.n1 x.s1 x.l1 x.a1)-p,O⟩;have hMz:M<=800001:=O;have hMi:(M:Int)=(iv (.mk x.k1 x.n1 x.s1 x.l1 x.a1):Int)-x.ad:=O;have hE2:ko (C++[Ep ⟨x.dec,[],iu⟩]):=hE.ax hel (by
  have:=r.1 x.sd (by simp[x0]);exact this) W (by show x.sd.size<=_;omega) ⟨G,htz⟩
 have hw2:Wt (jY (C++[Ep ⟨x.dec,[],iu⟩])) x.pd (.mk x.k1 x.n1 x.s1 x.l1 x.a1) 0:=G.mono (yE _ _) (λ_ h=>h) (aP _);refine ni 6 oz oP ?_ (hat:=rfl);refine wE 8 halw λd hd=>?_;obtain⟨b1,rfl⟩:=hd;refine wE 6 hnev λd hd=>?_;obtain⟨b2,rfl⟩:=hd
 refine xP 9 127 125 2 ?_;refine rV 1 133 129 4 ?_;refine jq 2 ?_ ?_<;>intro h27
 .refine jD 10 (.jj [nU [],iu.d,fD 11]) [0,1] [iD C false,iC] ⟨[],iu,11,false,rfl,rfl,λh=>h,λh=>absurd h O⟩
 refine sH 7 ?_;refine ma 11 [0,1,2,3,4,5,6,7,8] mixed ?_;refine A2 (T:=λ_=>False) 9 rfl (qL N5 rfl rfl rfl rfl rfl rfl (by simp only[aj,aH,Nat.reduceAdd];rfl) rfl rfl Z (by(simp only[maxLen,aj,aH];omega)) rfl rfl rfl ?_);refine ga [10,11] ?_;refine nO 12 ?_;refine iB<|ma 2 [0,1,2,3,4,5,6,7,8,9,10,11,12] mixed ?_;refine A2 13 rfl (CW N5 [.tmp 166] W5 ?_);refine A2 14 rfl (ya N5 ?_);refine ga [15,16] ?_;refine nO 17 ?_;refine iB<|rF 3 ?_;skip;have hfw:∀ob,Fit ob (SV.own 9 21 (yo C++[[D.v (.int .i64 1),fG x.sd,.sl 1 (strs x.pd),fD x.k1,fD x.n1,fG x.s1,.sl 3 (iR x.l1),.sl 5 (im x.a1),fD 0,fD 0,fG .empty,fJ,fJ,fD 0,fJ,fJ,fD 0,fD 0,fG .empty,fJ,fJ]])) (SV.own 9 21 (yo (C++[Ep ⟨x.dec,[],iu⟩]))):=λob=>by
  rw[TC];refine Fit.own (x6 ?_ _)
  repeat (first|exact .nil|exact .cons .nil .nil|refine .cons (.refl _) ?_|refine .cons .nil ?_)
 refine pt 5 (ι:=Nat×Bool) (λ⟨i,w2⟩=>[(24,int i)]) (λ⟨i,w2⟩=>[iD C false,iC,Dm x,zO,sR,lO kr sr' ar',tO 1 mE sE [.mk kl sl al] aE,lO kl sl al,Yd 9 (C++[Ep ⟨x.dec,[],iu⟩]) w2,iC]) [23,22,19,7,4,2] (λ⟨i,w2⟩=>i<=x.cd.length/\∀c∈x.cd.take i,Wt (jY (C++[Ep ⟨x.dec,[],iu⟩])) x.pd c.2 0/\p<=iv c.2/\G7 x.sd p c.2/\CtF (C++[Ep ⟨x.dec,[],iu⟩]) x.sd p M (.mk x.k1 x.n1 x.s1 x.l1 x.a1) c.2) (λ⟨i,w2⟩=>x.cd.length-i) ((0,false)) ([0,1,2,3,4,5,6,7,8,9]) ?I7 ?H7 (hM:= ?M7)
 case I7=>
  exact⟨ak _,λc hc=>by simp at hc⟩
 case M7=>
  refine mo ?_ (iU (iU (iU (iU (iU (iU (iU rA)))))))
  repeat (first|exact nw|exact C9|refine jN ?_|refine oT ?_|refine Ky ?_ ?_|refine jw ?_|refine .cons (hfw _) ?_)
 case H7=>
  rintro⟨i,w2⟩ U
  try dsimp only at U
  refine jq 10 ?_ ?_<;>intro h34
  .obtain ⟨cN,cK,cM,cS,cL,cA,F⟩:=zT (show i<x.cd.length by omega);obtain⟨g1,g2,g3⟩:=I.cs _ (aO F);have hct:=Tp (gl:=gl) hE2 x W p hp hm (S:=800001) Z M hw2 htz hM cN cK cM cS cL cA w2 g2 (rr Z g1) kl sl al hlv;rw[hMi] at hct;refine ma 5 [0,1,2,3,4] mixed ?_;refine pQ 5 G4 Jt ?_ (hat:=(x8 F));refine ga [6,7,8,9] ?_;refine MZ 10 hct [8,9] ?_;rintro s ob' ⟨code,w4,⟨⟩,rfl,hq2,hq3⟩;refine Lg ?_;refine ga [11] ?_;refine iB<|j7 7 ?_ ?_<;>intro h37
   .refine jS 5 ?_;refine ml 2 (i+1,w4) [0,1,2,3,4,5,6,7,8,9] ?_
    .refine ⟨⟨O,λc hc=>?_⟩,show _-(i+1)<_-i by omega⟩;rw[bo,F] at hc;rcases bn.1 hc with hc|hc
     .exact U.2 c hc
     .simp only[dq,bF] at hc;subst hc;exact hq3 O
   refine jD 15 (.jj [nU [],iu.d,fD code]) [0,1] [iD C false,iC] ⟨[],iu,code,false,rfl,rfl,λh=>h,λh=>absurd h h37⟩
  obtain rfl:i=x.cd.length:=O;have z:=U.2;rw[bT] at z;have hla:=OY (gl:=gl) hE2 x W p hp O hm (S:=800001) Z (λc hc=>⟨(z c hc).1,(I.cs c hc).2.1⟩) w2 kl sl al hlv;refine uo 11 hla [8,9] ?_;rintro s ob' ⟨b3,code,w4,⟨⟩,rfl,hq2⟩;refine uv ?_;refine jq 14 ?_ ?_<;>intro h40
  .refine jD 11 (.jj [nU [],iu.d,fD code]) [0,1] [iD C false,iC] ⟨[],iu,code,false,rfl,rfl,λh=>h,λh=>absurd h h40⟩
  refine jq 9 ?_ ?_<;>intro h42
  .have J:=Ul (e:=⟨x.dec,[],iu⟩) hE.k0 (by rw[zP hk];exact r.1);have H:=Ac (gl:=gl) (sg:=Un C x.dec) (ps:=x.pd) x p M hp 0 .empty [] ⟨.zero,rfl,⟨Z,Z,λe=>absurd e Z,trivial⟩,λp h=>h.elim⟩ Z (hw2.mono J (λ_ h=>h) (aP _)) O hM (λc hc=>⟨(z c hc).1.mono J (λ_ h=>h) (aP _),(z c hc).2.1,Uk C x.dec hc,by have:=(I.cs c hc).2.1;omega⟩) I.csz (Of C x.dec) (λq hq=>⟨hq,I.pd q hq⟩) W;rw[hMi] at H;refine ma 1 [0,1,2,3,4] mixed ?_;refine A2 (T:=λ_=>False) 5 rfl (oK Y7 rfl rfl rfl rfl (H) (oq (jw (.cons (.Yh rfl (by repeat (first|exact .refl _|exact .nil|refine .agg ?_|refine .cons ?_ ?_))) .nil))) (λd hd=>?_));obtain⟨⟨kT,mT,sT,lT,aT⟩,rfl,hT1,hT2,hT3⟩:=hd;refine ga [6] ?_;refine nO 7 ?_;refine ga [8] ?_;refine iB<|jD 3 (.jj [nU x.pd,(ie.mk kT mT sT lT aT).d,fD 0]) [0,1] [iD C false,iC] ?_
   .exact ⟨x.pd,_,0,false,rfl,rfl,λh=>h,λ_=>⟨by rw[zP hk];exact r.1,by rw[zP hk];exact r.2,W,G,by show x.ad<=(iv (.mk x.k1 x.n1 x.s1 x.l1 x.a1):Int);omega,λc hc=>⟨(z c hc).1.mono J (λ_ h=>h) (aP _),by show x.ad<=_;rw[hp];exact Int.ofNat_le.2 (z c hc).2.1,by show G7 x.sd x.ad c.2;rw[hp];exact(z c hc).2.2.1⟩,O,⟨hT1,hT2⟩,hSr,λc hc=>by rw[show x.dec.ar.toNat=p by show x.ad.toNat=p;omega,show iv x.dec.ty-p=M by show iv (.mk x.k1 x.n1 x.s1 x.l1 x.a1)-p=M;omega];exact(z c hc).2.2.2,⟨_,_,_,_,Y⟩,by rw[show x.dec.ar.toNat=p by show x.ad.toNat=p;omega,show iv x.dec.ty-p=M by show iv (.mk x.k1 x.n1 x.s1 x.l1 x.a1)-p=M;omega];exact hT3⟩⟩
  refine vq 14 (ι:=Nat) (λk=>[(26,fI (rN k)),(27,int k)]) [22,7,4] (λk=> ∀j,j<k->rN j∈x.pd) (λk=>x.pd.length+1-k) (0) (λj h=>absurd h (cT _)) ?_;rintro k U
  try dsimp only at U
  have hk7:=UD U;have ham:=tP (gl:=gl) (rN k) x.pd O;have hdg:=MR (gl:=gl) (k+1) O;have hds:=IQ (k+1);refine ny 6 ham ?_;refine jq 2 ?_ ?_<;>intro h46
  .refine jS 6 ?_;refine ny 5 hdg ?_;refine o1 (Dd ?_ (hb:=by(try simp only[db,zv,dh,aj,aH]);omega));refine qX 3 (k+1) ?_
   .have hin:rN k∈x.pd:=sn.1 (by simpa using h46);have hk9:∀j,j<k+1->rN j∈x.pd:=λj hj=>by
     rcases bV j k with h|h
     .exact U j h
     .obtain rfl:j=k:=O;exact hin
    have hk8:=UD hk9;exact⟨hk9,O⟩
  refine oR 8 Ar [.tmp 222] R7 ?_;refine rF 8 ?_;refine oc (px Ar rfl rfl rfl (.inl rfl) rfl rfl rfl (.inl rfl) Z (by(simp only[maxLen,aj,aH];omega)) rfl rfl rfl ?_);have J:=Ul (e:=⟨x.dec,[],iu⟩) hE.k0 (by rw[zP hk];exact r.1);have hps:∀q∈x.pd,q∈rN k::x.pd:=λq hq=>bB _ hq
  have H:=Ac (gl:=gl) (sg:=Un C x.dec) (ps:=rN k::x.pd) x p M hp 4 (rN k) [] ⟨.param (rN k),rfl,⟨Z,Z,λ_=>acv k,trivial⟩,λq hq=>by have h9:q=rN k:=hq;rw[h9];exact bC⟩ (by simp only[iq.size,iG];omega) (hw2.mono J hps (aP _)) O hM (λc hc=>⟨(z c hc).1.mono J hps (aP _),(z c hc).2.1,Uk C x.dec hc,by have:=(I.cs c hc).2.1;omega⟩) I.csz (Of C x.dec) (λq hq=>⟨hps q hq,I.pd q hq⟩) W;rw[hMi] at H;refine rF 10 ?_;refine oc (T:=λ_=>False) (oK Y7 rfl rfl rfl rfl (H) (oq (jw (.cons (.Yh rfl (by repeat (first|exact .refl _|exact .nil|refine .agg ?_|refine .cons ?_ ?_))) .nil))) (λd hd=>?_));obtain⟨⟨kT,mT,sT,lT,aT⟩,rfl,hT1,hT2,hT3⟩:=hd;refine jD 6 (.jj [nU (rN k::x.pd),(ie.mk kT mT sT lT aT).d,fD 0]) [0,1] [iD C false,iC] ?_
  .exact ⟨rN k::x.pd,_,0,false,rfl,rfl,λh=>h,λ_=>⟨by rw[zP hk];exact r.1,by rw[zP hk];exact r.2,W,G,by show x.ad<=(iv (.mk x.k1 x.n1 x.s1 x.l1 x.a1):Int);omega,λc hc=>⟨(z c hc).1.mono J (λ_ h=>h) (aP _),by show x.ad<=_;rw[hp];exact Int.ofNat_le.2 (z c hc).2.1,by show G7 x.sd x.ad c.2;rw[hp];exact(z c hc).2.2.1⟩,by simp only[aj];omega,⟨hT1,hT2⟩,hSr,λc hc=>by rw[show x.dec.ar.toNat=p by show x.ad.toNat=p;omega,show iv x.dec.ty-p=M by show iv (.mk x.k1 x.n1 x.s1 x.l1 x.a1)-p=M;omega];exact(z c hc).2.2.2,⟨_,_,_,_,Y⟩,by rw[show x.dec.ar.toNat=p by show x.ad.toNat=p;omega,show iv x.dec.ty-p=M by show iv (.mk x.k1 x.n1 x.s1 x.l1 x.a1)-p=M;omega];exact hT3⟩⟩
theorem MH(s:fB)(i:Nat):(s.extract i (i+1)).size<=1:=by rw[cC];omega
def abg(h:List iI)(i:mJ)(w:Bool)(c:Out)(e:List Ob):Prop:=
 ∃(code:Int) (b:Bool),c=.ret (.d (.v (.int .i64 code)))/\e=[iD h b,iC]/\(b=false->w=false)/\(code=0->RR h i)
set_option maxHeartbeats 1600000 in
theorem Oy{e:List iI}(C:ko e)(x:RD)(F:KI x)(hk:x.kd=1\/x.kd=2){j:Nat}(R:j<=1000000)(w:Bool):
 jT fC gl 149 [iD e w,iC] [.jk 0 0,.d x.dec.d,fE j] (abg e x.dec w):=by
 have hpn:=F.pn;have G:=F.ty.2;have V:=rr (B':=4398046511104) Z F.ty.1;have hdl:=y9 (.mk x.k1 x.n1 x.s1 x.l1 x.a1);have W:=EZ (gl:=gl) x.pd O;have Y:=F7 (gl:=gl) e w x.sd C.b;refine nR Tryz.func149 58 2 ?_;refine nC 11 Y [0,1] ?_;refine jq 9 ?_ ?_<;>intro H
 .refine jD 7 (fD 3) [0,1] [iD e w,iC] ⟨3,w,rfl,rfl,λh=>h,λh=>absurd h O⟩
 refine wE 6 W λd hd=>?_;obtain⟨b,rfl,hb⟩:=hd;refine jq 9 ?_ ?_<;>intro h5
 .refine jD 7 (fD 5) [0,1] [iD e w,iC] ⟨5,w,rfl,rfl,λh=>h,λh=>absurd h O⟩
 have I:x.pd.length<=6:=(hb (by revert h5;cases b<;>simp)).1;have q:x.sd∉lH e:=(ry C.k0).1 (by simpa using H);have hso:=rY (gl:=gl) C I R (S:=800001) Z x.k1 x.n1 x.s1 x.l1 x.a1 [] w (λi y hy=>by simp at hy) (by simp only[aH];omega) G V;refine uo 10 hso [0,1] ?_;rintro s ob' ⟨⟨kr,sr',ar'⟩,code,w1,⟨⟩,rfl,J,z⟩;refine uv ?_;refine rV 14 36 33 3 ?_;refine jq 2 ?_ ?_<;>intro h8
 .refine jD 8 (fD code) [0,1] [iD e w1,iC] ?_
  .refine ⟨code,w1,rfl,rfl,J,λh=>?_⟩;have h9:x.kd=1:=O;exact⟨q,I,(z h).2.1,λH=>absurd (h9.symm.trans H) Z,(z h).2.2.2,λH=>absurd (h9.symm.trans H) Z⟩
 obtain⟨rfl,M⟩:code=0/\x.kd=2:=⟨O,O⟩;obtain⟨rfl,hWt,hlr,hSr⟩:=z rfl;have r:Wt (jY e) x.pd (.mk x.k1 x.n1 x.s1 x.l1 x.a1) 0:=hWt;obtain rfl:w=false:=J rfl;have hvz:=(F.vl M).2;have hvs:=rr (B':=4398046511104) Z (F.vl M).1;have hdv:=y9 (.mk x.k2 x.n2 x.s2 x.l2 x.a2);have hin:=AJ (gl:=gl) C I R (S:=800001) Z _ (.mk x.k2 x.n2 x.s2 x.l2 x.a2) (dI _) [] false (λi y hy=>by simp at hy) (by simp only[aH];omega) hvz hvs;refine uo 10 hin [0,1] ?_;rintro s ob' ⟨⟨ku,mu,su,lu,au⟩,k,w2,⟨⟩,rfl,hq4,hq5⟩;refine uv ?_;refine jq 15 ?_ ?_<;>intro h11
 .refine jD 8 (fD k) [0,1] [iD e w2,iC] ⟨k,w2,rfl,rfl,λ_=>rfl,λh=>absurd h h11⟩
 obtain rfl:k=0:=O;obtain⟨rfl,hWv,hHv,hTv⟩:=hq5 rfl;have hmu:=CS (gl:=gl) C I (c:=0) (aP _) (S:=800001) (n2:=0) R false ku mu su lu au x.k1 x.n1 x.s1 x.l1 x.a1 O O hHv (.base r G);refine uo 9 hmu [0,1] ?_;rintro s ob' ⟨U,w3,⟨⟩,rfl,hq6,hq7,hq8⟩;refine uv ?_;refine jD 4 (fD U) [0,1] [iD e w3,iC] ⟨U,w3,rfl,rfl,λ_=>rfl,λh=>⟨q,I,r,λ_=>hWv,hSr,λ_=>hTv.conv (hq8 h)⟩⟩
def abp(h:List iI)(i:mJ)(w:Bool)(c:Out)(e:List Ob):Prop:=
 ∃(code:Int) (k:Bool) (b:List iI),c=.ret (.d (.v (.int .i64 code)))/\e=[iD b k,iC]/\(k=false->w=false)/\rI b/\((code=0/\∃rp rt,b=h++[⟨i,rp,rt⟩])\/(code≠0/\b=h))
theorem IN(e:List iI)(x:RD)(h:List fB)(j m:Int)(s:fB)(i:List iq)(c:List ie):yo (e++[⟨x.dec,h,.mk j m s i c⟩])=yo e++[[fD x.kd,fG x.sd,.sl 1 (strs x.pd),fD x.k1,fD x.n1,fG x.s1,.sl 3 (iR x.l1),.sl 5 (im x.a1),fD x.k2,fD x.n2,fG x.s2,.sl 3 (iR x.l2),.sl 5 (im x.a2),fD x.ad,.sl 6 (qW x.cd),.sl 1 (strs h),fD j,fD m,fG s,.sl 3 (iR i),.sl 5 (im c)]]:=by
 rw[MM];rfl
set_option maxHeartbeats 1600000 in
theorem Wr{gl:Nat->List D}{c:List iI}(i:rI c)(e:c.length<1000000)(x:RD)(q:KI x){j:Nat}(H:j<=1000000)(w:Bool):
 jT fC gl 120 [iD c w,iC] [.jk 0 0,.d x.dec.d,fE j] (abp c x.dec w):=by
 have I:=BZ c;have J:=i.f.ok;refine nR Tryz.func120 56 2 ?_;refine jq 14 ?_ ?_<;>intro W
 .have z:x.kd=3:=O;have C:=MF (gl:=gl) J e x q z H w;refine uo 5 C [0,1] ?_;rintro s ob' ⟨rp,⟨kT,M,R,S,V⟩,code,r,⟨⟩,rfl,y,U⟩;refine uv ?_;refine rF 17 ?_;refine xo (ι:=List iI) (λb=>[]) (λb=>[iD b r,iC]) [9] (λb=>rI b/\((code=0/\∃rp rt,b=c++[⟨x.dec,rp,rt⟩])\/(code≠0/\b=c))) rfl ?_ ?_
  .refine j7 0 ?_ ?_<;>intro Y
   .refine ml 1 (c) [0,1] ?_;exact⟨i,.inr ⟨O,rfl⟩⟩
   refine ma 0 [0,1,2,3,4,5,6,7,8] mixed ?_;refine A2 9 rfl (CW N5 [.tmp 32] W5 ?_);refine A2 10 rfl (ya N5 ?_);refine ga [11,12] ?_;refine nO 13 ?_;refine iB<|bk (c++[⟨x.dec,rp,.mk kT M R S V⟩]) rfl ?_ ([0,1]) ?_
   .exact ⟨.X5 i ((U O).env i.f e q z) ((U O).fax i.f e q) q.ar.1 z (U O),.inl ⟨O,_,_,rfl⟩⟩
   .refine mo ?_ (iU rA)
    repeat (first|exact nw|exact C9|refine oT ?_|refine Ky ?_ ?_|refine jw ?_|refine .cons ((by rw[IN];exact Fit.refl _)) ?_)
  .rintro b k
   try dsimp only at k
   refine jD 8 (fD code) [0,1] [iD b r,iC] ⟨code,r,b,rfl,rfl,y,k.1,k.2⟩
 have z:x.kd=1\/x.kd=2:=(by rcases q.k with h|h|h;exact .inl h;exact .inr h;omega);have F:=Oy (gl:=gl) J x q z H w;refine uo 7 F [0,1] ?_;rintro s ob' ⟨code,r,⟨⟩,rfl,y,U⟩;refine uv ?_;refine rF 10 ?_;refine xo (ι:=List iI) (λb=>[]) (λb=>[iD b r,iC]) [10] (λb=>rI b/\((code=0/\∃rp rt,b=c++[⟨x.dec,rp,rt⟩])\/(code≠0/\b=c))) rfl ?_ ?_
 .refine j7 0 ?_ ?_<;>intro h7
  .refine ml 1 (c) [0,1] ?_;exact⟨i,.inr ⟨O,rfl⟩⟩
  skip
  have G:∀ob,Fit ob (SV.own 1 21 (yo c++[[D.v (.int .i64 x.kd),fG x.sd,.sl 1 (strs x.pd),fD x.k1,fD x.n1,fG x.s1,.sl 3 (iR x.l1),.sl 5 (im x.a1),fD x.k2,fD x.n2,fG x.s2,.sl 3 (iR x.l2),.sl 5 (im x.a2),fD x.ad,.sl 6 (qW x.cd),fJ,fD 0,fD 0,fG .empty,fJ,fJ]])) (SV.own 1 21 (yo (c++[⟨x.dec,[],iu⟩]))):=λob=>by
   rw[show iu=.mk 0 0 .empty [] [] from rfl,IN];refine Fit.own (x6 ?_ _)
   repeat (first|exact .nil|exact .cons .nil .nil|refine .cons (.refl _) ?_|refine .cons .nil ?_)
  refine ma 0 [0,1,2,3,4,5,6] mixed ?_;refine A2 7 rfl (CW N5 [.tmp 50] W5 ?_);refine A2 8 rfl (ya N5 ?_);refine ga [9,10] ?_;refine nO 11 ?_;refine iB<|bk (c++[⟨x.dec,[],iu⟩]) rfl ?_ ([0,1]) ?_
  .exact ⟨.pln i ((U O).env i.f e q O) (show x.kd≠3 by omega) (U O),.inl ⟨O,_,_,rfl⟩⟩
  .refine mo ?_ (iU rA)
   repeat (first|exact nw|exact C9|refine oT ?_|refine Ky ?_ ?_|refine jw ?_|refine .cons (G _) ?_)
 .rintro b k
  try dsimp only at k
  refine jD 7 (fD code) [0,1] [iD b r,iC] ⟨code,r,b,rfl,rfl,y,k.1,k.2⟩
end
section
open Go Go.Vd Go.RowKit
theorem tG:∀l:jC,10*l.size<=l.weight
 | .zero=>by simp[jC.size,jC.weight]
 | .succ a=>by have:=tG a;simp only[jC.size,jC.weight];omega
 | .max a b=>by have:=tG a;have:=tG b;simp only[jC.size,jC.weight];omega
 | .imax a b=>by have:=tG a;have:=tG b;simp only[jC.size,jC.weight];omega
 | .param s=>by simp only[jC.size,jC.weight];omega
theorem F3(n)(c:r.p<=s.size):(je n s r).1.size+2*r.p<=1+2*(je n s r).2.p:=by
 obtain⟨x,b,_,hw⟩:=F5 n c;rw[b,x.nq];have:=tG x;omega
theorem L9:∀(n:Nat) {r:RS},r.p<=s.size->iG (kQ n s r).1+4*r.p<=1+4*(kQ n s r).2.p:=by
 intro n
 induction n with
 |zero=>intro r b;simp only[kQ,iG];omega
 |succ n U=>
  intro r b;simp only[kQ];split
  .rename_i c;have h:=oB (s:=s) (s.size+1) b;have j:=F3 (s:=s) (s.size+1) b;have q:=U h.2;simp only[iG];cases k:(je (s.size+1) s r).2.f with
   |none=>
    have x:=F4 b c.1 k;omega
   |some a=>
    have i:kQ n s (je (s.size+1) s r).2=([],(je (s.size+1) s r).2):=by
     cases n with
     |zero=>rfl
     |succ n=>simp only[kQ];rw[if_neg (by rintro⟨e,_⟩;rw[k] at e;cases e)]
    rw[i];simp only[iG];omega
  .simp only[iG];omega
theorem SP(e)(c:r.p<=s.size):iG (tj s e r).2.1+4*r.p<=1+4*(tj s e r).2.2.p:=by
 unfold tj;split
 .have b:=oB (s:=s) (s.size+1) c;have U:=F3 (s:=s) (s.size+1) c;simp only[iG];omega
 .split
  .have b:=n7 (s:=s) c;have U:=L9 (s.size+2) b.2;simp only;omega
  .simp only[iG];omega
theorem N6(l x):ij (l++[x])=ij l+x.size:=by
 induction l with
 |nil=>simp[ij]
 |cons a r b=>simp[ij,b];omega
theorem zq:∀(n:Nat) (r:RS),r.p<=s.size->(jt n s r).1.size+4*r.p<=1+4*(jt n s r).2.p:=by
 have hz:iu.size=1:=rfl;intro n
 induction n with
 |zero=>intro r b;simp only[jt,hz];omega
 |succ n z=>
  have k:∀(i:Nat) {r:RS},r.p<=s.size->ij (nJ (jt n s) i r).1+4*r.p<=i+4*(nJ (jt n s) i r).2.p:=by
   intro i
   induction i with
   |zero=>intro r b;simp only[nJ,ij];omega
   |succ i h=>
    intro r b;have c:=h b;have e:=uR (s:=s) (f:=jt n s) (λr j=>nN n r j) i b;have q:=z _ e.2;simp only[nJ,N6];omega
  intro r b;obtain⟨p,f⟩:=r;simp only at b;cases f with
  |some a=>simp only[jt,hz];omega
  |none=>
   have c:=ke (s:=s) (r:=⟨p,none⟩) b;simp only at c ⊢;by_cases x:DU (iE s p).1
   .by_cases U:(iE s p).1=⟨#[40]⟩
    .by_cases y:pP (iE s (iz s ⟨p,none⟩).2.p).1=0
     .rw [Ap U y,RS.rG];show iu.size+4*p<=_;rw[hz];exact fh (Nat.mul_le_mul_left 4 c.1) 1
     .have C:p<(iz s ⟨p,none⟩).2.p:=by
       have F:=pF (s:=s) b;rw[sk (by rw[U];decide),U];have:(ByteArray.mk #[40]).size=1:=rfl;simp only;omega
      have e:=ke (s:=s) (r:=(iz s ⟨p,none⟩).2) c.2;have q:=BQ (s:=s) (pP (iE s (iz s ⟨p,none⟩).2.p).1) e.2;have I:=SP (s:=s) (pP (iE s (iz s ⟨p,none⟩).2.p).1) e.2;have G:=uR (s:=s) (f:=jt n s) (λr j=>nN n r j) (partsOf (pP (iE s (iz s ⟨p,none⟩).2.p).1)) q.2;have J:=k (partsOf (pP (iE s (iz s ⟨p,none⟩).2.p).1)) q.2;have F:=jy (s:=s) (w:=⟨#[41]⟩) G.2;have M:=Fu (pP (iE s (iz s ⟨p,none⟩).2.p).1);rw[Ao (nm:=(tj s (pP (iE s (iz s ⟨p,none⟩).2.p).1) (iz s (iz s ⟨p,none⟩).2).2).1) (L:=(tj s (pP (iE s (iz s ⟨p,none⟩).2.p).1) (iz s (iz s ⟨p,none⟩).2).2).2.1) (r3:=(tj s (pP (iE s (iz s ⟨p,none⟩).2.p).1) (iz s (iz s ⟨p,none⟩).2).2).2.2) U rfl y rfl];simp only[ie.size];omega
    .rw [Cq x U];simp only[ie.size,iG,ij];have H:(RS.mk p none).p=p:=rfl;omega
   .rw [Cr x,RS.rG];show iu.size+4*p<=1+4*p;rw[hz];exact ae _
theorem ZT(h:rC w):w≠ .empty:=λe=>by
 have:=h.ne;rw[e] at this;exact absurd this Z
theorem FM(c:r.p<=s.size):(jW s r).1.size<=s.size:=by
 obtain⟨p,f⟩:=r;have k:ByteArray.empty.size=0:=rfl;have b:(iE s p).1.size<=s.size:=by have:=pF (s:=s) (p:=p) c;omega
 unfold jW;dsimp only;split
 .simp only;omega
 .cases f with
  |none=>exact b
  |some a=>simp only;omega
theorem zD:∀(n:Nat) (r:RS),(nA n s r).1.length<=n:=by
 intro n
 induction n with
 |zero=>intro r;simp[nA]
 |succ n b=>
  intro r;simp only[nA];split
  .simp only[aj];exact fo (b _)
  .simp
theorem To:∀(n:Nat) (r:RS),(ns n s r).1.length<=n:=by
 intro n
 induction n with
 |zero=>intro r;simp[ns]
 |succ n b=>
  intro r;simp only[ns];split
  .simp only[aj];exact fo (b _)
  .simp
theorem Tq(c:r.p<=s.size):(oI s r).1.2.size+4*r.p<=1+4*(oI s r).2.p/\(oI s r).1.1.size<=s.size/\(oI s r).1.2.size<=1+4*s.size:=by
 have U:=jy (s:=s) (w:=⟨#[40]⟩) c;have b:=jy (s:=s) (w:=uB) U.2;have k:=n7 (s:=s) b.2;have i:=zq (s:=s) (s.size+1) _ k.2;have e:=nN (s:=s) (s.size+1) _ k.2;have j:=jy (s:=s) (w:=⟨#[41]⟩) e.2;have h:=FM b.2;unfold oI;dsimp only;exact⟨O,h,O⟩
theorem PX:∀(n:Nat) {r:RS},r.p<=s.size->MX (ns n s r).1+4*r.p<=n+4*(ns n s r).2.p/\∀c∈(ns n s r).1,c.1.size<=s.size/\c.2.size<=1+4*s.size:=by
 intro n
 induction n with
 |zero=>intro r b;simp only[ns];exact⟨by simp[MX,ij],λc hc=>by cases hc⟩
 |succ n U=>
  intro r b;simp only[ns];split
  .have e:=Tq b;have k:=U (B9 (s:=s) b).2;refine⟨?_,λc hc=>?_⟩
   .have h:∀(c:fB×ie) l,MX (c::l)=c.2.size+MX l:=λc l=>by simp only[MX,bG,ij]
    rw[h];have:=k.1;simp only;omega
   .rcases bh.1 hc with rfl|hc
    .exact e.2
    .exact k.2 c hc
  .exact ⟨by simp[MX,ij],λc hc=>by cases hc⟩
structure Zi (N:Nat) (d:mJ):Prop where
 nm:d.nm.size<=N
 pn:d.ps.length<=N+2
 ty:d.ty.size<=1+4*N
 vl:d.vl.size<=1+4*N
 cs:∀c∈d.cs,c.1.size<=N/\c.2.size<=1+4*N
 csz:MX d.cs<=5*N+2
 cl:d.cs.length<=N+2
theorem Zi.zero(N k){ps:List fB}(h1:e.size<=N)(h2:ps.length<=N+2):Zi N (.mk k e ps iu iu 0 []):=
 ⟨h1,h2,by show 1<=_;omega,by show 1<=_;omega,λc b=>(by cases b),by simp[mJ.cs,MX,ij],by simp[mJ.cs]⟩
theorem XQ(c:r.p<=s.size):(ji s r).2.1.size<=s.size/\(ji s r).2.2.1.length<=s.size+2:=by
 have b:=jy (s:=s) (w:=⟨#[40]⟩) c;have k:=ke (s:=s) b.2;have U:ByteArray.empty.size=0:=rfl;unfold ji;dsimp only;split
 .exact ⟨by simp only;omega,by simp⟩
 .exact ⟨FM k.2,zD _ _⟩
theorem W9(i:r.p<=s.size)(x:e.size<=s.size)(y:h.length<=s.size+2):Zi s.size (sS s G e h a r).1:=by
 have t1:=zq (s:=s) (s.size+1) r i;have t2:=nN (s:=s) (s.size+1) r i;have U:=Eu (s:=s) (k:=G) t2.2;have z:(Aj s G (jt (s.size+1) s r).2).1.size<=1+4*s.size:=by
  unfold Aj;split
  .have j:=zq (s:=s) (s.size+1) _ t2.2;have C:=nN (s:=s) (s.size+1) _ t2.2;omega
  .show 1<=_;omega
 have b:∀r:RS,r.p<=s.size->(∀ c∈(wc s G r).1,c.1.size<=s.size/\c.2.size<=1+4*s.size)/\MX (wc s G r).1<=5*s.size+2/\(wc s G r).1.length<=s.size+2:=λr q=>by
  unfold wc;split
  .have j:=PX (s:=s) (s.size+2) q;have C:=IW (s:=s) (s.size+2) q;have F:=To (s:=s) (s.size+2) r;exact⟨j.2,O,F⟩
  .exact ⟨λc b=>(by cases b),by simp[MX,ij],by simp⟩
 unfold sS;dsimp only;exact⟨x,y,by show(jt (s.size+1) s r).1.size<=_;omega,z,(b _ U.2).1,(b _ U.2).2.1,(b _ U.2).2.2⟩
theorem Ym(c:r.p<=s.size):Zi s.size (oh s r).1:=by
 have k:=v9 (s:=s) c;have b:=XQ c;have U:ByteArray.empty.size=0:=rfl;unfold oh;dsimp only;split
 .exact Zi.zero _ _ O (by simp)
 .split
  .exact Zi.zero _ _ b.1 b.2
  .exact W9 (xp (s:=s) k.2).2 b.1 b.2
theorem X3:∀(n:Nat) {r:RS},r.p<=s.size->(pS n s r).1.length<=n/\∀d∈(pS n s r).1,Zi s.size d:=by
 intro n
 induction n with
 |zero=>intro r b;exact⟨by simp[pS],λd hd=>by simp[pS] at hd⟩
 |succ n k=>
  intro r b;have h:=k (GJ (s:=s) b).2;simp only[pS];split
  .refine ⟨by simp only[aj];exact fo h.1,λd hd=>?_⟩;rcases bh.1 hd with rfl|hd
   .exact Ym b
   .exact h.2 d hd
  .exact ⟨by simp,λd hd=>by simp at hd⟩
theorem ZP(M:N<=200000){d:mJ}(h:Q9 d)(j:Zi N d):∃x:RD,d=x.dec/\KI x:=by
 obtain⟨k,s,ps,k1,n1,s1,l1,a1,k2,n2,s2,l2,a2,a,cs,rfl⟩:=mJ.case d
 obtain⟨R,r,y,U⟩:=h;obtain⟨z,C,F,G,e,H,I⟩:=j;simp only[mJ.nm,mJ.ps,mJ.ty,mJ.vl,mJ.cs] at z C F G e H I;refine⟨⟨k,s,ps,k1,n1,s1,l1,a1,k2,n2,s2,l2,a2,a,cs⟩,rfl,⟨?_,?_,λq J=>ZT (r q J),⟨yD y,?_⟩,?_,?_,?_,?_,?_,?_,?_,?_⟩⟩
 .simp only;omega
 .simp only;omega
 .simp only;omega
 .intro i;simp only at i ⊢;rcases U with g|g|g
  .omega
  .exact ⟨yD g.2.1,O⟩
  .omega
 .simp only;rcases U with g|g|g
  .omega
  .omega
  .exact ⟨g.2.2.1,g.2.2.2.1⟩
 .intro c b;simp only at b;rcases U with g|g|g
  .rw [g.2.2.2] at b;cases b
  .rw [g.2.2.2] at b;cases b
  .exact ⟨yD (g.2.2.2.2 c b).2,by have:=(e c b).2;omega,by have:=(e c b).1;omega⟩
 .simp only;omega
 .simp only;omega
 .simp only;rcases U with g|g|g<;>omega
 .intro i;simp only at i ⊢;rcases U with g|g|g
  .exact g.2.2.2
  .exact g.2.2.2
  .omega
 .simp only;omega
theorem OC(h:(pL s).2.1=0):(pL s).1.length<=200002/\∀d∈(pL s).1,∃x:RD,d=x.dec/\KI x:=by
 have b:=JQ h;unfold pL at h b ⊢;split at h
 .exact absurd h Z
 .rename_i k;rw[if_neg k] at b ⊢;have hz:=X3 (s:=s) (s.size+2) (r:=⟨0,none⟩) (ak _);unfold oY at h b ⊢;split at h
  .rename_i U;rw[U] at b;simp only at b ⊢;exact⟨aQ hz.1 O,λd hd=>ZP (N:=s.size) O (b d hd) (hz.2 d hd)⟩
  .exact absurd (show(1:Int)=0 from h) Z
end
section
open Go Go.Vd Go.RowKit
attribute [local irreducible] iK iL jI ik iW jH
theorem Ti(s)(hs:s.size<=1099511627776)(r)(hp:r.p<=s.size):
 jT fC (xt g) 147 [rT s r] [.jk 0 0] λout ob'=>out=.ret (.d (oh s r).1.d)/\ob'=[rT s (oh s r).2]:=by
 refine nR Tryz.func147 146 1 ?_;refine nC 8 (qu s ⟨#[40]⟩ r hs hp) [0] ?_;have e1:=(jy (s:=s) (w:=⟨#[40]⟩) hp).2;generalize J:jF s ⟨#[40]⟩ r=j at e1 ⊢;refine nC 5 (kH s j.p (iV j.f) (ot j.f) hs e1) [0] ?_;refine rF 22 ?_;refine xo (ι:=Nat) (λk=>[]) (λk=>[rT s j,.cells [fE 0,fI .empty,fK,fE 0,fE 0,fI .empty,fK,fK,fE 0,fE 0,fI .empty,fK,fK,fE 0,fK] 61,.cells [fE k,fI .empty,fK,fE 0,fE 0,fI .empty,fK,fK,fE 0,fE 0,fI .empty,fK,fK,fE 0,fK] 61]) [6,2,0] (λk=>DR (iE s j.p).1=k/\¬k=0) rfl ?_ ?_
 .refine jq 7 ?_ ?_<;>intro h7
  .refine ml 5 (1) [0,1,2] ?_;rw[h7];decide
  refine jq 6 ?_ ?_<;>intro h9
  .refine ml 5 (2) [0,1,2] ?_;rw[h9];decide
  refine jq 6 ?_ ?_<;>intro M
  .refine ml 5 (3) [0,1,2] ?_;rw[M];decide
  refine nC 4 (oC s (iE s j.p).2.1 j) [0] ?_;refine jD 11 ((mJ.mk 0 .empty [] iu iu 0 []).d) [0] [rT s (j.fail (iE s j.p).2.1)] ?_
  .rw [PT J (Mc h7 h9 M)];exact⟨rfl,rfl⟩
 .rintro k e
  try dsimp only at e
  obtain⟨hk,R⟩:=e;have e2:=(ke (s:=s) (r:=j) e1).2;have e3:=(n7 (s:=s) (r:=(iz s j).2) e2).2;have e4:=(jy (s:=s) (w:=⟨#[40]⟩) (r:=(jW s (iz s j).2).2) e3).2;refine nC 3 (rO s j hs e1) [0] ?_;refine nC 5 (zF s (iz s j).2 hs e2) [0] ?_;refine nC 7 (qu s ⟨#[40]⟩ (jW s (iz s j).2).2 hs e3) [0] ?_;refine rF 4 ?_;refine iP 9 1 rfl<|pt 0 (ι:=Nat×List fB×RS) (λ⟨m,c,U⟩=>[]) (λ⟨m,c,U⟩=>[rT s U,.cells [fE 0,fI .empty,fK,fE 0,fE 0,fI .empty,fK,fK,fE 0,fE 0,fI .empty,fK,fK,fE 0,fK] 61,.cells [fE k,fI (jW s (iz s j).2).1,.own 3 1 (strs c),fE 0,fE 0,fI .empty,fK,fK,fE 0,fE 0,fI .empty,fK,fK,fE 0,fK] 61,.row 9 1]) [6,2,0] (λ⟨m,c,U⟩=>U.p<=s.size/\c.length+m=s.size+2/\(U.f=none->s.size-U.p<m)/\nA (s.size+2) s (jF s ⟨#[40]⟩ (jW s (iz s j).2).2)=(c++(nA m s U).1,(nA m s U).2)) (λ⟨m,c,U⟩=>m) ((s.size+2,[],jF s ⟨#[40]⟩ (jW s (iz s j).2).2)) ([0,1,2,3]) ?I9 ?H9 (hM:= ?M9)
  case I9=>
   exact⟨e4,by simp,λ_=>O,rfl⟩
  case M9=>
   refine mo ?_ (iU (iU (iU rA)))
   repeat (first|exact nw|exact C9|refine jN ?_|refine D3 ?_|refine Ky ?_ ?_|refine jw ?_|refine .cons (.nil rfl) ?_)
  case H9=>
   rintro⟨m,c,U⟩ b
   try dsimp only at b
   refine' DM 10 50 47 3 ?a1 ?_
   case a1=>
    intro S F;refine nC 1 (CO s U hs b.1) [0] ?_;refine rF 1 ?_;exact F [_,_,_] rfl rfl
   refine jq 2 ?_ ?_<;>intro x
   .have hm1:=b.2.2.1 (nK.1 x.1);have hln:=jU c;refine ma 3 [0,1,2] mixed ?_;refine A2 3 rfl (ck agc rfl rfl (zF s U hs b.1) [0] rfl (jN .nil) (jw .nil) ?_);refine A2 4 rfl (CW Ar [.tmp 55] R7 ?_);refine A2 5 rfl (ya Ar ?_);refine ga [6] ?_;refine nO 7 ?_;refine iB<|rF 1 ?_;rw[wG];refine ml 0 (m-1,c++[(jW s U).1],(jW s U).2) [0,1,2,3] ?_;exact⟨OK b ⟨nK.1 x.1,x.2⟩ rfl,show m-1<m by omega⟩
   have e5:nA (s.size+2) s (jF s ⟨#[40]⟩ (jW s (iz s j).2).2)=(c,U):=(by rw[b.2.2.2,OJ (by rintro⟨ha,hb⟩;rcases x with h|h;exact h (nK.2 ha);exact hb h),bR]);have e6:=MV J hk R rfl e5;have I:=(jy (s:=s) (w:=⟨#[41]⟩) (r:=U) b.1).2;refine nC 8 (qu s ⟨#[41]⟩ U hs b.1) [0] ?_;generalize hr6:jF s ⟨#[41]⟩ U=i at e6 I ⊢;generalize hnm:(jW s (iz s j).2).1=nm at e6 ⊢;refine rF 10 ?_;refine xo (ι:=Int×RS) (λ⟨a,r7⟩=>[]) (λ⟨a,r7⟩=>[rT s r7,.cells [fE 0,fI .empty,fK,fE 0,fE 0,fI .empty,fK,fK,fE 0,fE 0,fI .empty,fK,fK,fE 0,fK] 61,.cells [fE k,fI nm,.own 3 1 (strs c),fE 0,fE 0,fI .empty,fK,fK,fE 0,fE 0,fI .empty,fK,fK,fE a,fK] 61,.row 9 1]) [6,2,0] (λ⟨a,r7⟩=>qm s k i=(a,r7)/\¬(k=3/\¬ze (iE s i.p))) rfl ?_ ?_
   .refine j7 0 ?_ ?_<;>intro h19
    .refine ml 1 (0,i) [0,1,2,3] ?_;exact⟨by unfold qm;rw[if_neg O],λh=>O⟩
    refine nC 3 (kH s i.p (iV i.f) (ot i.f) hs I) [0] ?_;refine rV 15 74 72 2 ?_;refine' Cg 1 79 76 3 ?a3 ?_
    case a3=>
     intro S F;refine rF 1 ?_;refine gy<|o1 (P3 Du ?_ (h01:=by have h1:=size_pos S.2;omega));refine rF 1 ?_;exact F [_,_,_] rfl rfl
    refine' Cg 1 84 81 3 ?a4 ?_
    case a4=>
     intro S F;refine rF 1 ?_;refine gy<|o1 (P3 Du ?_ (h01:=by have h1:=size_pos S.1.2;omega));refine rF 1 ?_;exact F [_,_,_] rfl rfl
    refine rV 1 89 86 3 ?_;refine j7 2 ?_ ?_<;>intro V
    .have hz:iM (iE s i.p).1 (Int.toNat 0)=iM (iE s i.p).1 0:=rfl;obtain⟨⟨⟨⟨_,g1⟩,g2⟩,g3⟩,g4⟩:=V;have y:ze (iE s i.p):=⟨g1,O,O,O⟩;have e8:=(ke (s:=s) (r:=i) I).2;have e9:=QA (s:=s) I y.1 ⟨y.2.1,y.2.2.1⟩;refine nC 5 (rO s i hs I) [0] ?_;refine ny 4 (DN (iE s i.p).1 e9.1 e9.2.1) ?_;refine ml 3 (vn (iE s i.p).1 (iE s i.p).1.size,(iz s i).2) [0,1,2,3] ?_;exact⟨by unfold qm;rw[if_pos O],λh=>h.2 y⟩
    obtain rfl:k=3:=O;refine nC 4 (oC s (iE s i.p).2.1 i) [0] ?_;refine jD 11 ((mJ.mk 3 nm c iu iu 0 []).d) [0] [rT s (i.fail (iE s i.p).2.1)] ?_
    .rw [Tl e6 (by unfold ze;rintro⟨b1,b2,b3,b4⟩;have hz:iM (iE s i.p).1 (Int.toNat 0)=iM (iE s i.p).1 0:=rfl;rcases V with(((h|h)|h)|h)|h;exact b1 (Al h);exact b1 h;omega;omega;omega)];exact⟨rfl,rfl⟩
   .rintro ⟨a,r7⟩ e
    try dsimp only at e
    obtain⟨c1,c2⟩:=e;have e10:=(xp (s:=s) (k:=k) I).2;rw[c1] at e10;refine rF 1 ?_;simp only at e10;have e11:=(nN (s:=s) (s.size+1) r7 e10).2;obtain⟨k1,n1,s1,l1,a1,hX⟩:=ie.case (jt (s.size+1) s r7).1;refine rF 2 ?_;refine oc (iX Wg rfl rfl rfl rfl (zo s hs (s.size+1) r7 e10 O) [0] (jN .nil) rfl rfl rfl rfl (jw .nil) (λs ob' hq=>?_) (λs ob' hq=>?_))
    rotate_left
    .first|exact hq.elim|cases hq.1
    obtain⟨q,rfl⟩:=hq;rw[hX] at q;cases q;refine⟨_,_,_,_,_,rfl,rfl,rfl,rfl,rfl,?_⟩;generalize hr8:(jt (s.size+1) s r7).2=r8 at e11 ⊢;refine rF 12 ?_;refine xo (ι:=Int×Int×fB×List iq×List ie×RS) (λ⟨k2,n2,s2,l2,a2,C⟩=>[]) (λ⟨k2,n2,s2,l2,a2,C⟩=>[rT s C,.cells [fE 0,fI .empty,fK,fE 0,fE 0,fI .empty,fK,fK,fE 0,fE 0,fI .empty,fK,fK,fE 0,fK] 61,.cells [fE k,fI nm,.own 3 1 (strs c),fE k1,fE n1,fI s1,.d (.sl 3 (iR l1)),.d (.sl 5 (im a1)),fE k2,fE n2,fI s2,.d (.sl 3 (iR l2)),.d (.sl 5 (im a2)),fE a,fK] 61,.row 9 1]) [6,2,0] (λ⟨k2,n2,s2,l2,a2,C⟩=>Aj s k r8=(.mk k2 n2 s2 l2 a2,C)) rfl ?_ ?_
    .refine j7 0 ?_ ?_<;>intro h27
     .refine rF 1 ?_;refine bk ((0,0,.empty,[],[],r8)) rfl ?_ ([0,1,2,3]) ?_
      .unfold Aj;rw[if_neg O];rfl
      .refine mo ?_ (iU (iU (iU rA)))
       repeat (first|exact nw|exact C9|refine jN ?_|refine oT ?_|refine Ky ?_ ?_|refine jw ?_|refine XU ?_)
     obtain⟨k2,n2,s2,l2,a2,W⟩:=ie.case (jt (s.size+1) s r8).1;refine rF 2 ?_;refine oc (iX Wg rfl rfl rfl rfl (zo s hs (s.size+1) r8 e11 O) [0] (jN .nil) rfl rfl rfl rfl (jw .nil) (λs ob' hq=>?_) (λs ob' hq=>?_))
     rotate_left
     .first|exact hq.elim|cases hq.1
     obtain⟨q,rfl⟩:=hq;rw[W] at q;cases q;refine⟨_,_,_,_,_,rfl,rfl,rfl,rfl,rfl,?_⟩;refine ml 3 (k2,n2,s2,l2,a2,(jt (s.size+1) s r8).2) [0,1,2,3] ?_;exact(by unfold Aj;rw[if_pos O];exact Prod.ext W rfl)
    .rintro ⟨k2,n2,s2,l2,a2,C⟩ e
     try dsimp only at e
     have G:=(Eu (s:=s) (k:=k) e11).2;rw[e] at G;refine rF 2 ?_;simp only at G;refine iP 65 6 rfl<|pt 0 (ι:=Nat×List (fB×ie)×RS) (λ⟨m,cs,U⟩=>[]) (λ⟨m,cs,U⟩=>[rT s U,.cells [fE 0,fI .empty,fK,fE 0,fE 0,fI .empty,fK,fK,fE 0,fE 0,fI .empty,fK,fK,fE 0,fK] 61,.cells [fE k,fI nm,.own 3 1 (strs c),fE k1,fE n1,fI s1,.d (.sl 3 (iR l1)),.d (.sl 5 (im a1)),fE k2,fE n2,fI s2,.d (.sl 3 (iR l2)),.d (.sl 5 (im a2)),fE a,.own 4 6 (qW cs)] 61,.row 9 1,.row 65 6]) [6,2,0] (λ⟨m,cs,U⟩=>U.p<=s.size/\cs.length+m=s.size+2/\(U.f=none->s.size-U.p<m)/\xm k (s.size+2) s C=(cs++(xm k m s U).1,(xm k m s U).2)) (λ⟨m,cs,U⟩=>m) ((s.size+2,[],C)) ([0,1,2,3,4]) ?I12 ?H12 (hM:= ?M12)
     case I12=>
      exact⟨G,by simp,λ_=>O,rfl⟩
     case M12=>
      refine mo ?_ (iU (iU (iU rA)))
      repeat (first|exact nw|exact C9|refine jN ?_|refine oT ?_|refine D3 ?_|refine Ky ?_ ?_|refine jw ?_|refine .cons (.nil rfl) ?_)
     case H12=>
      rintro⟨m,cs,U⟩ b
      try dsimp only at b
      refine xP 7 118 112 6 ?_;refine' DM 1 123 120 3 ?a7 ?_
      case a7=>
       intro S F;refine nC 1 (CO s U hs b.1) [0] ?_;refine rF 1 ?_;exact F [_,_,_] rfl rfl
      refine j7 2 ?_ ?_<;>intro z
      .have e13:xm k (s.size+2) s C=(cs,U):=(by rw[b.2.2.2,Ts (by rintro⟨h1,h2,h3⟩;rcases z with(h|h)|h;omega;exact h (nK.2 h2);exact h h3),bR]);refine nC 8 (qu s ⟨#[41]⟩ U hs b.1) [0] ?_;refine jD 9 ((mJ.mk k nm c (.mk k1 n1 s1 l1 a1) (.mk k2 n2 s2 l2 a2) a cs).d) [0] [rT s (jF s ⟨#[41]⟩ U)] ?_
       .rw [PU e6 R c2 c1 (Prod.ext hX hr8) e e13];exact⟨rfl,rfl⟩
      have hm1:=b.2.2.1 (nK.1 z.1.2);have hln:=sZ cs;have f1:=(jy (s:=s) (w:=⟨#[40]⟩) b.1).2;have f2:=(jy (s:=s) (w:=uB) f1).2;have f3:=(n7 (s:=s) f2).2;have f4:=(nN (s:=s) (s.size+1) _ f3).2;obtain⟨k3,n3,s3,l3,a3,Y⟩:=ie.case (jt (s.size+1) s (jW s (jF s uB (jF s ⟨#[40]⟩ U))).2).1
      have H:qW cs++[[fG (jW s (jF s uB (jF s ⟨#[40]⟩ U))).1,fD k3,fD n3,fG s3,.sl 3 (iR l3),.sl 5 (im a3)]]=qW (cs++[((jW s (jF s uB (jF s ⟨#[40]⟩ U))).1,.mk k3 n3 s3 l3 a3)]):=by rw[V9];rfl
      refine nC 6 (qu s ⟨#[40]⟩ U hs b.1) [0] ?_;refine nC 5 (qu s uB (jF s ⟨#[40]⟩ U) hs f1) [0] ?_;refine nC 5 (zF s (jF s uB (jF s ⟨#[40]⟩ U)) hs f2) [0] ?_;refine rF 8 ?_;refine oc (iX Wg rfl rfl rfl rfl (zo s hs (s.size+1) (jW s (jF s uB (jF s ⟨#[40]⟩ U))).2 f3 O) [0] (jN .nil) rfl rfl rfl rfl (jw .nil) (λs ob' hq=>?_) (λs ob' hq=>?_));rotate_left
      .first|exact hq.elim|cases hq.1
      obtain⟨q,rfl⟩:=hq;rw[Y] at q;cases q;refine⟨_,_,_,_,_,rfl,rfl,rfl,rfl,rfl,?_⟩;refine nC 7 (qu s ⟨#[41]⟩ (jt (s.size+1) s (jW s (jF s uB (jF s ⟨#[40]⟩ U))).2).2 hs f4) [0] ?_;refine oR 6 acp [.tmp 139] ace ?_;refine oc (ya acp ?_);refine rF 4 ?_;rw[H];rw[show jF s ⟨#[41]⟩ (jt (s.size+1) s (jW s (jF s uB (jF s ⟨#[40]⟩ U))).2).2=(oI s U).2 from rfl];refine ml 0 (m-1,cs++[((jW s (jF s uB (jF s ⟨#[40]⟩ U))).1,.mk k3 n3 s3 l3 a3)],(oI s U).2) [0,1,2,3,4] ?_;exact⟨Tt b O ⟨nK.1 z.1.2,z.2⟩ (by rw[<- Y];rfl),show m-1<m by omega⟩
theorem G8(s)(C:s.size<=268435456):jA fC (xt g) 119 [fG s] (· =.jj [.sl 15 (ui (oY s).1),.agg [fD (oY s).2.1,fD (oY s).2.2]]):=by
 have x:s.size<=1099511627776:=O;refine oN Tryz.func119 42 ?_;refine rF 21 ?_;refine iP 61 15 rfl<|pt 0 (ι:=Nat×List mJ×RS) (λ⟨m,acc,U⟩=>[(5,.own 2 15 (ui acc))]) (λ⟨m,acc,U⟩=>[.cells [fE 0,fE 0] 78,rT s U,.row 61 15]) [4,3] (λ⟨m,acc,U⟩=>U.p<=s.size/\acc.length+m=s.size+2/\(U.f=none->s.size-U.p<m)/\pS (s.size+2) s ⟨0,none⟩=(acc++(pS m s U).1,(pS m s U).2)) (λ⟨m,acc,U⟩=>m) ((s.size+2,[],⟨0,none⟩)) ([0,1,2]) ⟨ak _,by simp,λ_=>(show s.size-0<s.size+2 by omega),rfl⟩ ?_ (hM:=by exact oL (j8 rfl (by exact Fit.nil rfl)));rintro⟨m,acc,U⟩ b
 try dsimp only at b
 refine j7 11 ?_ ?_<;>intro e
 .refine ma 6 [0,1,2,3,4] mixed ?_;refine nO 5 ?_;refine iB<|v8 2 (.jj [.sl 15 (ui []),.agg [fD (iV U.f),fD (ot U.f)]]) ?_;rw[S6 (acc:=acc) (r:=U) (by rw[b.2.2.2,Dc (by rintro⟨ha,_⟩;exact e (nK.2 ha)),bR]) e]
 refine nC 6 (kH s U.p (iV U.f) (ot U.f) x b.1) [1] ?_;refine xP 14 28 26 2 ?_;refine jq 2 ?_ ?_<;>intro y
 .refine v8 14 (.jj [.sl 15 (ui acc),.agg [fD 0,fD 0]]) ?_;rw[G9 (acc:=acc) (r:=U) (by rw[b.2.2.2,Dc (by rintro⟨_,F⟩;exact F y),bR]) (nK.1 e)]
 have q:¬atEnd s U:=(by intro h;rcases y with h'|h';(rw[h.1] at h';cases h');exact h' h.2);have G:=b.2.2.1 (nK.1 e);have H:=GI acc;obtain⟨k,nm,ps,k1,n1,s1,l1,a1,k2,n2,s2,l2,a2,a,cs,z⟩:=mJ.case (oh s U).1
 have c:ui acc++[[fD k,fG nm,.sl 1 (strs ps),fD k1,fD n1,fG s1,.sl 3 (iR l1),.sl 5 (im a1),fD k2,fD n2,fG s2,.sl 3 (iR l2),.sl 5 (im a2),fD a,.sl 6 (qW cs)]]=ui (acc++[mJ.mk k nm ps (.mk k1 n1 s1 l1 a1) (.mk k2 n2 s2 l2 a2) a cs]):=(by rw[MU];rfl);refine rF 5 ?_;refine oc (iX adz rfl rfl rfl rfl (Ti s x U b.1) [1] (jN .nil) rfl rfl rfl rfl (jw .nil) (λs ob' j=>?_) (λs ob' j=>?_));rotate_left
 .first|exact j.elim|cases j.1
 obtain⟨i,rfl⟩:=j;rw[z] at i;cases i;refine⟨_,_,_,_,_,rfl,rfl,rfl,rfl,rfl,?_⟩;refine oR 7 Xf [.tmp 35] R8 ?_;refine oc (ya Xf ?_);refine rF 3 ?_;rw[c];refine bk ((m-1,acc++[mJ.mk k nm ps (.mk k1 n1 s1 l1 a1) (.mk k2 n2 s2 l2 a2) a cs],(oh s U).2)) rfl ?_ ([0,1,2]) ?_
 .exact ⟨S4 b ⟨nK.1 e,q⟩ z,show m-1<m by omega⟩
 .exact mz
theorem yO(s):jA fC (xt g) 78 [fG s] (· =.jj [.sl 15 (ui (pL s).1),.agg [fD (pL s).2.1,fD (pL s).2.2]]):=by
 refine oN Tryz.func78 12 ?_;refine jq 14 ?_ ?_<;>intro b
 .refine v8 9 (.jj [.sl 15 (ui []),.agg [fD 2,fD 0]]) ?_;unfold pL;rw[if_pos O]
 refine ny 5 (G8 s O) ?_;refine v8 7 (.jj [.sl 15 (ui (oY s).1),.agg [fD (oY s).2.1,fD (oY s).2.2]]) ?_;unfold pL;rw[if_neg O]
def KJ(h:List iI->Bool->Prop)(c:Out)(e:List Ob):Prop:=
 ∃(es:List iI) (w:Bool) (n code b:Int),c=.ret (.jj [.jk 0 0,.d (.v (.int .i64 n)),.agg [.d (.v (.int .i64 code)),.d (.v (.int .i64 b))]])/\e=[iD es w,iC]/\h es w
def EpG(c:List iI)(_:Bool):Prop:=rI c/\c.length<=200002
theorem ME{y:Nat->List D}(c:List mJ)(z:∀d∈c,∃x:RD,d=x.dec/\KI x)(R:c.length<=200002){e:Nat}(I:e<=1000000):
 jT fC y 79 [] [.d (.sl 15 (ui c)),fE e] (KJ EpG):=by
 have J:=GI c;refine nR Tryz.func79 36 0 ?_;refine rF 16 ?_;refine iP 63 21 rfl<|pt 5 (ι:=Nat×Bool×List iI) (λ⟨i,w,es⟩=>[(8,int i)]) (λ⟨i,w,es⟩=>[.cells [fE 0,fE 0] 78,Yd 2 es w,iC]) [7,6,0,1] (λ⟨i,w,es⟩=>i<=c.length/\rI es/\es.length<=i) (λ⟨i,w,es⟩=>c.length-i) ((0,false,[])) ([0,1,2]) ?I1 ?H1 (hM:= ?M1)
 case I1=>
  exact⟨ak _,rI.nil,ak _⟩
 case M1=>
  refine mo ?_ (iU (iU (iU (iU (iU rA)))))
  repeat (first|exact nw|exact C9|refine jN ?_|refine D3 ?_|refine Ky ?_ ?_|refine jw ?_|refine .cons (.nil rfl) ?_)
 case H1=>
  rintro⟨i,w,es⟩ b
  try dsimp only at b
  refine j7 9 ?_ ?_<;>intro S
  .refine rF 17 ?_;refine fR<|pe ⟨_,_,rfl,rfl,⟨_,_,rfl,rfl,⟨_,_,rfl,(jB rfl rfl NT rfl rfl rfl rfl),rfl⟩⟩⟩ [1,2] (.jj [.jk 0 0,fE (ui c).length,.agg [fE 0,fE 0]]) ([iD es w,iC]) rfl rfl rfl ?_ rfl ?_ ?_
   .repeat (first|exact nw|refine jN ?_|refine oT ?_)
   .exact .refl _
   .exact ⟨es,w,_,0,0,rfl,rfl,⟨b.2.1,O⟩⟩
  have H:i<c.length:=O;obtain⟨x,C,F⟩:=z _ (bS H);have U:c[i]? =some x.dec:=(by rw[aZ H,C]);have j:=Wr (gl:=y) b.2.1 O x F I w;refine ni 9 ac5 afd ?_ (hat:=(aav U));refine uo 2 j [1,2] ?_;rintro s ob' ⟨code,G,k,⟨⟩,rfl,M,q,r⟩;refine uv ?_;refine j7 9 ?_ ?_<;>intro V
  .refine jS 5 ?_;refine ml 2 (i+1,G,k) [0,1,2] ?_
   .refine ⟨⟨O,q,?_⟩,show _-(i+1)<_-i by omega⟩;rcases r with⟨_,rp,rt,rfl⟩|⟨h,_⟩
    .rw [aN];simp only[aj,aH];omega
    .omega
  refine rF 18 ?_;refine fR<|pe ⟨_,_,rfl,rfl,⟨_,_,rfl,rfl,⟨_,_,rfl,(jB rfl rfl NT rfl rfl rfl rfl),rfl⟩⟩⟩ [1,2] (.jj [.jk 0 0,fE i,.agg [fE code,fE i]]) ([iD k G,iC]) rfl rfl rfl ?_ rfl ?_ ?_
  .repeat (first|exact nw|refine jN ?_|refine oT ?_)
  .exact .refl _
  .refine ⟨k,G,i,code,i,rfl,rfl,⟨q,?_⟩⟩;rcases r with⟨_,rp,rt,rfl⟩|⟨_,rfl⟩
   .rw [aN];simp only[aj,aH];omega
   .omega
def rS(c:List iI)(w:Bool):List Ob:=[pE (c.map (·.d)),dR,.jK (o7 c),Yd 4 c w,iC]
def Ib(x:Step)(e m:SV):SV:=.agg [.d (.v (.int .i64 x.k)),.d (.v (.string x.s)),.d (.v (.string x.t)),.d (.v (.string x.u)),.d (.v (.int .i64 x.a)),.d (.v (.int .i64 x.b)),e,m]
def acw(x:Step)(e m:SV):Ob:=.cells [.d (.v (.int .i64 x.k)),.d (.v (.string x.s)),.d (.v (.string x.t)),.d (.v (.string x.u)),.d (.v (.int .i64 x.a)),.d (.v (.int .i64 x.b)),e,m] 34
def pEk(i j:Nat)(c:List mJ):Ob:=.cells [.own i 15 (ui c),.map j] 98
def wO(a c:SV):Ob:=.cells [a,c] 32
theorem P5:jA fC c 8 [] (· =fF true):=by
 refine oN Tryz.func8 5 ?_;refine nC 7 LR [] ?_;refine rF 6 ?_;refine o1 (My ac9 rfl rfl ?_);refine od 4 ?_;rfl
set_option maxHeartbeats 1600000 in
theorem D0(H:nS c)(w):
 jT fC gl 46 [iD c w,iC] [.jk 0 0] λout ob'=>out=.ret (.agg [.jk 2 0,.jk 0 0])/\ob'=[iD c w,iC,pEk 3 4 (c.map (·.d)),dR,.jK (o7 c)]:=by
 have J:=H.ok.len;have I:=BZ c;refine nR Tryz.func46 48 2 ?_;refine nC 7 LR [] ?_;refine rF 7 ?_;refine o1 (GB ac9 ?_);refine vw 2 ?_;refine pt 9 (ι:=Nat) (λi=>[(4,int i)]) (λi=>[iD c w,iC,wO (.d (.v (.pointer none))) (.d (.v (.pointer none))),pEk 4 5 ((c.take i).map (·.d)),dR,.jK (o7 (c.take i))]) [3,2,0] (λi=>i<=c.length) (λi=>c.length-i) (0) ([0,1,2,3,4,5]) (ak _) ?_;rintro i q
 try dsimp only at q
 refine j7 12 ?_ ?_<;>intro M
 .obtain rfl:i=c.length:=O;refine rF 6 ?_;rw[bT];refine rF 8 ?_;refine fR<|pe ⟨_,_,rfl,(jB rfl rfl W7 rfl rfl rfl rfl),rfl⟩ [0,1,3,4,5] (.agg [.jk 2 0,.jk 0 0]) ([iD c w,iC,pEk 3 4 (c.map (·.d)),dR,.jK (o7 c)]) rfl rfl rfl ?_ rfl ?_ ?_
  .repeat (first|exact nw|refine jN ?_|refine oT ?_|refine rl ?_)
  .exact .refl _
  .exact ⟨rfl,rfl⟩
 obtain⟨kd,sd,pd,k1,n1,s1,l1,a1,k2,n2,s2,k,a2,ad,U,h,s,n3,x,y,z,b⟩:=Rn (show i<c.length by omega);have j:=H.ok.AZ _ (aO b);have r:c.take (i+1)=c.take i++[⟨.mk kd sd pd (.mk k1 n1 s1 l1 a1) (.mk k2 n2 s2 k a2) ad U,h,.mk s n3 x y z⟩]:=(by rw[bo,b];rfl);have C:((c.take i).map (·.d)).length<=1000000:=(by rw[bc,bj];omega);have e:=Sm (gl:=gl) ((c.take i).map (·.d)) (o7 (c.take i)) ⟨kd,sd,pd,k1,n1,s1,l1,a1,k2,n2,s2,k,a2,ad,U⟩ j.k j.nm C j.cl h s n3 x y z;have F:(c.take (i+1)).map (·.d)=(c.take i).map (·.d)++[RD.dec ⟨kd,sd,pd,k1,n1,s1,l1,a1,k2,n2,s2,k,a2,ad,U⟩]:=(by rw[r,bf];rfl);have G:o7 (c.take (i+1))=Fq (o7 (c.take i)) ⟨RD.dec ⟨kd,sd,pd,k1,n1,s1,l1,a1,k2,n2,s2,k,a2,ad,U⟩,h,.mk s n3 x y z⟩:=(by rw[r,LZ];rfl);rw[<- F,<-G] at e;refine ma 4 [0,1,2,3,4,5] mixed ?_;refine A1 6 rfl (Q4 KQ NV ⟨_,rfl,?_⟩ (he:=by exact(AS b)));refine ga [7,8,9,10,11,12,13] ?_;refine A1 14 rfl (Q4 KQ NV ⟨_,rfl,?_⟩ (he:=by exact(AS b)));refine ga [15,16,17,18,19,20,21] ?_;refine A1 22 rfl (Q4 KQ NV ⟨_,rfl,?_⟩ (he:=by exact(AS b)));refine ga [23,24] ?_;refine A2 25 rfl (ck agd rfl rfl (e) [3,4,5] rfl (jN (oT (.cons rfl .jK .nil))) (jw (oq (jw (oq .nil)))) ?_);refine iB<|jS 4 ?_;refine ml 2 (i+1) [0,1,2,3,4,5] ?_;exact⟨O,O⟩
theorem VS(s)(i:most<=1000000)(e:¬(pL s).2.1=0):
 jT fC (xt g) 45 [] [fI s,fE most] λout ob'=> ∃n c a:Int,out=.ret (.jj [.d (.v (.pointer none)),fE n,.agg [fE c,fE a]])/\ob'=[]:=by
 have b:=yO (g:=g) s;rcases k:pL s with⟨j,U,h⟩;rw[k] at b e;simp only at b e;refine nR Tryz.func45 24 0 ?_;refine ny 10 b ?_;refine j7 16 ?_ ?_<;>intro q
 .contradiction
 refine ma 1 [0,1,2] mixed ?_;refine nO 3 ?_;refine iB<|rF 3 ?_;refine fR<|pe ⟨_,_,rfl,rfl,⟨_,_,rfl,rfl,⟨_,_,rfl,(jB rfl rfl NT rfl rfl rfl rfl),rfl⟩⟩⟩ [] (.jj [.d (.v (.pointer none)),fE 0,.agg [fE U,fE h]]) ([]) rfl rfl rfl ?_ rfl ?_ ?_
 .exact nw
 .exact .refl _
 .exact ⟨_,_,_,rfl,rfl⟩
theorem S5(s)(q:pL s=(h,0,j))(e:jT fC (xt g) 79 [] [.d (.sl 15 (ui h)),fE most] (KJ i)):
 jT fC (xt g) 45 [] [fI s,fE most] λout ob'=> ∃(es:List iI) (w:Bool) (n c a:Int),out=.ret (.jj [.jk 0 0,fE n,.agg [fE c,fE a]])/\ob'=[iD es w,iC]/\i es w:=by
 have b:=yO (g:=g) s;rw[q] at b;simp only at b;generalize r:(0:Int)=x at b;refine nR Tryz.func45 24 0 ?_;refine ny 10 b ?_;refine jq 16 ?_ ?_<;>intro y
 .omega
 refine uo 6 e [] ?_;rintro s ob' ⟨es,w,n,code,k,⟨⟩,rfl,U⟩;refine uv ?_;refine rF 9 ?_;refine fR<|pe ⟨_,_,rfl,rfl,⟨_,_,rfl,rfl,⟨_,_,rfl,(jB rfl rfl NT rfl rfl rfl rfl),rfl⟩⟩⟩ [2,3] (.jj [.jk 0 0,fE n,.agg [fE code,fE k]]) ([iD es w,iC]) rfl rfl rfl ?_ rfl ?_ ?_
 .repeat (first|exact nw|refine jN ?_|refine oT ?_)
 .exact .refl _
 .exact ⟨es,w,n,_,_,rfl,rfl,U⟩
def KG(h:List iI->Bool->Prop)(c:Out)(e:List Ob):Prop:= ∃(es:List iI) (w:Bool),h es w/\c=.ret (.agg [.jk 0 0,.jk 3 0])/\e=rS es w
theorem ET(s)(q:pL s=(i,0,j))(r:∀es w,e es w->nS es)(h:jT fC (xt g) 79 [] [.d (.sl 15 (ui i)),fE 3000] (KJ e)):jT fC (xt g) 22 [] [fI s] (KG e):=by
 have b:=S5 (g:=g) s (most:=3000) q h;refine nR Tryz.func22 18 0 ?_;refine uo 8 b [] ?_;rintro s ob' ⟨es,w,n,c,a,⟨⟩,rfl,U⟩;have k:=D0 (gl:=xt g) (r _ _ U) w;refine uv ?_;refine rF 14 ?_;refine o1 (GB ac8 ?_);refine vw 2 ?_;refine nC 5 k [1,2] ?_;refine rF 4 ?_;refine fR<|pe ⟨_,_,rfl,(jB rfl rfl W7 rfl rfl rfl rfl),rfl⟩ [4,5,6,1,2] (.agg [.jk 0 0,.jk 3 0]) (rS es w) rfl rfl rfl ?_ rfl ?_ ?_
 .repeat (first|exact nw|refine jN ?_|refine oT ?_|refine rl ?_)
 .exact .refl _
 .exact ⟨es,w,U,rfl,rfl⟩
theorem RY(s)(e:¬(pL s).2.1=0):jT fC (xt g) 22 [] [fI s] (KG λes _=>rI es):=by
 have b:=VS (g:=g) s (most:=3000) Z e;have k:=D0 (gl:=xt g) nS.nil false;refine nR Tryz.func22 18 0 ?_;refine uo 8 b [] ?_;rintro s ob' ⟨n,c,a,⟨⟩,rfl⟩;refine uv ?_;refine rF 14 ?_;refine o1 (PA ac8 ?_);refine Eo 2 ?_;refine rF 7 ?_;refine iP 63 21 rfl<|rF 2 ?_;refine oc (ck agj rfl rfl (k) [2,3] rfl (.cons rfl (.cells rfl (by repeat (first|exact C9|refine jw ?_|refine .cons (.nil rfl) ?_))) (D3 .nil)) (jw .nil) ?_);refine rF 4 ?_;refine fR<|pe ⟨_,_,rfl,(jB rfl rfl W7 rfl rfl rfl rfl),rfl⟩ [4,5,6,2,3] (.agg [.jk 0 0,.jk 3 0]) (rS [] false) rfl rfl rfl ?_ rfl ?_ ?_
 .repeat (first|exact nw|refine jN ?_|refine oT ?_|refine rl ?_)
 .exact .refl _
 .exact ⟨[],false,.nil,rfl,rfl⟩
theorem ES(s):jT fC (xt g) 22 [] [fI s] (KG λes _=>rI es):=by
 by_cases h:(pL s).2.1=0
 .obtain ⟨k,U⟩:=OC (s:=s) h;rcases c:pL s with⟨e,q,r⟩;rw[c] at h k U;simp only at h k U;subst h;refine(ET s c (λ_ _ h=>h.1.f) (ME e U k Z)).mono λo b h=>?_
  obtain⟨es,w,i,j⟩:=h;exact⟨es,w,i.1,j⟩
 .exact RY s h
def CL(c:Nat):D:=.v (.pointer (some ⟨c,0,none⟩))
def vC(th:List uD)(c e:Nat):Prop:= ∃(k:Nat) (qT:List Pl) (es:List iI) (w:Bool),th[k]? =some ⟨rS es w,qT⟩/\rI es/\qT[0]? =some (.loc c)/\qT[3]? =some (.loc e)
theorem vC.more(h:vC e i j)(q:∀(k:Nat) x,e[k]? =some x->c[k]? =some x):vC c i j:=by
 obtain⟨k,qT,es,w,b,U⟩:=h;exact⟨k,qT,es,w,q _ _ b,U⟩
structure Cd where
 x:Step
 b1:Nat
 b2:Nat
def Cd.cells(e:Cd):List D:=[.v (.int .i64 e.x.k),.v (.string e.x.s),.v (.string e.x.t),.v (.string e.x.u),.v (.int .i64 e.x.a),.v (.int .i64 e.x.b),CL e.b1,CL e.b2]
def yM(l:List Cd):List (List D):=l.map Cd.cells
theorem H8(l):(yM l).length=l.length:=by simp[yM]
theorem Ia(l e):yM l++[e.cells]=yM (l++[e]):=by simp[yM]
def plR:Ob:=.row 34 8
theorem UE(c:List uD)(x:uD):∀(k:Nat) y,c[k]? =some y->(c++[x])[k]? =some y:=λk y h=>by
 rw[bl (aJ.1 h).1];exact h
theorem Ln(q:rI h)(r:c[0]? =some (.loc i))(s:c[3]? =some (.loc j)):vC (e++[⟨rS h w,c⟩]) i j:=
 ⟨e.length,c,h,w,by simp,q,r,s⟩
set_option maxHeartbeats 1600000 in
theorem Ls(l)(hl:l.length<=1048576):
 jT fC (xt g) 9 [] [.d (.sl 6 (steps l)),fE 5] λout ob'=> ∃(th:List uD) (U:List Cd),out=.ret (.d (.sl 8 (yM U)))/\ob'=[lp th]/\U.length<=l.length/\∀e∈U,vC th e.b1 e.b2/\e.x∈l:=by
 have hsl:=Cw l;refine nR Tryz.func9 48 0 ?_;refine rF 11 ?_;refine Ok rfl ?_;refine uo 1 (ES (g:=g) .empty) [] ?_;rintro s ob' ⟨es,w,hF,⟨⟩,rfl⟩;refine uv ?_;refine QT (t:=8) (pi:=0) (th:=[]) (ix:=[1,2,3,4,5]) (k1:=0) (k2:=3) (rS es w) rfl (.cons rfl (.cells rfl (nQ.rfl _)) (.cons rfl .row (.cons rfl .jK (.cons rfl (.cells rfl (nQ.rfl _)) (.cons rfl .row .nil))))) rfl rfl rfl rfl rfl (λx=>rfl) rfl rfl rfl ?_;intro qT b1 b2 hpl V W;refine rF 11 ?_;refine iP 34 8 rfl<|pt 0 (ι:=Nat×List uD×List Cd×Nat×Nat) (λ⟨i,th,U,C,F⟩=>[(7,int i),(5,.own 2 8 (yM U)),(6,.jk 1 0)]) (λ⟨i,th,U,C,F⟩=>[lp th,wO (.d (CL C)) (.d (CL F)),plR]) [0,1] (λ⟨i,th,U,C,F⟩=>i<=l.length/\U.length<=i/\vC th C F/\∀e∈U,vC th e.b1 e.b2/\e.x∈l) (λ⟨i,th,U,C,F⟩=>l.length-i) ((0,[]++[⟨rS es w,qT⟩],[],b1,b2)) ([0,6,7]) ⟨ak _,ak _,Ln hF V W,λe he=>by cases he⟩ ?_ (hM:=by exact oL (iU (j8 rfl (by exact Fit.nil rfl))));rintro⟨i,th,U,C,F⟩ y
 try dsimp only at y
 refine xP 8 15 13 2 ?_;refine j7 2 ?_ ?_<;>intro h4
 .refine jD 12 (.sl 8 (yM U)) [0] [lp th] ⟨th,U,rfl,rfl,O,y.2.2.2⟩
 refine rF 3 ?_;refine xo (ι:=List uD×Nat×Nat×List Cd) (λ⟨b,q,r,c⟩=>[(5,.own 2 8 (yM c))]) (λ⟨b,q,r,c⟩=>[lp b,wO (.d (CL q)) (.d (CL r)),plR]) [7,6,0,1] (λ⟨b,q,r,c⟩=>vC b q r/\c.length<=i+1/\∀e∈c,vC b e.b1 e.b2/\e.x∈l) rfl ?_ ?_
 .have I:i<l.length:=O;have J:l[i]∈l:=bS I;obtain⟨hi1,hi2,Y,M⟩:=y;refine ni 6 NK W8 ?_ (hat:=(Ez I));refine rF 5 ?_;refine xo (ι:=List uD×Nat×Nat) (λ⟨b,q,r⟩=>[]) (λ⟨b,q,r⟩=>[lp b,wO (.d (CL q)) (.d (CL r)),plR]) [7,5,6,0,1] (λ⟨b,q,r⟩=>vC b q r/\∀(k:Nat) x,th[k]? =some x->b[k]? =some x) rfl ?_ ?_
  .refine j7 0 ?_ ?_<;>intro h6
   .refine ml 1 (th,C,F) [0,1,2] ?_;exact⟨Y,λ_ _ h=>h⟩
   refine ni 3 NK W8 ?_ (hat:=(Ez I));refine uo 2 (ES (g:=g) l[i].s) [] ?_;rintro s ob' ⟨R,w2,hF2,⟨⟩,rfl⟩;refine uv ?_;refine QT (t:=30) (pi:=0) (th:=th) (ix:=[3,4,5,6,7]) (k1:=0) (k2:=3) (rS R w2) rfl (.cons rfl (.cells rfl (nQ.rfl _)) (.cons rfl .row (.cons rfl .jK (.cons rfl (.cells rfl (nQ.rfl _)) (.cons rfl .row .nil))))) rfl rfl rfl rfl rfl (λx=>rfl) rfl rfl rfl ?_;intro S d1 d2 hpl2 hd1 hd2;refine ml 2 (th++[⟨rS R w2,S⟩],d1,d2) [0,1,2] ?_;exact⟨Ln hF2 hd1 hd2,UE _ _⟩
  .rintro ⟨b,q,r⟩ j
   try dsimp only at j
   obtain⟨G,H⟩:=j;have hpl9:=H8 U;have z:∀e∈U,vC b e.b1 e.b2/\e.x∈l:=λe he=>⟨(M e he).1.more H,(M e he).2⟩
   refine ni 4 NK W8 ?_ (hat:=(Ez I));refine j7 6 ?_ ?_<;>intro h8
   .refine ml 2 ((b,q,r,U)) ([0,1,2]) ⟨G,O,z⟩ (hM:=by exact oL (yu rfl (by first|exact Fit.of_eq rfl|exact Fit.of_eq (by rw[<- Ia];rfl)) (iU (iU (iU (iU rA))))))
   refine kp [7,5,6,0,1] ?_;refine ma 0 [0,1,2] mixed ?_;refine pQ 3 NK W8 ?_ (hat:=(Ez I));refine ga [4,5,6] ?_;refine A2 7 rfl (CW acq [.tmp 44] acg ?_);refine A2 8 rfl (ya acq ?_);refine ga [9] ?_;refine iB<|rF 1 ?_;refine bk ((b,q,r,U++[⟨l[i],q,r⟩])) rfl ?_ ([0,1,2]) ?_
   .refine ⟨G,by rw[aN];simp only[aj,aH];omega,λe he=>?_⟩;rcases bn.1 he with he|he
    .exact z e he
    .simp only[bF] at he;subst he;exact⟨G,J⟩
   .refine mo ?_ (yu rfl (by first|exact Fit.of_eq rfl|exact Fit.of_eq (by rw[<- Ia];rfl)) (iU (iU (iU (iU rA)))))
    repeat (first|exact nw|refine jN ?_|refine oT ?_|refine GK ?_)
 .rintro ⟨b,q,r,c⟩ j
  try dsimp only at j
  refine jS 2 ?_;refine ml 2 (i+1,b,c,q,r) [0,1,2] ?_;exact⟨⟨O,j.2.1,j.1,j.2.2⟩,show _-(i+1)<_-i by omega⟩
theorem So(q:c[0]? =some (.loc e))(r:c[3]? =some (.loc i))(m s j)(h:iN ⟨m,s⟩ [Ib x (.d (CL e)) (.d (CL i))] j):iN ⟨m,c⟩ [Ib x (.jk 0 0) (.jk 3 0)] j:=by
 obtain⟨v,_,rfl,⟨us,rfl,b,_,rfl,k,U,_,rfl,y,z,_,rfl,C,F,_,rfl,G,H,_,rfl,I,J,_,rfl,M,R,_,rfl,S,V,_,rfl,W,Y⟩,rfl⟩:=h;exact⟨_,_,rfl,⟨_,rfl,b,_,rfl,k,U,_,rfl,y,z,_,rfl,C,F,_,rfl,G,H,_,rfl,I,J,_,rfl,M,R,_,rfl,⟨e,q,S⟩,V,_,rfl,⟨i,r,W⟩,Y⟩,rfl⟩
theorem VC(C:e[V]? =some ⟨rS q w,i⟩)(J:rI q)(F:∀(j b:Nat),j<(rS q w).length->i[j]? =some (.loc b)->c[j]? =some (.loc b))(h:vC e r s):vC (e.set V ⟨rS q z,c⟩) r s:=by
 obtain⟨k2,U,x,M,y,R,G,H⟩:=h;by_cases I:k2=V
 .subst I;rw[C] at y;have S:i=U:=(uD.mk.inj (dy y)).2;subst S;exact⟨k2,c,q,z,bz (aJ.1 C).1,J,F 0 r (by simp[rS]) G,F 3 s (by simp[rS]) H⟩
 .exact ⟨k2,U,x,M,by rw[bg (bd I)];exact y,R,G,H⟩
theorem Bw(h:i<l.length):(yM l)[((i:Nat):Int).toNat]? =some (l[i].cells):=by simp[yM,h]
def Lz(s:fB):Nat->Nat->fB->List fB->List fB
 |0,_,_,l=>l
 |n+1,i,w,l=>if i<s.size/\¬iM s i=32 then Lz s n (i+1) (w++s.extract i (i+1)) l else if ¬w=.empty then Lz s n (i+1) .empty (l++[w]) else Lz s n (i+1) .empty l
def Ha(s:fB):List fB:=Lz s (s.size+1) 0 .empty []
theorem OX(s)(C:s.size<=1099511627776):
 jT fC gl 23 [] [fI s] λout ob'=>out=.ret (.own 0 1 (strs (Ha s)))/\ob'=[sR]:=by
 refine nR Tryz.func23 36 0 ?_;refine rF 22 ?_;refine iP 9 1 rfl<|pt 0 (ι:=Nat×fB×List fB) (λ⟨i,c,l⟩=>[(5,int i),(4,fI c),(3,.own 0 1 (strs l))]) (λ⟨i,c,l⟩=>[sR]) [0] (λ⟨i,c,l⟩=>i<=s.size+1/\c.size<=i/\l.length<=i/\Ha s=Lz s (s.size+1-i) i c l) (λ⟨i,c,l⟩=>s.size+1-i) ((0,.empty,[])) ([0]) ⟨ak _,ae _,ae _,rfl⟩ ?_ (hM:=by exact oL (iU (iU (j8 rfl (by exact Fit.nil rfl)))));rintro⟨i,c,l⟩ U
 try dsimp only at U
 refine j7 9 ?_ ?_<;>intro F
 .refine rF 12 ?_;refine fR<|pe ⟨_,_,rfl,rfl,rfl⟩ [0] (.own 0 1 (strs l)) ([sR]) rfl rfl rfl ?_ rfl ?_ ?_
  .repeat (first|exact nw|refine oT ?_)
  .exact .refl _
  .obtain ⟨G,_,_,j⟩:=U;rw[show s.size+1-i=0 by omega,Lz] at j;rw[j];exact⟨rfl,rfl⟩
 refine rF 3 ?_;refine xo (ι:=fB×List fB) (λ⟨b,l2⟩=>[(4,fI b),(3,.own 0 1 (strs l2))]) (λ⟨b,l2⟩=>[sR]) [5,0] (λ⟨b,l2⟩=>b.size<=i+1/\l2.length<=i+1/\Ha s=Lz s (s.size+1-(i+1)) (i+1) b l2) rfl ?_ ?_
 .have H:i<=s.size:=O;have r:=jU l;have x:=MH s i;have y:(s.extract (i:Int).toNat ((i:Int)+1).toNat).size<=1:=(by rw[cC];omega);have e:=U.2.2.2;rw[show s.size+1-i=(s.size+1-(i+1))+1 by omega,Lz] at e;refine' DM 9 20 16 4 ?a1 ?_
  case a1=>
   intro I z;refine rF 2 ?_;refine gy<|o1 (P3 Du ?_);refine rF 1 ?_;exact z [_,_,_,_] rfl rfl
  refine jq 2 ?_ ?_<;>intro J
  .refine jS 6 ?_;refine o1 (y7 Du ?_);refine o1 (Dd ?_ (hb:=by(try simp only[db,zv,dh,aj,aH]);omega));refine ml 6 ((c++s.extract i (i+1),l)) [0] ⟨by rw[db];omega,O,by rw[e,if_pos (by first|exact⟨O,by assumption⟩|(refine⟨O,?_⟩;first|assumption|(simp_all)))]⟩ (hM:=by exact oL (iU (yu rfl (by first|exact Fit.of_eq rfl|exact Fit.of_eq (by rw[wG];rfl)) (iU (iU rA)))))
  refine j7 9 ?_ ?_<;>intro q
  .refine ml 6 ((.empty,l)) [0] ⟨ak _,O,by rw[e,if_neg (by rintro⟨ha,hb⟩;first|omega|(simp_all)),if_neg (by first|assumption|exact λh=>h q|(simp_all))]⟩ (hM:=by exact oL (iU (yu rfl (by first|exact Fit.of_eq rfl|exact Fit.of_eq (by rw[wG];rfl)) (iU (iU rA)))))
  refine oR 3 Ar [.tmp 32] R7 ?_;refine oc (ya Ar ?_);refine ml 7 ((.empty,l++[c])) [0] ⟨ak _,by rw[aN];simp only[aj,aH];omega,by rw[e,if_neg (by rintro⟨ha,hb⟩;first|omega|(simp_all)),if_pos (by first|assumption|exact q|(simp_all))]⟩ (hM:=by exact oL (iU (yu rfl (by first|exact Fit.of_eq rfl|exact Fit.of_eq (by rw[wG];rfl)) (iU (iU rA)))))
 .rintro ⟨b,l2⟩ k
  try dsimp only at k
  refine jS 2 ?_;refine ml 2 (i+1,b,l2) [0] ?_;exact⟨⟨O,k.1,k.2.1,k.2.2⟩,show _-(i+1)<_-i by omega⟩
theorem OA(h:(pK s).2.1=0):oD 4398046511104 (pK s).1/\(pK s).1.size<=80001:=by
 refine⟨rr Z (yD (Oz h)),?_⟩;have hz:iu.size=1:=rfl;unfold pK;split
 .simp only[hz];omega
 .have b:=zq (s:=s) (s.size+1) ⟨0,none⟩ (ak _);have k:=nN (s:=s) (s.size+1) ⟨0,none⟩ (ak _);simp only at b k ⊢;split
  .simp only;omega
  .simp only[hz];omega
def Fo(e:Bool)(t u:ie)(c:Int):D:=.agg (.v (.bool e)::(t.cells++(u.cells++[.v (.int .i64 c)])))
def rgZ:Ob:=.cells [.d (.v (.bool false)),.d (.v (.int .i64 0)),.d (.v (.int .i64 0)),.d (.v (.string .empty)),.d (.v (.slice none 0 0)),.d (.v (.slice none 0 0)),.d (.v (.int .i64 0)),.d (.v (.int .i64 0)),.d (.v (.string .empty)),.d (.v (.slice none 0 0)),.d (.v (.slice none 0 0)),.d (.v (.int .i64 0))] 41
def aak(c:Bool):D:=cond c (Hn 14 0) (.v .nilIface)
def aga(c:Bool):Int:=cond c 14 0
def w3:qZ->ie×Nat×Bool
 | .ok u d=>(u,d,false)
 | .ja=>(iu,0,true)
def n3:tQ->ie×Nat×Bool
 | .ok u d _=>(u,d,false)
 | .ja=>(iu,0,true)
def Qm(i:List iI)(c:Nat)(t:ie)(w:Bool)(e:Out)(h:List Ob):Prop:=
 ∃(u:ie) (b:Int) (code:Int) (k:Bool),e=.ret (.d (.jj [u.d,.v (.int .i64 b),.v (.int .i64 code)]))/\h=[iD i k,iC]/\(k=false->∃n o,RN i c n t 0 0 o/\u=(n3 o).1/\b=(n3 o).2.1/\code=aga (n3 o).2.2)
theorem Oo(hF:nS z)(w x)(hxu:x.u.size<=1099511627776)(s):
 jT fC (xt g) 15 (rS z w) [Ib x (.jk 0 0) (.jk 3 0),fI s] λout ob'=> ∃(ok:Bool) (C mt:Int) (st:fB) (lt:List iq) (k:List ie) (U e:Int) (j:fB) (q:List iq) (r:List ie) (c:Int) (w':Bool),out=.ret (.d (Fo ok (.mk C mt st lt k) (.mk U e j q r) c))/\ob'=rS z w'/\
  (ok=true->w'=false/\Wt (jY z) (Ha x.u) (.mk C mt st lt k) 0/\(ie.mk C mt st lt k).size<=80001/\xu z [] (.mk C mt st lt k) (.mk U e j q r)):=by
 have F:=vj (g:=g) s;have I:=OA (s:=s);generalize hcq:(pK s).2.1=cq at F I;generalize haq:(pK s).2.2=aq at F;obtain⟨C,mt,st,lt,k,hT⟩:=ie.case (pK s).1
 rw[hT] at F I;have G:=OX (gl:=xt g) x.u hxu;have hpl:=jU (Ha x.u);unfold rS;by_cases J:cq=0;rotate_left
 .refine nR Tryz.func15 44 5 ?_;refine ny 9 F ?_;refine rF 16 ?_;refine ov 17 true rfl (by simp[J])<|tZ ?_ (hbw:=by exact rfl);refine tZ ?_ (hbw:=by exact rfl);refine tZ ?_ (hbw:=by exact rfl);refine tZ ?_ (hbw:=by exact rfl);refine tZ ?_ (hbw:=by exact rfl);refine tZ ?_ (hbw:=by exact rfl);refine o1 (oH ?_);refine Eo 2 ?_;refine jD 8 (Fo false iu iu (-1)) [0,1,2,3,4] (rS z w) ⟨false,_,_,_,_,_,_,_,_,_,_,-1,w,rfl,rfl,λh=>by cases h⟩
 .refine nR Tryz.func15 44 5 ?_;refine ny 9 F ?_;refine rF 16 ?_;refine ov 17 false rfl (by simp[J])<|uA ?_ (hbw:=by exact rfl);refine rF 1 ?_;refine uA ?_ (hbw:=by exact rfl);refine rF 1 ?_;refine uA ?_ (hbw:=by exact rfl);refine rF 1 ?_;refine uA ?_ (hbw:=by exact rfl);refine nC 0 G [] ?_;refine uA ?_ (hbw:=by exact rfl);refine rF 1 ?_;refine uA ?_ (hbw:=by exact rfl);refine rF 1 ?_;refine o1 (sP ?_);refine jq 2 ?_ ?_<;>intro h2
  .refine jD 8 (Fo false iu iu (-1)) [0,1,2,3,4] (rS z w) ⟨false,_,_,_,_,_,_,_,_,_,_,-1,w,rfl,rfl,λh=>by cases h⟩
  have hl6:(Ha x.u).length<=6:=(by first|omega|(simp_all;omega));obtain⟨hsh,M⟩:=I J;have R:=AJ (gl:=xt g) hF.ok (ps:=Ha x.u) hl6 (most:=3000) (S:=800001) Z ⟨Z,Z⟩ (NF (.mk C mt st lt k)+1) (.mk C mt st lt k) (dI _) [] w (λi y hy=>by simp at hy) (by have:=y9 (.mk C mt st lt k);simp only[aH];omega) O hsh;refine rF 3 ?_;refine xo (ι:=Int×Bool×Int×Int×fB×List iq×List ie) (λ⟨V,W,U,e,j,q,r⟩=>[(8,fE V),(7,.jk 8 0)]) (λ⟨V,W,U,e,j,q,r⟩=>[pE (z.map (·.d)),dR,.jK (o7 z),Yd 4 z W,iC,acw x (.jk 0 0) (.jk 3 0),rgZ,tO C mt st lt k,tO U e j q r]) [5,4] (λ⟨V,W,U,e,j,q,r⟩=>(V=0->W=false/\Wt (jY z) (Ha x.u) (.mk C mt st lt k) 0/\(ie.mk C mt st lt k).size<=80001/\xu z [] (.mk C mt st lt k) (.mk U e j q r))) rfl ?_ ?_
  .refine ma 0 [0,1,2,3,4,5,7] mixed ?_;refine ki (rs:=[6,12]) gN rfl ⟨?_,?_,trivial⟩
   .skip
    refine A4 6 rfl (ck adq rfl rfl (G) [] rfl .nil (jw .nil) ?_);refine ki (rs:=[8,12]) gN rfl ⟨?_,?_,trivial⟩
    .skip
     refine A4 8 rfl (iX Yu rfl rfl rfl rfl (R) [3,4] (jN (oT .nil)) rfl rfl rfl rfl (jw (oq (XU (oq (jw .nil))))) (λs ob' hq=>?_) (λs ob' hq=>?_));rotate_left
     .obtain ⟨_,_,_,Y,_⟩:=hq;cases Y
     obtain⟨⟨U,e,j,q,r⟩,c1,w1,Y,rfl,_,b⟩:=hq;cases Y;refine⟨_,_,_,_,_,rfl,rfl,rfl,rfl,rfl,?_⟩;refine ga [9,10,11] ?_;refine A2 12 rfl (AW jz ?_);refine nO 13 ?_;refine ga [14] ?_;refine iB<|ml 0 (c1,w1,U,e,j,q,r) [0,1,2,3,4,5,6,7,11] ?_;exact λh=>⟨(b h).1,(b h).2.1,M,(b h).2.2.2⟩
    .skip
     refine A4 12 rfl (AW jz ?_);refine MZ 8 R [3,4] ?_;rintro s ob' ⟨⟨U,e,j,q,r⟩,c1,w1,⟨⟩,rfl,_,b⟩;refine Lg ?_;refine ga [9,10,11] ?_;refine nO 13 ?_;refine ga [14] ?_;refine iB<|ml 0 (c1,w1,U,e,j,q,r) [0,1,2,3,4,5,6,7,11] ?_;exact λh=>⟨(b h).1,(b h).2.1,M,(b h).2.2.2⟩
   .skip
    refine A4 12 rfl (AW jz ?_);refine A2 6 rfl (ck adq rfl rfl (G) [] rfl .nil (jw .nil) ?_);refine MZ 8 R [3,4] ?_;rintro s ob' ⟨⟨U,e,j,q,r⟩,c1,w1,⟨⟩,rfl,_,b⟩;refine Lg ?_;refine ga [9,10,11] ?_;refine nO 13 ?_;refine ga [14] ?_;refine iB<|ml 0 (c1,w1,U,e,j,q,r) [0,1,2,3,4,5,6,7,10] ?_;exact λh=>⟨(b h).1,(b h).2.1,M,(b h).2.2.2⟩
  .rintro ⟨V,W,U,e,j,q,r⟩ H
   try dsimp only at H
   refine jD 12 (Fo (decide (V=0)) (.mk C mt st lt k) (.mk U e j q r) V) [0,1,2,3,4] (rS z W) ⟨_,_,_,_,_,_,_,_,_,_,_,_,W,rfl,rfl,λh=>H (of_decide_eq_true h)⟩
theorem Lr{i:List iI}(J:ko i){ps:List fB}{c:Int}(M:0<=c){most:Nat}(R:most<=1000000)(w:Bool)(k m:Int)(s:fB)(e:List iq)(args:List ie)(hz:c+(ie.mk k m s e args).size+30000*most<=1000000000000)(S:Wt (jY i) ps (.mk k m s e args) c):
 jT fC gl 16 [iD i w,iC] [.jk 0 0,.d (ie.mk k m s e args).d,fE most] (Qm i most (.mk k m s e args) w):=by
 have U:=Ip (gl:=gl) J (ps:=ps) R ((ie.mk k m s e args).size+30000*(most-0)+1) k m s e args c 0 0 w false O M O O S O O;obtain⟨F,j⟩:∃x,x=ie.mk k m s e args:=⟨_,rfl⟩;rw[show Qm i most (.mk k m s e args) w=Qm i most F w by rw[j]];rw[show Nq i most ((ie.mk k m s e args).size+30000*(most-0)+1) (.mk k m s e args) 0 0 w false=Nq i most ((ie.mk k m s e args).size+30000*(most-0)+1) F 0 0 w false by rw[j]] at U;generalize(ie.mk k m s e args).size+30000*(most-0)+1=G at U;refine nR Tryz.func16 34 2 ?_;refine uo 21 U [0,1,4] ?_;rintro s ob' ⟨⟨k1,y,s1,l1,a1⟩,d1,t1,q,V,⟨⟩,rfl,W,Y,hp1,hp2,b⟩;refine uv ?_;refine rV 12 26 22 4 ?_;refine jq 2 ?_ ?_<;>intro H
 .refine jD 10 (.jj [iu.d,fD 0,fD 14]) [0,1] [iD i q,iC] ?_
  .refine ⟨iu,0,14,q,rfl,rfl,λh=>?_⟩;obtain⟨e1,z⟩:=b h;rcases z with⟨r,e4|e4⟩|⟨r,e4,I⟩
   .cases e4
   .exact ⟨_,.ja,e4,rfl,rfl,rfl⟩
   .exfalso;rw[r,h] at H;simp at H
 refine ma 3 [0,1,2,3,4] mixed ?_;refine nO 5 ?_;refine ga [6,7] ?_;refine iB<|jD 2 (.jj [(ie.mk k1 y s1 l1 a1).d,fD d1,fD 0]) [0,1] [iD i q,iC] ?_
 .have C:t1=false/\q=false:=(by cases t1<;>cases q<;>simp_all);obtain⟨rfl,rfl⟩:=C;refine⟨.mk k1 y s1 l1 a1,d1,0,false,rfl,rfl,λ_=>?_⟩;obtain⟨e1,z⟩:=b rfl;rcases z with⟨r,_⟩|⟨r,e4,I⟩
  .cases r
  .exact ⟨_,.ok (.mk k1 y s1 l1 a1) d1 V,I,rfl,rfl,rfl⟩
end
section
open Go Go.Vd Go.RowKit Go.ChangeShapes Go.WideShapes Go.ChangeAt
theorem own:ownKnob Tryz.prog.godebug=none:=gN
theorem one_le(c:DataW H):1<=Rows.uptoBulk c:=by
 cases c with
 |lit l=>cases l<;>simp[Rows.uptoBulk]
 |nil=>simp[Rows.uptoBulk]
 |ptr c=>simp[Rows.uptoBulk]
 |slice b spare=>simp[Rows.uptoBulk]
 |agg parts=>simp[Rows.uptoBulk]
 |iface t c=>simp[Rows.uptoBulk]
 |map entries=>simp[Rows.uptoBulk]
 |held h=>simp[Rows.uptoBulk]
theorem QR{l:List (DataW H)}(h:c∈l):Rows.uptoBulk c<=Rows.uptoBulkAll l:=by
 induction l with
 |nil=>cases h
 |cons x r b=>
  simp only[Rows.uptoBulkAll];cases bh.1 h with
  |inl e=>subst e;omega
  |inr e=>have:=b e;omega
theorem length_le(l:List (DataW H)):l.length<=Rows.uptoBulkAll l:=by
 induction l with
 |nil=>simp[Rows.uptoBulkAll]
 |cons x r b=>have:=one_le x;simp only[Rows.uptoBulkAll,aj];omega
set_option maxRecDepth 100000 in
theorem Ee{H:Type}{c:TypeId×Value->H}{W:World}{r:Nat->Bool}{z:Bool}{v:Value}{fuel:Nat}{x:DataW H×List MemPlace}(h:DataW.trod c fC W 0 r z fuel 22 v.cells.toList=some x)(hv:v.oneCell'=true):
 ∃l:List Step,(D.sl 6 (steps l)).Den (zY W) v/\l.length<=Rows.uptoBulk x.1/\∀o∈l,o.u.size<=Rows.uptoBulk x.1/\i64 o.a:=by
 have G:=NK;have he:(iH fC 22).elem=28:=by rw[afc]
 rw[he] at G;have c25:Tryz.prog.cellsOf 28=6:=gN;have c3:Tryz.prog.cellsOf 3=1:=gN;have c9:Tryz.prog.cellsOf 9=1:=gN;rw[Value.IY hv] at h;rcases DataW.trod_slice G h with⟨h1,_⟩|⟨a,len,cap,U,rest,n,rfl,h1,ex,_,h2,_,h3,h4,_⟩
 .simp at h1;subst h1;exact⟨[],⟨none,0,rfl,by simp[steps],λhn=>absurd rfl hn⟩,by simp,by simp⟩
 .simp at h1;subst h1;have key:∀i,i<len->∃st:Step,(st.u.size<=Rows.uptoBulk x.1/\i64 st.a)/\∀(j:Nat) y,st.cells[j]? =some y->∃u,W.cell? (a.add (i*6) |>.add j)=some u/\u.oneCell'=true/\∀m,y.Den m u:=by
   intro i hi;have:=h4 i hi;rw[c25,aZ O] at this;obtain⟨cs,hcs,C⟩:=ai.1 this;obtain⟨_,hlen,F⟩:=World.cells?_some hcs;obtain⟨q,I,rfl,exs,_,hxl,J⟩:=DataW.trod_struct Tryz.underlying28 C;have hx6:q.length=6:=hxl;have f0:=J 0 _ rfl;have f1:=J 1 _ rfl;have f2:=J 2 _ rfl;have f3:=J 3 _ rfl;have f4:=J 4 _ rfl;have f5:=J 5 _ rfl;rw[aZ O] at f0 f1 f2 f3 f4 f5
   match cs,hlen with
   |[M,R,S,V,Y,x5],_=>
    have g0:DataW.trod c fC W 0 r z I 3 (([M,R,S,V,Y,x5].drop 0).take (Tryz.prog.cellsOf 3))=some q[0]:=f0;rw[c3] at g0;have g1:DataW.trod c fC W 0 r z I 9 (([M,R,S,V,Y,x5].drop 1).take (Tryz.prog.cellsOf 9))=some q[1]:=f1;rw[c9] at g1;have g2:DataW.trod c fC W 0 r z I 9 (([M,R,S,V,Y,x5].drop 2).take (Tryz.prog.cellsOf 9))=some q[2]:=f2;rw[c9] at g2;have g3:DataW.trod c fC W 0 r z I 9 (([M,R,S,V,Y,x5].drop 3).take (Tryz.prog.cellsOf 9))=some q[3]:=f3;rw[c9] at g3;have g4:DataW.trod c fC W 0 r z I 3 (([M,R,S,V,Y,x5].drop 4).take (Tryz.prog.cellsOf 3))=some q[4]:=f4;rw[c3] at g4;have g5:DataW.trod c fC W 0 r z I 3 (([M,R,S,V,Y,x5].drop 5).take (Tryz.prog.cellsOf 3))=some q[5]:=f5;rw[c3] at g5;obtain⟨k,e0,_⟩:=yZ (k:=0) g0;obtain⟨s,e1⟩:=Dz g1;obtain⟨t,e2⟩:=Dz g2;obtain⟨u,e3,es1,_⟩:=DataW.trod_string Du g3;obtain⟨a',e4,i4⟩:=yZ (k:=0) g4;obtain⟨b',e5,i5⟩:=yZ (k:=0) g5;simp only[dk,ff,du,cj,List.cons.injEq,and_true] at e0 e1 e2 e3 e4 e5;subst e0 e1 e2 e3 e4 e5;have hbd:u.size<=Rows.uptoBulk x.1:=by
     have q1:=QR (dX (f:=(·.1)) (bS (show 3<q.length by omega)));have q2:=QR (dX (f:=(·.1)) (bS (show i<U.length by omega)));rw[es1] at q1;rw[exs] at q2;rw[ex];simp only[Rows.uptoBulk] at q1 q2 ⊢;have q3:u.data.toList.length=u.size:=rfl;omega
    refine⟨⟨k,s,t,u,a',b'⟩,⟨hbd,i4⟩,λj y b=>?_⟩;have hj:j<6:=by have:=(aJ.1 b).1;simpa[Step.cells] using this
    rw[F j hj]
    match j,hj with
    |0,_=>simp[Step.cells] at b;subst b;exact⟨_,rfl,rfl,λm=>rfl⟩
    |1,_=>simp[Step.cells] at b;subst b;exact⟨_,rfl,rfl,λm=>rfl⟩
    |2,_=>simp[Step.cells] at b;subst b;exact⟨_,rfl,rfl,λm=>rfl⟩
    |3,_=>simp[Step.cells] at b;subst b;exact⟨_,rfl,rfl,λm=>rfl⟩
    |4,_=>simp[Step.cells] at b;subst b;exact⟨_,rfl,rfl,λm=>rfl⟩
    |5,_=>simp[Step.cells] at b;subst b;exact⟨_,rfl,rfl,λm=>rfl⟩
  obtain⟨l,hl,hp⟩:=MI key;refine⟨l,⟨some a,cap,by rw[Cw,hl],by rw[Cw,hl];exact h2,λhn=>?_⟩,?_,λo ho=>?_⟩
  .have hl0:0<l.length:=eG.2 λe=>hn (by simp[steps,e])
   have hsp:a.spot=none:=by
    obtain⟨_,hc⟩:=hp 0 l[0] (by simp[hl0]);obtain⟨u,G,_⟩:=hc 0 _ rfl;simp only[eA] at G;have e:(a.add 0).add 0=a:=by simp[Addr.add]
    rw[e] at G;exact World.cell?_spot G
   obtain⟨ab,ao,asp⟩:=a;simp only at hsp;subst hsp;refine⟨ab,ao,rfl,Kv Step.cells λi st C=>⟨rfl,?_⟩⟩;obtain⟨_,hc⟩:=hp i st C;have:∀j y,st.cells[j]? =some y->∃u,zY W ab (ao+i*6+j)=some u/\y.Den (zY W) u:=λj y b=>by
    obtain⟨u,h5,h6,h7⟩:=hc j y b;rw[pU,pU] at h5;exact⟨u,EH h5 h6,h7 _⟩
   exact⟨this 0 _ rfl,this 1 _ rfl,this 2 _ rfl,this 3 _ rfl,this 4 _ rfl,this 5 _ rfl,trivial⟩
  .rw [hl,<-h3,ex];have:=length_le (U.map (·.1));simp only[Rows.uptoBulk,bc] at this ⊢;omega
  .obtain ⟨i,hi,e⟩:=dH.1 ho;exact(hp i o (by rw[aZ hi,e])).1
def gE:Nat->List D
 |1=>AR
 |_=>[]
def glP:Nat->List D:=xt gE
theorem VE(c:oU (zY w) 0 0 [nU pw])(e:oU (zY w) 1 0 AR):∀b,oU (zY w) b 0 (glP b)
 |0=>c
 |1=>e
 |_+2=>trivial
theorem ag5 : Tryz.prog.globalNamed "errors.errorType" = some 1 := by kernel_rfl
theorem ag4 : (Tryz.prog.cutTypes.find? (·.1 == "internal/reflectlite.rtype")).map (·.2) = some 180 := by kernel_rfl
theorem V3:((List.range 272).filter λt=>Tryz.prog.rowNamed t [101,114,114,111,114])=[49]:=gN
theorem aar:Tryz.prog.types.size=272:=gN
theorem VX(c : W.var? fC "errors.errorType" = some #[.iface 180 (.agg #[typeHandle fC 49])]) : oU (zY W) 1 0 AR := by
 have b:typeHandle fC 49=.pointer (some ⟨2,49,none⟩):=gN;rw[b] at c;exact⟨⟨_,EH (World.var?_cell ag5 c 0) rfl,rfl⟩,trivial⟩
def Va(s:fB):DataW Unit:=.lit (.string s.data.toList)
theorem Xc(h:DataW.trod (λ_=>()) fC W 0 e i n 9 [v]=some x)(c:x.1=Va s):v=.string s:=by
 obtain⟨U,b,k,_⟩:=DataW.trod_string Du h;simp only[List.cons.injEq,and_true] at b;subst b k;simp only[Va,DataW.lit.injEq,Lit.string.injEq] at c
 congr 1
 exact eH (c7 c)
theorem Xz{c:List (DataW Unit×List MemPlace)}(h:c.map (·.1)=pw.map Va){i:Nat}(e:i<pw.length):∃x,c[i]? =some x/\x.1=Va pw[i]:=by
 have k:=congrArg List.length h;simp only[bc] at k;have b:=congrArg (λl=>l[i]?) h;simp only[bt] at b;rw[aZ (show i<c.length by omega),aZ e] at b;exact⟨c[i],aZ O,dy b⟩
theorem Si(R : Tryz.prog.globalNamed "provekernel/provekernelref.words" = some 0)(S : W.var? fC "provekernel/provekernelref.words" = some y)
 (V:DataW.trod (λ_=>()) fC W 0 (λ_=>true) false fuel 57 y.toList=some (Rows.laid_provekernel_provekernelref_words,p)):oU (zY W) 0 0 [nU pw]:=by
 have b:=λi=>World.var?_cell R S i
 have I:=yv;have Y:(iH fC 57).elem=9:=by rw[T7]
 rw[Y] at I;have c9:Tryz.prog.cellsOf 9=1:=gN;have U:pw.length=7:=rfl;rcases DataW.trod_slice I V with⟨_,h1⟩|⟨a,len,cap,k,rest,n,_,c,ex,_,h2,_,h3,h4,_⟩
 .exact absurd (congrArg Prod.fst h1) (by intro h;cases h)
 .have ex1:(DataW.slice (pw.map Va) []:DataW Unit)=.slice (k.map (·.1)) (rest.map (·.1)):=congrArg Prod.fst ex;have ex2:=(DataW.slice.inj ex1).1.symm;have z:k.length=7:=by have:=congrArg List.length ex2;simpa[U] using this
  have key:∀i:Nat,(r:i<pw.length)->W.cell? (a.add (i*1))=some (.string pw[i]):=λi r=>by
   obtain⟨x,C,F⟩:=Xz ex2 r;have:=h4 i O;rw[c9,C] at this;obtain⟨us,G,H⟩:=ai.1 this;obtain⟨_,j,hc⟩:=World.cells?_some G
   match us,j with
   |[u],_=>
    have:=hc 0 Z;rw[Xc H F] at this
    simpa[Addr.add] using this
  have q:a.spot=none:=by
   have:=key 0 Z;have e:a.add (0*1)=a:=by simp[Addr.add]
   rw[e] at this;exact World.cell?_spot this
  obtain⟨J,M,asp⟩:=a;simp only at q;subst q;have hc0:=b 0;obtain⟨l⟩:=y;simp only at c;subst c;refine⟨⟨_,EH (b 0) rfl,some ⟨J,M,none⟩,cap,?_,?_,λ_=>⟨J,M,rfl,Kv (λs=>[fG s]) λi x hx=>⟨rfl,?_⟩⟩⟩,trivial⟩
  .rw [jU,U,<-h3,z];rfl
  .rw [jU];omega
  .obtain ⟨r,rfl⟩:=aJ.1 hx;have:=key i r;rw[pU] at this;exact⟨⟨_,EH this rfl,rfl⟩,trivial⟩
def Y1 : List (String × DataW Unit) := [("errors.errorType", Rows.laid_errors_errorType), ("provekernel/provekernelref.words", Rows.laid_provekernel_provekernelref_words)]
theorem Kj(h:laidMetH fC Y1 W):∀b,oU (zY W) b 0 (glP b):=by
 have j : laidMet fC [("provekernel/provekernelref.words", Rows.laid_provekernel_provekernelref_words)] W /\ handlesMet fC [("errors.errorType", Rows.laid_errors_errorType)] W := h
 obtain⟨⟨ps,q,_,_⟩,r⟩:=j;obtain⟨H,t4,s,x,I,J,k,U,c,e,_,_⟩:=q;have n4 : Tryz.prog.globalNamed "provekernel/provekernelref.words" = some 0 := by kernel_rfl
 obtain rfl:=dy (n4.symm.trans k);obtain rfl:=dy ((show(Tryz.prog.globals[0]?).map (·.type)=some 57 by kernel_rfl).symm.trans U);obtain⟨name,u,ty,y,z,C,F,G⟩:=r _ (bF.2 rfl);have en:name=[101,114,114,111,114]:=(dy y).symm;subst en;obtain rfl:=dy (ag4.symm.trans z);have i:ty∈(List.range 272).filter λt=>Tryz.prog.rowNamed t [101,114,114,111,114]:=ee.2 ⟨b5.2 (by rw[<- aar];exact C),F⟩
 rw[V3] at i;obtain rfl:=bF.1 i;exact VE (Si n4 c e) (VX G)
theorem Vj(c:Os):laidMetH fC Y1 ((World.doorLaid fC 400 c).forCall (λ_ _=>0) ⟨#[],#[.slice none 0 0],[]⟩).memory:=
 laidMetH_of_parts3 (fuel:=8) (laidMet_of_run' 8 gN gN) gN gN
end
end Go.Proofs.YtndbnldjidciiaaGreatDoor
namespace Go.Vd
variable{α ρ σ σ' τ B C F G GL H I J K L M N P Pn Q R S T V W Y a args c ds e first fn fuel g h i ix j l m n n0 o o' ob ob' or p pl pq q r rp rs s s0 sl sl' svs sx t ti ts u us v w w' x y z}
open Go Go.RowKit
def Sn(i:Nat):Nat->List Nat->Option Nat
 |_,[]=>none
 |k,j::r=>cond (Nat.beq j i) (some k) (Sn i (k+1) r)
theorem ED{i:Nat}:∀{ρ:List Nat} {k p:Nat},Sn i k ρ=some p->∃q,p=k+q/\jo q ρ=some i
 |[],k,p,h=>by cases h
 |j::r,k,p,h=>by
  unfold Sn at h;cases b:Nat.beq j i<;>rw[b] at h
  .obtain ⟨q,rfl,U⟩:=ED h;exact⟨q+1,O,U⟩
  .cases h;exact⟨0,rfl,by rw[show j=i by simpa using b];rfl⟩
def unS(ρ:List Nat):SV->Option SV
 | .jk i off=>(Sn i 0 ρ).bind λp=>some (.jk p off)
 | .arr i n=>(Sn i 0 ρ).bind λp=>some (.arr p n)
 | .own i k ls=>match Sn i 0 ρ with
  |some p=>some (.own p k ls)
  |none=>some (.d (.sl k ls))
 |s=>s.p9.bind λx=>some (.d x)
theorem NM(h:unS ρ s=some e):∃t,SV.j5 ρ e=some t/\Fit ob s t:=by
 cases s<;>simp only[unS,ai] at h
 case jk i off=>
  obtain⟨p,b,U⟩:=h;cases U;obtain⟨q,rfl,c⟩:=ED b;exact⟨_,by simp only[SV.j5,bU,c];rfl,.refl _⟩
 case arr i n=>
  obtain⟨p,b,U⟩:=h;cases U;obtain⟨q,rfl,c⟩:=ED b;exact⟨_,by simp only[SV.j5,bU,c];rfl,.refl _⟩
 case own i k ls=>
  split at h
  .rename_i p b;cases h;obtain⟨q,rfl,c⟩:=ED b;exact⟨_,by simp only[SV.j5,bU,c];rfl,.refl _⟩
  .cases h;exact⟨_,rfl,.p9 rfl⟩
 all_goals (obtain⟨x,b,U⟩:=h;cases U;exact⟨_,rfl,.p9 b⟩)
def unL(ρ:List Nat):List SV->Option (List SV)
 |[]=>some []
 |s::r=>(unS ρ s).bind λb=>(unL ρ r).bind λk=>some (b::k)
theorem EX{ob:List Ob}{ρ:List Nat}:∀{l b:List SV},unL ρ l=some b->∃m,qD ρ b=some m/\nQ ob l m
 |[],b,h=>by cases h;exact⟨[],rfl,.nil⟩
 |s::r,b,h=>by
  obtain⟨x,k,h⟩:=ai.1 h;obtain⟨y,U,c⟩:=ai.1 h;cases c;obtain⟨t,e,i⟩:=NM (ob:=ob) k;obtain⟨m,j,q⟩:=EX U;exact⟨t::m,by simp only[qD,e,j];rfl,.cons i q⟩
def afk(q:Nat)(c:Nat)(e:Bool):SV:=cond e (.arr q 0) (.own q c [])
def unZ(ρ:List Nat)(c:SV):Nat->List SV->Option (List SV)
 |0,.d (.v (.slice none 0 0))::r=>(unL ρ r).bind λb=>some (c::b)
 |k+1,s::r=>(unS ρ s).bind λU=>(unZ ρ c k r).bind λb=>some (U::b)
 |_,_=>none
theorem T2(q:SV.j5 ρ s0=some s0)(x:Fit c fK s0):∀{k:Nat} {l b:List SV},unZ ρ s0 k l=some b->∃m,qD ρ b=some m/\nQ c l m:=by
 intro k
 induction k with
 |zero=>
  intro l b h;unfold unZ at h;split at h
  .obtain ⟨y,U,e⟩:=ai.1 h;cases e;obtain⟨m,i,j⟩:=EX (ob:=c) U;exact⟨s0::m,by simp only[qD,q,i];rfl,.cons x j⟩
  .rename_i z;cases z
  .cases h
 |succ k C=>
  intro l b h;cases l with
  |nil=>cases h
  |cons s r=>
   obtain⟨I,F,h⟩:=ai.1 h;obtain⟨y,U,e⟩:=ai.1 h;cases e;obtain⟨t,G,H⟩:=NM (ob:=c) F;obtain⟨m,i,j⟩:=C U;exact⟨t::m,by simp only[qD,G,i];rfl,.cons H j⟩
abbrev Zt:=Option (Nat×Nat×Nat×Nat×Bool)
def obS(z:Zt)(ρ:List Nat)(i:Nat):Ob->Option Ob
 | .cells l ty=>(match z with
  |some (j,off,q,k,b)=>cond (Nat.beq i j) (unZ ρ (afk q k b) off l) (unL ρ l)
  |none=>unL ρ l).bind λU=>some (.cells U ty)
 | .row e k=>some (.row e k)
 | .jd e k=>some (match z with
  |some (_,_,q,_,b)=>cond (cond (Nat.beq i q) b false) (.buf e k [] none) (.jd e k)
  |none=>.jd e k)
 | .buf e k ls q=>some (.buf e k ls none)
 | .dead=>some .dead
 |_=>none
def Uf(z:Zt)(ρ:List Nat)(c:List Ob):List Nat->Option (List Ob)
 |[]=>some []
 |i::b=>(jo i c).bind λo=>(obS z ρ i o).bind λk=>(Uf z ρ c b).bind λr=>some (k::r)
def zOk(ρ:List Nat)(c:List Ob)(z:Zt):Prop:= ∀j off q k b,z=some (j,off,q,k,b)->jo q ρ=some q/\∃e,jo q c=some (.jd e k)
theorem nz(i):td c ρ (cond i (.buf e h [] none) (.jd e h)) (.jd e h):=by
 cases i
 .exact .QX
 .exact .XC
theorem Ey{x:List Ob}{ρ:List Nat}{z:Zt}(C:zOk ρ x z):∀{y:List Nat} {U:List Ob},Uf z ρ x y=some U->jh x ρ U y
 |[],U,h=>by cases h;exact .nil
 |i::y,U,h=>by
  obtain⟨o,H,h⟩:=ai.1 h;obtain⟨Y,c,h⟩:=ai.1 h;obtain⟨r,I,J⟩:=ai.1 h;cases J;refine .cons H ?_ (Ey C I);cases o<;>simp only[obS,an,reduceCtorEq] at c
  case cells l ty=>
   obtain⟨M,s,R⟩:=ai.1 c;cases R;have:∃m,qD ρ M=some m/\nQ x l m:=by
    rcases z with _|⟨j,off,q,k,b⟩
    .exact EX s
    .obtain ⟨F,e,G⟩:=C j off q k b rfl;cases S:Nat.beq i j<;>simp only[S] at s
     .exact EX s
     .cases b
      .exact T2 (s0:=.own q k []) (by simp only[SV.j5,F];rfl) (.nil G) s
      .exact T2 (s0:=.arr q 0) (by simp only[SV.j5,F];rfl) (.Sy G) s
   obtain⟨m,V,W⟩:=this;exact .cells V W
  case row=>subst c;exact .row
  case jd=>
   subst c;split
   .exact nz _
   .exact .QX
  case buf=>subst c;exact .ae6
  case dead=>subst c;exact .dead
def R5(ρ:List Nat)(c:List (Nat×SV)):List Nat->List (Nat×SV)
 |[]=>[]
 |t::r=>match oV t c with
  |some s=>match unS ρ s with
   |some b=>(t,b)::R5 ρ c r
   |none=>R5 ρ c r
  |none=>R5 ρ c r
theorem Ev{c:List Ob}{ρ:List Nat}{e:List (Nat×SV)}:∀{b:List Nat},tl c ρ e (R5 ρ e b)
 |[]=>.nil
 |t::r=>by
  unfold R5;split
  .rename_i s k;split
   .rename_i j U;obtain⟨q,h,i⟩:=NM (ob:=c) U;exact .cons h (by rw[ou k];exact i) Ev
   .exact Ev
  .exact Ev
def reO(c n:Nat)(z:Zt)(ρ:List Nat)(e:List (Nat×SV))(h:List Ob):Option (List (Nat×SV)×List Ob):=
 (Uf z ρ h ρ).bind λob'=>cond (pre 0 c ρ) (cond (me ρ) (cond (nF ob') (some (R5 ρ e (Ml 0 n),ob')) none) none) none
theorem ZM(s:zOk ρ j z)(h:reO i n z ρ q j=some (c,e)):um i ⟨n,q,j⟩ ⟨n,c,e⟩ ρ:=by
 obtain⟨b,x,h⟩:=ai.1 h;cases k:pre 0 i ρ<;>rw[k] at h
 .cases h
 cases U:me ρ<;>rw[U] at h
 .cases h
 cases r:nF b<;>rw[r] at h<;>cases h;exact BH k U r (Ey s x) Ev
theorem ik.at(e:∀B g a w,jE c B σ g a w->jE c B σ' g a w)(h:ik P c o σ' K):ik P c o σ K:=λB g a w h1=>h B g a w (e B g a w h1)
theorem jI.at(j:∀B g a w,jE e B ⟨n,i,ob⟩ g a w->jE e B ⟨n,c,ob⟩ g a w)(h:jI P e n0 Pn T o ⟨n,c,ob⟩ K):jI P e n0 Pn T o ⟨n,i,ob⟩ K:=λB b g a w h1=>h B b g a w (j B g a w h1)
theorem jI.le(r:∀i,T i->q i)(h:jI P c e j T o σ K):jI P c e j q o σ K:=λB U g a w s next Q y z=>
 h B U g a w s next Q (λC F G H I k=>y C F G H I ⟨k.1,λi b o J=>k.2 i b o λx=>J (r i x)⟩) z
def Sx(x:Operand)(e:Nat)(c:List (Nat×SV)):List (Nat×SV):=match x with
 | .tmp t=>match oV t c with
  |some (.d (.v (.slice none 0 0)))=>(t,.d (.sl e []))::c
  |_=>c
 |_=>c
theorem OI(x j)(h:jE e B ⟨n,i,c⟩ g a w):jE e B ⟨n,Sx x j i,c⟩ g a w:=by
 unfold Sx;split
 .split
  .rename_i t _ U;have b:=h.j9 t;rw[ou U] at b;exact h.known (s:=.d (.sl j [])) ((Fit.U2 (ob:=c) (k:=j)).den h.store b)
  .exact h
 .exact h
def Gi:Option SV->Option Int
 |some (.d (.v (.int .i64 m)))=>some m
 |_=>none
theorem uJ(h:Gi x=some m):x=some (fE m):=by
 unfold Gi at h;split at h
 .cases h;rfl
 .cases h
def ZW:Int->Option Nat
 | .ofNat n=>some n
 | .negSucc _=>none
theorem XE(h:ZW j=some n):j=n:=by
 cases j<;>simp only[ZW,an,reduceCtorEq] at h;subst h;rfl
def XD(x:Option SV):Option Nat:=(Gi x).bind ZW
theorem J0(h:XD x=some n):x=some (fE n):=by
 obtain⟨j,b,k⟩:=ai.1 h;rw[uJ b,XE k]
def re{α:Type}(c:Bool)(x:Option α):Option α:=cond c x none
theorem jg{α:Type}{b:Bool}{x:Option α}{y:α}(h:re b x=some y):b=true/\x=some y:=by
 cases b
 .cases h
 .exact ⟨rfl,h⟩
section
variable (P:Program) [T:nZ P] (GL:Nat->List D) (sl:List (Nat×SV)) (ob:List Ob)
def elO(t:TypeId):Option TI:=re (uw T.QD.us t) ((Nw P t).bind λb=>(Nw P b.elem).bind λti=>re ti.ok (some ti))
def ixO(t:TypeId)(x i:Operand):Option SV:=(elO P t).bind λti=>(XD (jb GL sl i)).bind λm=>match jb GL sl x with
 |some (.d (.sl k ls))=>re (Nat.beq ti.size k) ((jo m ls).bind λe=>some (.d (.cp e)))
 |some (.own _ k ls)=>re (Nat.beq ti.size k) ((jo m ls).bind λe=>some (.d (.cp e)))
 |some (.arr q n)=>match jo q ob with
  |some (.buf _ k _ _)=>re (Nat.beq ti.size k) (re (Nat.blt m n) (some (.bp q (m*k))))
  |_=>none
 |_=>none
def ZA(x c:Operand)(t:TypeId)(e:Nat->List (List D)->List (List D)):Option SV:=(elO P t).bind λti=>(jb GL (Sx x ti.size sl) x).bind λs=>(XD (jb GL (Sx x ti.size sl) c)).bind λl=>match s.p9 with
 |some (.sl k ls)=>re (Nat.beq ti.size k) (re (Nat.ble l ls.length) (some (.d (.sl k (e l ls)))))
 |_=>none
def bnd(x:Int):Option SV:=re (decide (-9223372036854775808<=x)) (re (decide (x<=9223372036854775807)) (some (.d (.v (.int .i64 x)))))
def arO(c:BinOp)(x y:Option SV):Option SV:=match c with
 | .add=>match x,y with
  |some (.d (.v (.string s))),some (.d (.v (.string t)))=>re (Nat.ble (s.size+t.size) 9223372036854775807) (some (.d (.v (.string (s++t)))))
  |x,y=>(Gi x).bind λm=>(Gi y).bind λn=>bnd (m+n)
 | .sub=>(Gi x).bind λm=>(Gi y).bind λn=>bnd (m-n)
 | .mul=>(Gi x).bind λm=>(Gi y).bind λn=>bnd (m*n)
 |_=>none
def f2O:Op->Option SV
 | .indexAddr t x i=>ixO P GL sl ob t x i
 | .slice t x (some b) none none=>ZA P GL sl x b t λl ls=>ls.drop l
 | .slice t x none (some k) none=>ZA P GL sl x k t λl ls=>ls.take l
 | .binOp op _ x y _=>arO op (jb GL sl x) (jb GL sl y)
 | .pick c x y=>match jb GL sl c with
  |some (.d (.v (.bool true)))=>jb GL sl x
  |some (.d (.v (.bool false)))=>jb GL sl y
  |_=>none
 | .call ⟨.builtin .len,⟨[x]⟩,⟨[t]⟩⟩=>re (uw T.QD.us t) (match jb GL sl x with
  |some (.arr _ m)=>some (.d (.v (.int .i64 m)))
  |some (.d (.v (.slice none n _)))=>some (.d (.v (.int .i64 n)))
  |_=>none)
 | .call ⟨.builtin .max,⟨[x,y]⟩,_⟩=>(Gi (jb GL sl x)).bind λm=>(Gi (jb GL sl y)).bind λn=>some (.d (.v (.int .i64 (max m n))))
 |_=>none
def fXO(c:Op):Option (SV×List Nat):=match f1O P GL sl ob c with
 |some r=>some r
 |none=>(f2O P GL sl ob c).bind λs=>some (s,[])
variable {P:Program} [T:nZ P] {GL:Nat->List D} {n0:Nat} {Pn:jO} {o:Oper} {n:Nat} {sl:List (Nat×SV)} {ob:List Ob}
theorem Ku(h:elO P t=some c):P.underlying t=some (.slice (iH P t).elem)/\iH P (iH P t).elem=c/\c.ok=true:=by
 obtain⟨b,k⟩:=jg h;obtain⟨x,U,e⟩:=ai.1 k;obtain⟨i,j,q⟩:=ai.1 e;obtain⟨r,s⟩:=jg q;cases s;exact⟨T.us _ (y5 b),by rw[ri P _ _ U];exact ri P _ _ j,r⟩
theorem P4(h:bnd x=some s):(-9223372036854775808<=x/\x<=9223372036854775807)/\s=fE x:=by
 obtain⟨b,h⟩:=jg h;obtain⟨k,h⟩:=jg h;cases h;exact⟨⟨by simpa using b,by simpa using k⟩,rfl⟩
theorem QG(h:ZA P GL sl x y t z=some s):∃(ti:TI) (U:SV) (l k:Nat) (ls:List (List D)),elO P t=some ti/\jb GL (Sx x ti.size sl) x=some U/\jb GL (Sx x ti.size sl) y=some (fE l)/\U.p9=some (.sl k ls)/\ti.size=k/\l<=ls.length/\s=.d (.sl k (z l ls)):=by
 obtain⟨ti,c,h⟩:=ai.1 h;obtain⟨U,e,h⟩:=ai.1 h;obtain⟨l,i,h⟩:=ai.1 h;split at h
 .rename_i k ls j;obtain⟨q,h⟩:=jg h;obtain⟨r,h⟩:=jg h;cases h;exact⟨ti,U,l,k,ls,c,e,J0 i,j,by simpa using q,by simpa using r,rfl⟩
 .cases h
theorem aaj(h:f2O P GL sl ob o.op=some s)(r:K s []):ik P GL o ⟨n,sl,ob⟩ K:=by
 generalize z:o.op=op at h;unfold f2O at h;split at h
 .rename_i t x i;obtain⟨ti,U,h⟩:=ai.1 h;obtain⟨m,C,h⟩:=ai.1 h;obtain⟨H,I,J⟩:=Ku U;have R:=J0 C;split at h
  .rename_i k ls F;obtain⟨j,h⟩:=jg h;obtain⟨e,G,M⟩:=ai.1 h;cases M;exact BW H I J (by simpa using j) z F R O (iS G) r
  .rename_i q k ls F;obtain⟨j,h⟩:=jg h;obtain⟨e,G,M⟩:=ai.1 h;cases M;exact BV H I J (by simpa using j) z F R O (iS G) r
  .rename_i q Y F;split at h
   .rename_i e k ls pq hq;obtain⟨j,h⟩:=jg h;obtain⟨G,h⟩:=jg h;cases h;have G:m<Y:=by simpa[dP] using G
    exact mH H I J (by simpa using j) z F R hq ⟨O,O⟩ (by simpa using r)
   .cases h
  .cases h
 .rename_i t x lo;obtain⟨ti,sx,l,k,ls,U,C,j,S,G,M,rfl⟩:=QG h;obtain⟨H,I,J⟩:=Ku U;exact ik.at (σ':=⟨n,Sx x ti.size sl,ob⟩) (λB g a w=>OI x _) (sJ H I J G z C S j ⟨O,O⟩ (by simp) r)
 .rename_i t x R;obtain⟨ti,sx,l,k,ls,U,C,j,S,G,M,rfl⟩:=QG h;obtain⟨H,I,J⟩:=Ku U;exact ik.at (σ':=⟨n,Sx x ti.size sl,ob⟩) (λB g a w=>OI x _) (pa H I J G z C S j ⟨O,O⟩ (by simp) r)
 .rename_i op t x y t';unfold arO at h;split at h
  .split at h
   .rename_i a b F hy;obtain⟨U,h⟩:=jg h;cases h;exact Re z F hy (by
     have:a.size+b.size<=9223372036854775807:=by simpa using U
     omega) r
   .obtain ⟨a,U,h⟩:=ai.1 h;obtain⟨b,C,h⟩:=ai.1 h;obtain⟨j,rfl⟩:=P4 h;exact Pt z (uJ U) (uJ C) j r
  .obtain ⟨a,U,h⟩:=ai.1 h;obtain⟨b,C,h⟩:=ai.1 h;obtain⟨j,rfl⟩:=P4 h;exact Pj z (uJ U) (uJ C) j r
  .obtain ⟨a,U,h⟩:=ai.1 h;obtain⟨b,C,h⟩:=ai.1 h;obtain⟨j,rfl⟩:=P4 h;exact Gt z (uJ U) (uJ C) j r
  .cases h
 .rename_i c x y;split at h
  .rename_i V;exact uV z V h r
  .rename_i V;exact uW z V h r
  .cases h
 .rename_i x t;obtain⟨U,h⟩:=jg h;have W:=T.us _ (y5 U);split at h
  .rename_i F;cases h;exact qg W z F r
  .rename_i F;cases h;exact Gu W z F r
  .cases h
 .rename_i x y ts;obtain⟨a,U,h⟩:=ai.1 h;obtain⟨b,C,h⟩:=ai.1 h;cases h;exact VL z (uJ U) (uJ C) r
 .cases h
theorem VV(h:fXO P GL sl ob o.op=some (s,L))(c:K s L):ik P GL o ⟨n,sl,ob⟩ K:=by
 unfold fXO at h;split at h
 .rename_i r b;cases h;exact PB b c
 .obtain ⟨e,k,U⟩:=ai.1 h;cases U;exact aaj k c
end
abbrev YB:=Option (List Nat×List (Nat×SV)×List Ob)
def slT(P:Program)(t:TypeId):Option (Nat×Nat×Nat):=match P.underlying t with
 |some (.slice e)=>(P.info? e).bind λi=>i.zero.bind λz=>re (Nat.beq z.cells.size i.size) (re (Nat.blt 0 i.size) (some (e,i.size,i.bytes)))
 |_=>none
theorem N3(h:slT P t=some (e,s,x)):rX P t e s x/\0<s:=by
 unfold slT at h;split at h
 .rename_i r U;obtain⟨i,k,h⟩:=ai.1 h;obtain⟨z,c,h⟩:=ai.1 h;obtain⟨j,h⟩:=jg h;obtain⟨q,h⟩:=jg h;cases h;exact⟨⟨U,by rw[k];rfl,by rw[k];simp[c];simpa using j⟩,by simpa[dP] using q⟩
 .cases h
def Ys:Nat->List (Nat×Operand)->Bool
 |_,[]=>true
 |k,(i,_)::r=>cond (Nat.beq i k) (Ys (k+1) r) false
theorem RA:∀{l:List (Nat×Operand)} {k:Nat},Ys k l=true->Kd k (l.map (·.2))=some l
 |[],k,_=>rfl
 |(i,x)::r,k,h=>by
  unfold Ys at h;cases b:Nat.beq i k<;>rw[b] at h
  .cases h
  .have e:i=k:=by simpa using b
   subst e;have:=RA (l:=r) h;simp only[bG,Kd,this];rfl
section
variable (P:Program) [T:nZ P] (GL:Nat->List D) (n:Nat) (sl:List (Nat×SV)) (ob:List Ob)
def ad0(i:Nat)(t:TypeId)(c:Nat)(h:List (Nat×Operand)):YB:=(slT P t).bind λ(e,size,_)=>(Nw P e).bind λti=>re (Ys 0 h) (re (Nat.beq h.length c) (re (Nat.blt 0 c) (re (Nat.ble (c*size) 16777216)
 ((MO GL sl ti.agg (h.map (·.2))).bind λb=>re (GP size b) ((pY ob [.row e size]).bind λob'=>some ([],(i,.own ob.length size b)::sl,ob'))))))
def YY(c:Nat)(x:Operand)(e:List (Nat×SV)):Option (SV×List (List D)):=(jb GL e x).bind λs=>match s.p9 with
 |some (.sl k ls)=>re (Nat.beq k c) (some (s,ls))
 |_=>none
def UJ(h:Nat)(i:Nat)(o:Ob)(s:SV)(c:List (Nat×SV))(e:List Ob):YB:=(Ix i c).bind λsl'=>(Iy i e).bind λb=>(pD i o b).bind λob'=>some ([i],(h,s)::sl',ob')
def Vp(e c:Nat):Option Ob->Bool
 |some (.row b k)=>cond (Nat.beq b e) (Nat.beq k c) false
 |some (.jd b k)=>cond (Nat.beq b e) (Nat.beq k c) false
 |_=>false
def aea(j:Nat)(t:TypeId)(s x:Operand):YB:=(slT P t).bind λ(e,size,bytes)=>(YY GL size x (Sx x size sl)).bind λ(_,b)=>match jb GL (Sx x size sl) s with
 |some (.own i k ls)=>re (Nat.beq k size) (re (Nat.ble (ls.length+b.length) maxLen) (re (Nat.ble ((ls.length+b.length)*bytes) 140737488355328) (re (Vp e size (jo i ob)) (UJ j i (.row e size) (.own i size (ls++b)) (Sx x size sl) ob))))
 |some (.d (.v (.slice none 0 0)))=>re (Nat.ble b.length maxLen) (re (Nat.ble (b.length*bytes) 140737488355328) ((pY ob [.jd e size]).bind λU=>(UJ j ob.length (.row e size) (.own ob.length size b) (Sx x size sl) U).bind λ(_,r)=>some ([],r)))
 |some (.arr i m)=>match jo i ob with
  |some (.buf c h ls _)=>re (Nat.beq c e) (re (Nat.beq h size) (match b with
   |[]=>none
   |_::_=>re (Nat.ble (ls.length+b.length) maxLen) (re (Nat.ble ((ls.length+b.length)*bytes) 140737488355328) (UJ j i (.buf e size (ls++b) none) (.arr i (ls++b).length) (Sx x size sl) ob))))
  |_=>none
 |_=>none
def acd(j:Nat)(t:TypeId)(i m:Nat)(c:Operand):YB:=(elO P t).bind λti=>(XD (jb GL sl c)).bind λh=>match jo i ob with
 |some (.buf e k ls _)=>re (Nat.beq ti.size k) (re (Nat.ble h m) (re (Nat.blt 0 m) (UJ j i (.buf e k (ls.take h) none) (.arr i h) sl ob)))
 |_=>none
def ad4(e:Nat)(t:TypeId)(q c:Nat):YB:=(Nw P t).bind λti=>re ti.ok (re ti.agg (match jo q ob with
 |some (.buf _ k ls _)=>re (Nat.beq ti.size k) (re (Nat.beq c (c/k*k)) ((jo (c/k) ls).bind λel=>some ([],(e,.d (.agg el))::sl,ob)))
 |_=>none))
def aco(t:TypeId)(q c:Nat)(y:Operand):YB:=(Nw P t).bind λti=>re ti.ok ((jb GL sl y).bind λs=>(rk ti.agg s).bind λcs=>(Am cs).bind λb=>re (Nat.beq cs.length ti.size) (re (pH cs) (re (py q ob) (match jo q ob with
 |some (.buf e k ls U)=>re (Nat.beq ti.size k) (re (Nat.beq c (c/k*k)) (re (Nat.blt (c/k) ls.length) ((pD q (.buf e k (ls.set (c/k) b) U) ob).bind λob'=>some ([q],sl,ob'))))
 |_=>none))))
def o1X(op:Op)(c:Option Nat):YB:=match c with
 |none=>match op with
  | .store t x y=>match jb GL sl x with
   |some (.jk i off)=>match jo i ob with
    |some (.cells l b)=>(Nw P t).bind λti=>re ti.ok ((jb GL sl y).bind λs=>(rk ti.agg s).bind λcs=>re (Nat.beq cs.length ti.size) (re (pH cs) ((CE off cs l).bind λU=>(pD i (.cells U b) ob).bind λob'=>some ([i],sl,ob'))))
    |_=>none
   |some (.bp q off)=>aco P GL sl ob t q off y
   |_=>none
  |_=>none
 |some d=>re (Nat.blt d n) (match op with
  | .alloc t=>(Nw P t).bind λti=>re ti.TP ((wY ti.zero).bind λcs=>(pY ob [.cells cs t]).bind λob'=>some ([],(d,.jk ob.length 0)::sl,ob'))
  | .box t x=>(Nw P t).bind λti=>(jb GL sl x).bind λs=>(rk ti.agg s).bind λcs=>(pY ob [.cells cs t]).bind λob'=>some ([],(d,.jk ob.length 0)::sl,ob')
  | .buildSlice t len ⟨ps⟩=>ad0 P GL sl ob d t len ps
  | .call ⟨.builtin .append,⟨[s,x]⟩,⟨[t,e]⟩⟩=>re (Nat.beq t e) (aea P GL sl ob d t s x)
  | .slice t x none (some k) none=>match jb GL sl x with
   |some (.arr i m)=>acd P GL sl ob d t i m k
   |_=>(fXO P GL sl ob (.slice t x none (some k) none)).bind λ(s,_)=>some ([],(d,s)::sl,ob)
  | .load t x=>match jb GL sl x with
   |some (.bp q off)=>ad4 P sl ob d t q off
   |_=>(fXO P GL sl ob (.load t x)).bind λ(s,_)=>some ([],(d,s)::sl,ob)
  |op=>(fXO P GL sl ob op).bind λ(s,_)=>some ([],(d,s)::sl,ob))
variable {P:Program} [T:nZ P] {GL:Nat->List D} {n0:Nat} {Pn:jO} {o:Oper} {n d:Nat} {sl sl':List (Nat×SV)} {ob ob':List Ob} {ix:List Nat} {K:St->Prop}
theorem XI(j:o.op=.buildSlice t c ⟨i⟩)(q:o.dst=some d)(r:Nat.blt d n=true)(h:ad0 P GL sl ob d t c i=some (ix,sl',ob'))(s:K ⟨n,sl',ob'⟩):jI P GL n0 Pn (· ∈ix) o ⟨n,sl,ob⟩ K:=by
 obtain⟨⟨e,size,bytes⟩,b,h⟩:=ai.1 h;obtain⟨ti,k,h⟩:=ai.1 h;obtain⟨U,h⟩:=jg h;obtain⟨x,h⟩:=jg h;obtain⟨y,h⟩:=jg h;obtain⟨z,h⟩:=jg h;obtain⟨C,F,h⟩:=ai.1 h;obtain⟨G,h⟩:=jg h;obtain⟨H,I,h⟩:=ai.1 h;cases h;exact OE (N3 b).1 (i.map (·.2)) (ri P _ _ k) j q r (RA U) F G (by simpa using x) (N3 b).2 (by simpa[dP] using y) (by simpa using z) rfl I s
theorem U5(h:YY GL c x sl=some (s,e)):jb GL sl x=some s/\s.p9=some (.sl c e):=by
 obtain⟨q,U,h⟩:=ai.1 h;split at h
 .rename_i k i b;obtain⟨j,h⟩:=jg h;cases h;rw[show k=c by simpa using j] at b;exact⟨U,b⟩
 .cases h
theorem EB(h:UJ d i e s sl ob=some (ix,sl',ob')):∃k U,Ix i sl=some k/\Iy i ob=some U/\pD i e U=some ob'/\sl'=(d,s)::k/\ix=[i]:=by
 obtain⟨a,j,h⟩:=ai.1 h;obtain⟨b,q,h⟩:=ai.1 h;obtain⟨c,r,h⟩:=ai.1 h;cases h;exact⟨a,b,j,q,r,rfl,rfl⟩
theorem FH{α:Type}{x:α}:∀{l:List α},jo l.length (l++[x])=some x
 |[]=>rfl
 |_::l=>FH (l:=l)
theorem BD{i j:Nat}(h:j=i):j∈[i]:=by simp[h]
theorem Vo (h : Vp e c x = true) : ∃ o, x = some o /\ (o = .row e c \/ o = .jd e c) := by
  unfold Vp at h
  split at h
  all_goals first
    | (cases h; done)
    | (rename_i k U
       cases b : Nat.beq k e <;> rw [b] at h
       · cases h
       · rw [cU b, cU h]; exact ⟨_, rfl, by simp⟩)
theorem Yx(I:o.op=.call { callee:=.builtin .append,args:= #[s,x],argTypes:= #[t,t] })(J:o.dst=some d)(M:Nat.blt d n=true)(h:aea P GL sl ob d t s x=some (ix,sl',ob'))(R:K ⟨n,sl',ob'⟩):jI P GL n0 Pn (· ∈ix) o ⟨n,sl,ob⟩ K:=by
 obtain⟨⟨e,size,bytes⟩,h1,h⟩:=ai.1 h;obtain⟨⟨sx,news⟩,h2,h⟩:=ai.1 h;obtain⟨S,hz⟩:=N3 h1;obtain⟨V,W⟩:=U5 h2;refine jI.at (λB g a w=>OI x size) ?_;dsimp only at h;split at h
 .rename_i i k ls c;obtain⟨h3,h⟩:=jg h;obtain⟨y,h⟩:=jg h;obtain⟨z,h⟩:=jg h;obtain rfl:k=size:=by simpa using h3
  obtain⟨U,h⟩:=jg h;obtain⟨or,Y,hor⟩:=Vo U;obtain⟨C,F,G,H,b,rfl,rfl⟩:=EB h;exact jI.le (λj=>BD) (px S I J M (.inl c) V W Y hor hz ⟨by simpa using y,by simpa using z⟩ G H b R)
 .rename_i c;obtain⟨y,h⟩:=jg h;obtain⟨z,h⟩:=jg h;obtain⟨F,U,h⟩:=ai.1 h;obtain⟨⟨ix',r⟩,h7,h⟩:=ai.1 h;cases h;obtain⟨C,ob2,G,H,b,rfl,rfl⟩:=EB h7;refine qL S I J M c V W rfl U ?_ hz ⟨by simpa using y,by simpa using z⟩ G H b R;rw[nM U];exact FH
 .rename_i i m c;split at h
  .rename_i e' k' ls q Y;obtain⟨U,h⟩:=jg h;obtain⟨h7,h⟩:=jg h;obtain rfl:e'=e:=by simpa using U
   obtain rfl:k'=size:=by simpa using h7
   split at h
   .cases h
   .obtain ⟨y,h⟩:=jg h;obtain⟨z,h⟩:=jg h;obtain⟨C,F,G,H,b,rfl,rfl⟩:=EB h;exact jI.le (λj=>BD) (yT S I J M (.inl ⟨c,rfl⟩) Y V W hz (by simp) ⟨by simpa using y,by simpa using z⟩ G H b R)
  .cases h
 .cases h
theorem W0(s:o.op=.slice t x none (some c) none)(y:jb GL sl x=some (.arr i m))(z:o.dst=some d)(C:Nat.blt d n=true)(h:acd P GL sl ob d t i m c=some (ix,sl',ob'))(F:K ⟨n,sl',ob'⟩):jI P GL n0 Pn (· ∈ix) o ⟨n,sl,ob⟩ K:=by
 obtain⟨ti,G,h⟩:=ai.1 h;obtain⟨k,H,h⟩:=ai.1 h;obtain⟨I,J,M⟩:=Ku G;split at h
 .rename_i e k' ls q b;obtain⟨R,h⟩:=jg h;obtain⟨r,h⟩:=jg h;obtain⟨S,h⟩:=jg h;obtain⟨V,W,Y,h9,U,rfl,rfl⟩:=EB h;have r:k<=m:=by simpa using r
  exact jI.le (λj=>BD) (xN I J M (by simpa using R) s z C y (J0 H) b ⟨O,O⟩ (by simpa[dP] using S) Y h9 (by simpa using U) (by simpa using F))
 .cases h
theorem XL(i:o.op=.load t x)(j:jb GL sl x=some (.bp q c))(r:o.dst=some d)(s:Nat.blt d n=true)(h:ad4 P sl ob d t q c=some (ix,sl',ob'))(y:K ⟨n,sl',ob'⟩):jI P GL n0 Pn (· ∈ix) o ⟨n,sl,ob⟩ K:=by
 obtain⟨ti,b,h⟩:=ai.1 h;obtain⟨U,h⟩:=jg h;obtain⟨z,h⟩:=jg h;split at h
 .rename_i e k ls I C;obtain⟨F,h⟩:=jg h;obtain⟨G,h⟩:=jg h;obtain⟨el,H,h⟩:=ai.1 h;cases h;exact tC (ri P _ _ b) U z i r s j C (by simpa using F) (by simpa using G) (iS H) y
 .cases h
theorem Xd(r:o.op=.store t x y)(z:jb GL sl x=some (.bp q c))(C:o.dst=none)(h:aco P GL sl ob t q c y=some (ix,sl',ob'))(F:K ⟨n,sl',ob'⟩):jI P GL n0 Pn (· ∈ix) o ⟨n,sl,ob⟩ K:=by
 obtain⟨ti,G,h⟩:=ai.1 h;obtain⟨H,h⟩:=jg h;obtain⟨s,I,h⟩:=ai.1 h;obtain⟨cs,J,h⟩:=ai.1 h;obtain⟨ds,M,h⟩:=ai.1 h;obtain⟨R,h⟩:=jg h;obtain⟨S,h⟩:=jg h;obtain⟨V,h⟩:=jg h;split at h
 .rename_i e k ls pq W;obtain⟨Y,h⟩:=jg h;obtain⟨b,h⟩:=jg h;obtain⟨U,h⟩:=jg h;obtain⟨ob1,i,h⟩:=ai.1 h;cases h;exact jI.le (λj=>BD) (o6 (ri P _ _ G) H r C z I W (by simpa using Y) J M R S V ⟨by simpa using b,by simpa[dP] using U⟩ i F)
 .cases h
theorem Pg(e:o.op=c)(i:o.dst=some d)(j:Nat.blt d n=true)(h:((fXO P GL sl ob c).bind λ(s,_)=>some ([],(d,s)::sl,ob))=some (ix,sl',ob'))(q:K ⟨n,sl',ob'⟩):jI P GL n0 Pn (· ∈ix) o ⟨n,sl,ob⟩ K:=by
 subst e;obtain⟨⟨s,L⟩,b,h⟩:=ai.1 h;cases h;exact LH i j (VV b q)
theorem ZU(h:o1X P GL n sl ob o.op o.dst=some (ix,sl',ob'))(c:K ⟨n,sl',ob'⟩):jI P GL n0 Pn (· ∈ix) o ⟨n,sl,ob⟩ K:=by
 generalize hd:o.dst=H at h;generalize b:o.op=op at h;unfold o1X at h;split at h
 .split at h
  .rename_i t x y;split at h
   .rename_i i off U;split at h
    .rename_i l I G;obtain⟨ti,e,h⟩:=ai.1 h;obtain⟨r,h⟩:=jg h;obtain⟨s,z,h⟩:=ai.1 h;obtain⟨cs,C,h⟩:=ai.1 h;obtain⟨J,h⟩:=jg h;obtain⟨M,h⟩:=jg h;obtain⟨W,R,h⟩:=ai.1 h;obtain⟨F,S,h⟩:=ai.1 h;cases h;exact jI.le (λj=>BD) (Fy (ri P _ _ e) r b hd U z G C J M R S c)
    .cases h
   .rename_i q off U;exact Xd b U hd h c
   .cases h
  .cases h
 .rename_i d;obtain⟨k,h⟩:=jg h;split at h
  .rename_i t;obtain⟨ti,e,h⟩:=ai.1 h;obtain⟨r,h⟩:=jg h;obtain⟨cs,z,h⟩:=ai.1 h;obtain⟨F,C,h⟩:=ai.1 h;cases h;exact FF (ri P _ _ e) r b hd k z rfl C c
  .rename_i t x;obtain⟨ti,e,h⟩:=ai.1 h;obtain⟨s,r,h⟩:=ai.1 h;obtain⟨cs,z,h⟩:=ai.1 h;obtain⟨F,C,h⟩:=ai.1 h;cases h;exact UT (ri P _ _ e) b hd k r z rfl C c
  .exact XI b hd k h c
  .rename_i s x t V _;obtain⟨e,r⟩:=jg h;obtain rfl:t=V:=by simpa using e
   exact Yx b hd k r c
  .rename_i t x G;split at h
   .rename_i i m U;exact W0 b U hd k h c
   .exact Pg b hd k h c
  .rename_i t x;split at h
   .rename_i q off U;exact XL b U hd k h c
   .exact Pg b hd k h c
  .exact Pg b hd k h c
end
def vEq:Value->Value->Bool
 | .bool a,.bool b=>cond a b (!b)
 | .int k m,.int U n=>cond (kEq k U) (decide (m=n)) false
 | .string a,.string b=>decide (a=b)
 | .nilIface,.nilIface=>true
 | .pointer none,.pointer none=>true
 | .slice none a b,.slice none c d=>cond (Nat.beq a c) (Nat.beq b d) false
 | .tuple ⟨[]⟩,.tuple ⟨[]⟩=>true
 |_,_=>false
theorem yi(h:cond a c false=true):a=true/\c=true:=by cases a<;>simp_all
theorem TU(h:vEq x y=true):x=y:=by
 unfold vEq at h;split at h
 .rename_i a b;cases a<;>cases b<;>first|rfl|cases h
 .obtain ⟨k,U⟩:=yi h;rw[Vn k,of_decide_eq_true U]
 .rw [of_decide_eq_true h]
 .rfl
 .rfl
 .obtain ⟨k,U⟩:=yi h;rw[cU k,cU U]
 .rfl
 .cases h
mutual
def D.Di:D->D->Bool
 | .v x,.v y=>vEq x y
 | .agg l,.agg m=>ML l m
 | .jj l,.jj m=>ML l m
 | .sl k l,.sl j m=>cond (Nat.beq k j) (PL l m) false
 | .cp l,.cp m=>ML l m
 |_,_=>false
def ML:List D->List D->Bool
 |[],[]=>true
 |a::r,b::s=>cond (a.Di b) (ML r s) false
 |_,_=>false
def PL:List (List D)->List (List D)->Bool
 |[],[]=>true
 |a::r,b::s=>cond (ML a b) (PL r s) false
 |_,_=>false
end
mutual
theorem D.Dh:∀(x y:D),x.Di y=true->x=y
 | .v x,y,h=>by cases y<;>simp only[D.Di,bu] at h;rw[TU h]
 | .agg l,y,h=>by cases y<;>simp only[D.Di,bu] at h;rw[BY l _ h]
 | .jj l,y,h=>by cases y<;>simp only[D.Di,bu] at h;rw[BY l _ h]
 | .sl k l,y,h=>by
  cases y<;>simp only[D.Di,bu] at h;obtain⟨h1,h2⟩:=yi h;rw[EK l _ h2,show k=_ by simpa using h1]
 | .cp l,y,h=>by cases y<;>simp only[D.Di,bu] at h;rw[BY l _ h]
 | .uU T d,y,h=>by cases y<;>simp only[D.Di,bu] at h
theorem BY:∀(x y:List D),ML x y=true->x=y
 |[],y,h=>by cases y<;>simp only[ML,bu] at h;rfl
 |a::r,y,h=>by
  cases y<;>simp only[ML,bu] at h;obtain⟨h1,h2⟩:=yi h;rw[D.Dh a _ h1,BY r _ h2]
theorem EK:∀(x y:List (List D)),PL x y=true->x=y
 |[],y,h=>by cases y<;>simp only[PL,bu] at h;rfl
 |a::r,y,h=>by
  cases y<;>simp only[PL,bu] at h;obtain⟨h1,h2⟩:=yi h;rw[BY a _ h1,EK r _ h2]
end
mutual
def SV.Di:SV->SV->Bool
 | .d x,.d y=>x.Di y
 | .jk i a,.jk j b=>cond (Nat.beq i j) (Nat.beq a b) false
 | .bp i a,.bp j b=>cond (Nat.beq i j) (Nat.beq a b) false
 | .arr i a,.arr j b=>cond (Nat.beq i j) (Nat.beq a b) false
 | .own i k l,.own j k' m=>cond (Nat.beq i j) (cond (Nat.beq k k') (PL l m) false) false
 | .agg l,.agg m=>N0 l m
 | .jj l,.jj m=>N0 l m
 | .qe,.qe=>true
 |_,_=>false
def N0:List SV->List SV->Bool
 |[],[]=>true
 |a::r,b::s=>cond (a.Di b) (N0 r s) false
 |_,_=>false
end
mutual
theorem SV.Dh:∀(x y:SV),x.Di y=true->x=y
 | .d x,y,h=>by cases y<;>simp only[SV.Di,bu] at h;rw[D.Dh _ _ h]
 | .jk i a,y,h=>by
  cases y<;>simp only[SV.Di,bu] at h;obtain⟨h1,h2⟩:=yi h;rw[show i=_ by simpa using h1,show a=_ by simpa using h2]
 | .bp i a,y,h=>by
  cases y<;>simp only[SV.Di,bu] at h;obtain⟨h1,h2⟩:=yi h;rw[show i=_ by simpa using h1,show a=_ by simpa using h2]
 | .arr i a,y,h=>by
  cases y<;>simp only[SV.Di,bu] at h;obtain⟨h1,h2⟩:=yi h;rw[show i=_ by simpa using h1,show a=_ by simpa using h2]
 | .own i k l,y,h=>by
  cases y<;>simp only[SV.Di,bu] at h;obtain⟨h1,h⟩:=yi h;obtain⟨h2,h3⟩:=yi h;rw[show i=_ by simpa using h1,show k=_ by simpa using h2,EK _ _ h3]
 | .agg l,y,h=>by cases y<;>simp only[SV.Di,bu] at h;rw[EA l _ h]
 | .jj l,y,h=>by cases y<;>simp only[SV.Di,bu] at h;rw[EA l _ h]
 | .qe,y,h=>by cases y<;>simp only[SV.Di,bu] at h;rfl
 | .fn ..,y,h=>by cases y<;>simp only[SV.Di,bu] at h
 | .uU ..,y,h=>by cases y<;>simp only[SV.Di,bu] at h
 | .map ..,y,h=>by cases y<;>simp only[SV.Di,bu] at h
 | .rp ..,y,h=>by cases y<;>simp only[SV.Di,bu] at h
 | .G3 ..,y,h=>by cases y<;>simp only[SV.Di,bu] at h
theorem EA:∀(x y:List SV),N0 x y=true->x=y
 |[],y,h=>by cases y<;>simp only[N0,bu] at h;rfl
 |a::r,y,h=>by
  cases y<;>simp only[N0,bu] at h;obtain⟨h1,h2⟩:=yi h;rw[SV.Dh a _ h1,EA r _ h2]
end
def OH:List Ob->List Ob->Bool
 |[],[]=>true
 | .cells l t::r,.cells m u::s=>cond (N0 l m) (cond (Nat.beq t u) (OH r s) false) false
 | .row t k::r,.row u j::s=>cond (Nat.beq t u) (cond (Nat.beq k j) (OH r s) false) false
 | .jd t k::r,.jd u j::s=>cond (Nat.beq t u) (cond (Nat.beq k j) (OH r s) false) false
 | .buf t k l none::r,.buf u j m none::s=>cond (Nat.beq t u) (cond (Nat.beq k j) (cond (PL l m) (OH r s) false) false) false
 |_,_=>false
theorem Xx:∀{x y:List Ob},OH x y=true->x=y:=by
 intro x
 induction x with
 |nil=>intro y h;cases y<;>first|rfl|cases h
 |cons o r e=>
  intro y h;unfold OH at h;split at h
  .rename_i b;cases b
  .rename_i l t i m u s b;cases b;obtain⟨U,h⟩:=yi h;obtain⟨c,h⟩:=yi h;rw[EA _ _ U,show t=u by simpa using c,e h]
  .rename_i t k i u j s b;cases b;obtain⟨U,h⟩:=yi h;obtain⟨c,h⟩:=yi h;rw[show t=u by simpa using U,show k=j by simpa using c,e h]
  .rename_i t k i u j s b;cases b;obtain⟨U,h⟩:=yi h;obtain⟨c,h⟩:=yi h;rw[show t=u by simpa using U,show k=j by simpa using c,e h]
  .rename_i t k l i u j m s b;cases b;obtain⟨U,h⟩:=yi h;obtain⟨c,h⟩:=yi h;obtain⟨q,h⟩:=yi h;rw[show t=u by simpa using U,show k=j by simpa using c,EK _ _ q,e h]
  .cases h
def Zz:Option SV->Option SV->Bool
 |some x,some y=>x.Di y
 |none,none=>true
 |_,_=>false
theorem Xe(h:Zz x y=true):x=y:=by
 cases x<;>cases y<;>simp only[Zz,bu] at h
 .rfl
 .rw [SV.Dh _ _ h]
def ZB(a c:List (Nat×SV)):List Nat->Bool
 |[]=>true
 |t::r=>cond (Zz (oV t a) (oV t c)) (ZB a c r) false
def M8(a:List (Nat×SV)):List Nat->List (Nat×SV)
 |[]=>[]
 |t::r=>match oV t a with
  |some s=>(t,s)::M8 a r
  |none=>M8 a r
theorem QH{a b:List (Nat×SV)}:∀{k:List Nat},ZB a b k=true->∀t∈k,oV t a=oV t b
 |[],_=>λt h=>by cases h
 |u::r,h=>λt ht=>by
  obtain⟨U,c⟩:=yi h;rcases bh.1 ht with rfl|ht
  .exact Xe U
  .exact QH c t ht
theorem M6{a j:List (Nat×SV)}{u:Nat}:∀{k:List Nat},(∀ t∈k,oV t a=oV t j)->vO u (M8 a k)=vO u j\/vO u (M8 a k)=.qe
 |[],_=>.inr rfl
 |t::r,h=>by
  have U:=M6 (u:=u) λt i=>h t (bB _ i)
  unfold M8;split
  .rename_i s c;rw[n5];split
   .rename_i e;subst e;rw[h _ bC] at c;exact .inl (ou c).symm
   .exact U
  .exact U
def Le(c:Nat->List D)(τ σ:St):Prop:= ∀B a w,Rel c B τ a w->Rel c B σ a w
theorem Le.Uv:Le c σ σ:=λ_ _ _ h=>h
theorem Le.trans{b:St}(h:Le e a b)(k:Le e b c):Le e a c:=λB x w r=>k B x w (h B x w r)
theorem RC{b:List (Nat×SV)}(h:∀t∈c,oV t a=oV t b):Le j ⟨n,b,i⟩ ⟨n,M8 a c,i⟩:=λB x w ⟨g,k⟩=>
 ⟨g,k.defers,k.size,λt=>by
  show(vO t (M8 a c)).Den g _;rcases M6 (u:=t) h with e|e
  .rw [e];exact k.j9 t
  .rw [e];trivial,k.store,k.pG⟩
inductive Tk where
 |c (c:Code)
 |l (c:Code)
 |o (ops l:List Oper)
 |a (l:List Oper) (fuel:Nat) (listed:Array Bool) (L:List (Nat×Nat))
 |m (l:List Oper) (fuel:Nat) (listed:Array Bool) (L:List (Nat×Nat)) (is:List Nat)
abbrev Rs:=Option (Ex×List (Nat×SV)×List Ob)
def aba(i:Nat)(l:List Nat):List Nat:=cond (uw l i) l (l++[i])
def I0:List SV->List Nat->List Nat
 |[],l=>l
 | .jk i _::r,l=>I0 r (aba i l)
 |_::r,l=>I0 r l
def RB:List SV->List Nat->List Nat
 |[],l=>l
 | .own i _ _::r,l=>RB r (aba i l)
 | .arr i _::r,l=>RB r (aba i l)
 |_::r,l=>RB r l
def Us(e:List Ob):List Nat->List Nat->List Nat
 |[],l=>l
 |i::r,l=>Us e r (match jo i e with
  |some (.cells c _)=>RB c l
  |_=>l)
mutual
def leD:D->D->Bool
 | .v (.slice none 0 0),.sl _ []=>true
 | .v x,.v y=>vEq x y
 | .agg l,.agg m=>leL l m
 | .jj l,.jj m=>leL l m
 | .sl k l,.sl j m=>cond (Nat.beq k j) (leR l m) false
 |_,_=>false
def leL:List D->List D->Bool
 |[],[]=>true
 |a::r,b::s=>cond (leD a b) (leL r s) false
 |_,_=>false
def leR:List (List D)->List (List D)->Bool
 |[],[]=>true
 |a::r,b::s=>cond (leL a b) (leR r s) false
 |_,_=>false
end
mutual
theorem Vh:∀(x y:D),leD x y=true->KK x y:=λx y h=>by
 unfold leD at h;split at h
 .exact .nil
 .rw [TU h];exact .refl _
 .exact .agg (J9 _ _ h)
 .exact .jj (J9 _ _ h)
 .obtain ⟨h1,h2⟩:=yi h;rw[cU h1];exact .sl (OW _ _ h2)
 .cases h
theorem J9:∀(x y:List D),leL x y=true->vE x y
 |[],[],_=>.nil
 |a::r,b::s,h=>by
  obtain⟨h1,h2⟩:=yi h;exact .cons (Vh a b h1) (J9 r s h2)
 |[],_::_,h=>by cases h
 |_::_,[],h=>by cases h
theorem OW:∀(x y:List (List D)),leR x y=true->vD x y
 |[],[],_=>.nil
 |a::r,b::s,h=>by
  obtain⟨h1,h2⟩:=yi h;exact .cons (J9 a b h1) (OW r s h2)
 |[],_::_,h=>by cases h
 |_::_,[],h=>by cases h
end
def XK(x:SV):SV->Bool
 | .d d=>match x.p9 with
  |some c=>leD c d
  |none=>false
 | .own j b m=>match x with
  | .own i k l=>cond (Nat.beq i j) (cond (Nat.beq k b) (leR l m) false) false
  |_=>false
 |y=>x.Di y
theorem Q2(h:XK x y=true):Fit e x y:=by
 unfold XK at h;split at h
 .split at h
  .rename_i c b;exact .Yh b (Vh _ _ h)
  .cases h
 .split at h
  .obtain ⟨k,h⟩:=yi h;obtain⟨U,i⟩:=yi h;rw[cU k,cU U];exact .own (OW _ _ i)
  .cases h
 .rw [SV.Dh _ _ h];exact .refl _
def Vg:List SV->List SV->Bool
 |[],[]=>true
 |a::r,b::s=>cond (XK a b) (Vg r s) false
 |_,_=>false
theorem J8{c:List Ob}:∀{x y:List SV},Vg x y=true->nQ c x y
 |[],[],_=>.nil
 |a::r,b::s,h=>by
  obtain⟨k,U⟩:=yi h;exact .cons (Q2 k) (J8 U)
 |[],_::_,h=>by cases h
 |_::_,[],h=>by cases h
def obF(ρ:List Nat):Ob->Ob->Bool
 | .cells b t,.cells l u=>cond (Nat.beq t u) (match qD ρ b with
  |some m=>Vg l m
  |none=>false) false
 | .row t k,.row u j=>cond (Nat.beq t u) (Nat.beq k j) false
 |_,_=>false
def Su(ρ:List Nat)(c:List Ob):List Ob->List Nat->Bool
 |[],[]=>true
 |oc::r,i::b=>match jo i c with
  |some o=>cond (obF ρ oc o) (Su ρ c r b) false
  |none=>false
 |_,_=>false
theorem JX{ρ:List Nat}{j:List Ob}:∀{b:List Ob} {c:List Nat},Su ρ j b c=true->jh j ρ b c
 |[],[],_=>.nil
 |oc::r,i::c,h=>by
  unfold Su at h;split at h
  .rename_i o q;obtain⟨k,s⟩:=yi h;refine .cons q ?_ (JX s);unfold obF at k;split at k
   .obtain ⟨e,U⟩:=yi k;split at U
    .rename_i m x;rw[cU e];exact .cells x (J8 U)
    .cases U
   .obtain ⟨e,U⟩:=yi k;rw[cU e,cU U];exact .row
   .cases k
  .cases h
 |[],_::_,h=>by cases h
 |_::_,[],h=>by cases h
structure KE where
 f:Nat
 a:List SV
 o:List Ob
 d:D
 o2:List Ob
structure Hint where
 z:List (Nat×Nat×Nat×Nat×Bool)
 len:Nat
 ix:List Nat
 kn:List KE
def fdK(j:Nat)(h:List Nat)(i:List Ob)(c:List SV):List KE->Option (D×List Ob)
 |[]=>none
 |e::r=>cond (cond (Nat.beq j e.f) (match qD h e.a with
  |some m=>cond (Vg c m) (cond (nF e.o) (Su h i e.o h) false) false
  |none=>false) false) (some (e.d,e.o2)) (fdK j h i c r)
def zk(P:Program)(c:Nat->List D)(K:List KE):Prop:= ∀e∈K,jT P c e.f e.o e.a (λout ob'=>out=.ret (.d e.d)/\ob'=e.o2)
def Ans(P:Program)(i:Nat->List D)(q:Nat)(c:List Nat)(h:List Ob)(e:List SV)(r:D)(j:List Ob):Prop:= ∃k b m,jT P i q k b (λout ob'=>out=.ret (.d r)/\ob'=j)/\jh h c k c/\nF k=true/\qD c b=some m/\nQ h e m
theorem Pz{P:Program}{y:Nat->List D}{H:Nat}{i:List Nat}{c:List SV}{j z:List Ob}{I:D}:∀{K:List KE},zk P y K->fdK H i j c K=some (I,z)->Ans P y H i j c I z
 |[],_,h=>by cases h
 |e::r,k,h=>by
  unfold fdK at h;split at h
  .rename_i m C;cases b:cond (Nat.beq H e.f) (cond (Vg c m) (cond (nF e.o) (Su i j e.o i) false) false) false<;>rw[b] at h
   .exact Pz (λx U=>k x (bB _ U)) h
   .cases h;obtain⟨F,q⟩:=yi b;obtain⟨q,s⟩:=yi q;obtain⟨s,G⟩:=yi s;rw[cU F];exact⟨_,_,m,k e bC,JX G,s,C,J8 q⟩
  .cases b:Nat.beq H e.f<;>rw[b] at h<;>exact Pz (λx U=>k x (bB _ U)) h
section
variable (P:Program) [T:nZ P] (GL:Nat->List D) (nr:Hint) (cal:Nat->Code->Nat->List (Nat×SV)->List Ob->Rs)
def aaq(e:List ResultVar)(m:Nat)(h:List (Nat×SV))(c:List Ob):Option (D×List Ob):=(Eg P h c e).bind λl=>(ve l).p9.bind λd=>(Uf none (Ml 0 m) c (Ml 0 m)).bind λb=>re (pre 0 m (Ml 0 m)) (re (me (Ml 0 m)) (re (nF b) (some (d,b))))
def ad8(i:FuncId)(e:List SV)(h:List Ob):Option (D×List Ob):=(P.funcs[i]?).bind λfn=>fn.body.bind λc=>re (Nat.ble e.length fn.ntmps) ((ur 0 e).bind λU=>match cal h.length c fn.ntmps U h with
 |some (.ret,b,k)=>aaq P fn.results.toList h.length b k
 |some (.normal,b,k)=>aaq P fn.results.toList h.length b k
 |_=>none)
def ab9(h:List Ob)(i:FuncId)(c:List SV)(e:List Nat):Option (D×List Ob):=match fdK i e h c nr.kn with
 |some r=>some r
 |none=>(unL e c).bind λk=>(Uf none e h e).bind λb=>re (nF b) (ad8 P cal i k b)
def agb(n:Nat)(r:List (Nat×SV))(e:List Ob)(s:FuncId)(h:List SV)(i:Option Nat)(c:List Nat):YB:=re (me c) (re (qU c e) ((ab9 P nr cal e s h c).bind λ(d,b)=>
 (r6 (names c e.length (b.length-c.length)) b).bind λj=>(vH c e).bind λq=>(pM c q j).bind λk=>(xW c r).bind λU=>match i with
  |some t=>re (Nat.blt t n) (some (c,(t,.d d)::U,k))
  |none=>some (c,U,k)))
def opX(n:Nat)(e:List (Nat×SV))(h:List Ob)(op:Op)(c:Option Nat):YB:=match op with
 | .call ⟨.value (.func f),⟨args⟩,⟨b⟩⟩=>re (iA P f) ((GC GL e args).bind λsvs=>agb P nr cal n e h f svs c (Us h (I0 svs []) (I0 svs [])))
 |op=>o1X P GL n e h op c
end
def Nt(P:Program)(i:Nat->List D)(h:Nat->Code->Nat->List (Nat×SV)->List Ob->Rs):Prop:=
 ∀n0 Pn c n sl ob e sl' ob',h n0 c n sl ob=some (e,sl',ob')->∀Q,(∀ τ,Le i τ ⟨n,sl',ob'⟩->Q e τ)->iK P i n0 Pn c Q ⟨n,sl,ob⟩
section
variable {P:Program} [T:nZ P] {GL:Nat->List D} {cal:Nat->Code->Nat->List (Nat×SV)->List Ob->Rs}
theorem iK.le(h:Le GL τ σ)(j:iK P GL e i c Q σ):iK P GL e i c Q τ:=λB b a w r=>j B b a w (h B a w r)
theorem Ro(h:aaq P i m j q=some (C,c)):Fin P GL m i (λout ob'=>out=.ret (.d C)/\ob'=c) ⟨n,j,q⟩:=by
 obtain⟨l,b,h⟩:=ai.1 h;obtain⟨z,k,h⟩:=ai.1 h;obtain⟨U,r,h⟩:=ai.1 h;obtain⟨s,h⟩:=jg h;obtain⟨x,h⟩:=jg h;obtain⟨y,h⟩:=jg h;cases h;exact tL (vR b) k (Ml 0 m) c s x y (Ey (λ_ _ _ _ _ e=>by cases e) r) ⟨rfl,rfl⟩
theorem Bp(h:iK P GL x Pn c (λs τ=>s=e/\Le GL τ i) σ)(j:Q e i):iK P GL x Pn c Q σ:=λB y a w z=>wp_mono (h B y a w z) λs q r b=>by
 cases s with
 |normal=>obtain⟨τ,k,rfl,U⟩:=b;exact⟨i,U B q r k,j⟩
 |exit id=>obtain⟨τ,k,rfl,U⟩:=b;exact⟨i,U B q r k,j⟩
 |goto l=>obtain⟨τ,k,rfl,U⟩:=b;exact⟨i,U B q r k,j⟩
 |ret=>
  rcases b with b|⟨τ,k,rfl,U⟩
  .exact .inl b
  .exact .inr ⟨i,U B q r k,j⟩
 |panic c=>exact b
 |outgrown=>exact b
theorem XS(r:Nt P GL cal)(h:ad8 P cal F e j=some (G,i)):jT P GL F j e (λout ob'=>out=.ret (.d G)/\ob'=i):=by
 obtain⟨fn,s,h⟩:=ai.1 h;obtain⟨c,x,h⟩:=ai.1 h;obtain⟨y,h⟩:=jg h;obtain⟨z,C,h⟩:=ai.1 h;refine xy s x rfl rfl y C j.length rfl ?_;split at h
 .rename_i b k U;exact Bp (r _ _ _ _ _ _ _ _ _ U _ λτ q=>⟨rfl,q⟩) (Ro h)
 .rename_i b k U;exact Bp (r _ _ _ _ _ _ _ _ _ U _ λτ q=>⟨rfl,q⟩) (Ro h)
 .cases h
theorem Yy(x:zk P GL q.kn)(y:Nt P GL cal)(h:ab9 P q cal j I c s=some (J,i)):Ans P GL I s j c J i:=by
 unfold ab9 at h;split at h
 .rename_i r z;cases h;exact Pz x z
 obtain⟨C,F,h⟩:=ai.1 h;obtain⟨b,G,h⟩:=ai.1 h;obtain⟨H,h⟩:=jg h;obtain⟨m,k,U⟩:=EX (ob:=j) F;exact⟨b,C,m,XS y h,Ey (λ_ _ _ _ _ e=>by cases e) G,H,k,U⟩
theorem UU(hk:zk P GL I.kn)(hc:Nt P GL cal)(h:opX P GL I cal n J C o.op o.dst=some (z,i,c))(F:K ⟨n,i,c⟩):jI P GL n0 Pn (· ∈z) o ⟨n,J,C⟩ K:=by
 generalize G:o.op=op at h;unfold opX at h;split at h
 .rename_i f args ts;obtain⟨M,h⟩:=jg h;obtain⟨svs,R,h⟩:=ai.1 h;generalize Us C (I0 svs []) (I0 svs [])=ix0 at h;obtain⟨S,h⟩:=jg h;obtain⟨V,h⟩:=jg h;obtain⟨⟨d,ob2⟩,h8,h⟩:=ai.1 h;obtain⟨k,W,h⟩:=ai.1 h;obtain⟨U,j,h⟩:=ai.1 h;obtain⟨obn,q,h⟩:=ai.1 h;obtain⟨sl3,r,h⟩:=ai.1 h;obtain⟨obc,ac,m,Y,hs,h6,x,y⟩:=Yy hk hc h8;cases hd:o.dst with
  |none=>
   rw[hd] at h;cases h;refine Ss M G R hd Y z hs S h6 V x y (λs c b=>?_) (λs c b=>by cases b.1);obtain⟨e,rfl⟩:=b;cases e;exact⟨k,U,_,_,_,W,j,q,r,rfl,F⟩
  |some t=>
   rw[hd] at h;obtain⟨H,h⟩:=jg h;cases h;refine iX M G R hd H Y z hs S h6 V x y (λs c b=>?_) (λs c b=>by cases b.1);obtain⟨e,rfl⟩:=b;cases e;exact⟨k,U,_,_,_,W,j,q,r,rfl,F⟩
 .subst G;exact ZU h F
variable (P:Program) [T:nZ P] (GL:Nat->List D) (nr:Hint)
def fdZ(t:Nat):List (Nat×Nat×Nat×Nat×Bool)->Option (Nat×Nat×Nat×Bool)
 |[]=>none
 |(u,x)::r=>cond (Nat.beq t u) (some x) (fdZ t r)
def cvO(i n:Nat)(h:List (Nat×SV))(c:List Ob):Op->Option (List (Nat×SV)×List Ob)
 | .box t _=>match fdZ t nr.z with
  |some (off,e,k,b)=>(pY c [.jd e k]).bind λU=>reO i n (some (c.length-1,off,c.length,k,b)) (Ml 0 (c.length+1)) h U
  |none=>some (h,c)
 |_=>some (h,c)
def flA(l:List Oper)(c:Array Bool)(L:List (Nat×Nat))(n:Nat)(e:List (Nat×SV))(h:List Ob)(i:Nat):Option (List (Nat×SV)×List (Nat×Nat)):=(jo i l).bind λo=>o.dst.bind λd=>re (Nat.blt d n) (re (cond (Nat.beq l.length nr.len) (!uw nr.ix i) true) (re (Region.free .any l.toArray c i) (match SU l e o with
 |some true=>(fXO P GL e h o.op).bind λ(s,b)=>(Ea i b L).bind λL2=>some ((d,s)::e,L2)
 |some false=>some ((d,.d (.v undef))::e,L)
 |none=>none)))
def fsA(l:List Oper)(c:Array Bool)(L:List (Nat×Nat))(n:Nat)(e:List (Nat×SV))(h:List Ob):List Nat->Option (Nat×List (Nat×SV)×List (Nat×Nat))
 |[]=>none
 |i::r=>match flA P GL nr l c L n e h i with
  |some (sl',L2)=>some (i,sl',L2)
  |none=>fsA l c L n e h r
def stZ(c:Nat->Code->Nat->List (Nat×SV)->List Ob->Rs)(l:List Oper)(L:List (Nat×Nat))(n:Nat)(e:List (Nat×SV))(h:List Ob)(i:Nat):Option (List (Nat×SV)×List Ob×List (Nat×Nat)):=(jo i l).bind λo=>match SU l e o with
 |some true=>(opX P GL nr c n e h o.op o.dst).bind λ(ix,sl',ob')=>(uh l i L).bind λL2=>re (Gm (uw ix) L2 h) (some (sl',ob',L2))
 |_=>none
def ev:Nat->Nat->Tk->Nat->List (Nat×SV)->List Ob->Rs
 |0,_,_,_,_,_=>none
 |N+1,n0,.c c,n,sl,ob=>match c with
  | .seq a b=>match ev N n0 (.c a) n sl ob with
   |some (.normal,sl',ob')=>ev N n0 (.c b) n sl' ob'
   |r=>r
  | .region _ ⟨l⟩ false=>ev N n0 (.o l l) n sl ob
  | .region _ ⟨l⟩ true=>re (Region.noSelect l.toArray) (ev N n0 (.a l l.length (Array.replicate l.length false) []) n sl ob)
  | .skip=>some (.normal,sl,ob)
  | .ret=>some (.ret,sl,ob)
  | .exit id=>some (.exit id,sl,ob)
  | .block id c=>match ev N n0 (.c c) n sl ob with
   |some (.exit j,sl',ob')=>some (cond (Nat.beq j id) .normal (.exit j),sl',ob')
   |r=>r
  | .cond x a b=>match jb GL sl x with
   |some (.d (.v (.bool true)))=>ev N n0 (.c a) n sl ob
   |some (.d (.v (.bool false)))=>ev N n0 (.c b) n sl ob
   |_=>none
  | .loop c=>ev N n0 (.l c) n sl ob
  |_=>none
 |N+1,n0,.l c,n,sl,ob=>match ev N n0 (.c c) n sl ob with
  |some (.normal,sl',ob')=>ev N n0 (.l c) n sl' ob'
  |r=>r
 |N+1,n0,.o ops l,n,sl,ob=>match l with
  |[]=>some (.normal,sl,ob)
  |o::r=>match SU ops sl o with
   |some true=>match opX P GL nr (λm c n sl ob=>ev N m (.c c) n sl ob) n sl ob o.op o.dst with
    |some (_,e,h)=>match cvO nr n0 n e h o.op with
     |some (k,U)=>ev N n0 (.o ops r) n k U
     |none=>none
    |none=>none
   |some false=>match o.dst with
    |some d=>re (Nat.blt d n) (ev N n0 (.o ops r) n ((d,.d (.v undef))::sl) ob)
    |none=>none
   |none=>none
 |N+1,n0,.a l fuel listed L,n,sl,ob=>match Region.ready .any l.toArray listed with
  |[]=>some (.normal,sl,ob)
  |i::q=>match fuel with
   |0=>none
   |fuel+1=>match fsA P GL nr l listed L n sl ob (i::q) with
    |some (j,sl',L2)=>ev N n0 (.a l fuel (listed.setIfInBounds j true) L2) n sl' ob
    |none=>ev N n0 (.m l fuel listed L (i::q)) n sl ob
 |N+1,n0,.m l fuel listed L q,n,sl,ob=>match q with
  |[]=>none
  |i::r=>match stZ P GL nr (λm c n sl ob=>ev N m (.c c) n sl ob) l L n sl ob i with
   |some (e,h,L2)=>match ev N n0 (.a l fuel (listed.setIfInBounds i true) L2) n e h with
    |some (.normal,k,U)=>match r with
     |[]=>some (.normal,k,U)
     |_::_=>match ev N n0 (.m l fuel listed L r) n sl ob with
      |some (.normal,s,y)=>re (ZB k s (Ml 0 n)) (re (OH U y) (some (.normal,M8 k (Ml 0 n),U)))
      |_=>none
    |_=>none
   |none=>none
end
def okT(P:Program)(e:Nat->List D)(h:Nat)(j:jO)(N:Nat)(Q:Ex->St->Prop)(σ:St):Tk->Prop
 | .c c=>iK P e h j c Q σ
 | .l c=> ∀B:Bs,B.n0=h->∀a w,Rel e B σ a w->Code.rounds P c (ye e B j Q) N a w
 | .o ops l=>iL P e h j ops l Q σ
 | .a l fuel listed L=>Region.noSelect l.toArray=true->iW P e h j l fuel listed L Q σ
 | .m l fuel listed L b=>Region.noSelect l.toArray=true->∀i∈b,jH P e h j l fuel listed L Q σ i
section
variable {P:Program} [T:nZ P] {GL:Nat->List D} {nr:Hint}
theorem Q6:∀{m k i:Nat},i<m->jo i (Ml k m)=some (k+i)
 |0,k,i,h=>O
 |m+1,k,0,h=>rfl
 |m+1,k,i+1,h=>by
  show jo i (Ml (k+1) m)=_;rw[Q6 O];congr 1;omega
theorem aax(h:cvO nr z n C F G=some (c,r))(H:B.n0=z)(s:Rel GL B ⟨n,C,F⟩ a w):Rel GL B ⟨n,c,r⟩ a w:=by
 unfold cvO at h;split at h
 .rename_i t x;split at h
  .rename_i off e k b _;obtain⟨I,U,h⟩:=ai.1 h;have e:=nM U;subst e;obtain⟨g,s⟩:=s;obtain⟨y,_⟩:=s.Eh (w':=w) (Fr.refl _ w) (pV.refl _) (λb o x U y=>by rw[y] at U;cases U) (o':=.jd e k) (pl:=.row none 0 0) rfl (λb J=>by simp[jP,np] at J) (λi f R M e=>by cases e);refine(ZM (λj off q k b e=>?_) h).rel H ⟨_,y⟩;cases e;exact⟨by rw[Q6 O,bU],_,FH⟩
  .cases h;exact s
 .cases h;exact s
theorem VG{l:List Oper}{c:Array Bool}{L q:List (Nat×Nat)}{n j:Nat}{s e:List (Nat×SV)}{x:List Ob}:∀{k:List Nat},fsA P GL nr l c L n s x k=some (j,e,q)->j∈k/\flA P GL nr l c L n s x j=some (e,q)
 |[],h=>by cases h
 |i::r,h=>by
  unfold fsA at h;split at h
  .rename_i b;cases h;exact⟨bC,b⟩
  .obtain ⟨b,U⟩:=VG h;exact⟨bB _ b,U⟩
theorem aad(H:Region.noSelect l.toArray=true)(I:i∈Region.ready .any l.toArray c)(h:flA P GL nr l c L n C r i=some (q,z))(j:iW P GL x y l e (c.setIfInBounds i true) z Q ⟨n,q,r⟩):iW P GL x y l (e+1) c L Q ⟨n,C,r⟩:=by
 obtain⟨o,k,h⟩:=ai.1 h;obtain⟨d,U,h⟩:=ai.1 h;obtain⟨F,h⟩:=jg h;obtain⟨_,h⟩:=jg h;obtain⟨J,h⟩:=jg h;have G:((Region.ready .any l.toArray c).contains i&&Region.free .any l.toArray c i&&Region.noSelect l.toArray)=true:=by
  simp only[bY];exact⟨⟨by simpa using I,J⟩,H⟩
 split at h
 .rename_i b;obtain⟨⟨s,S⟩,M,h⟩:=ai.1 h;obtain⟨V,R,h⟩:=ai.1 h;cases h;exact zU i (iS k) (λB g a w j=>Mv j b) U F G rfl (VV M ⟨_,R,j⟩)
 .rename_i b;cases h;exact Jc i (iS k) (λB g a w j=>Mv j b) U F G j
 .cases h
theorem Uh(G:zk P GL nr.kn)(H:Nt P GL j)(h:stZ P GL nr j l L n C F i=some (q,r,z))(s:iW P GL x y l e (c.setIfInBounds i true) z Q ⟨n,q,r⟩):jH P GL x y l e c L Q ⟨n,C,F⟩ i:=by
 obtain⟨o,b,h⟩:=ai.1 h;split at h
 .rename_i k;obtain⟨⟨ix,U,I⟩,J,h⟩:=ai.1 h;obtain⟨S,M,h⟩:=ai.1 h;obtain⟨R,h⟩:=jg h;cases h;exact Cb i (iS b) (λB g a w s=>Mv s k) rfl M (DT R) (UU G H J s)
 .cases h
theorem Nv.of{p:Nat->Prop}:∀{l:List Nat},(∀ i∈l,p i)->Nv p l
 |[],_=>trivial
 |i::r,h=>⟨h i bC,Nv.of λj b=>h j (bB _ b)⟩
theorem Y5(M:zk P GL nr.kn)(hm:P.follows .mixedOrders=true):∀{N n0:Nat} {Pn:jO} {tk:Tk} {n:Nat} {sl sl':List (Nat×SV)} {ob ob':List Ob} {e:Ex},ev P GL nr N n0 tk n sl ob=some (e,sl',ob')->∀Q,(∀ τ,Le GL τ ⟨n,sl',ob'⟩->Q e τ)->okT P GL n0 Pn N Q ⟨n,sl,ob⟩ tk:=by
 intro N
 induction N with
 |zero=>intro n0 Pn tk n sl sl' ob ob' e h;cases h
 |succ N y=>
  have H:Nt P GL (λm c n sl ob=>ev P GL nr N m (.c c) n sl ob):=λn0 Pn c n sl ob e sl' ob' h=>y (tk:=.c c) h
  intro n0 Pn tk n sl sl' ob ob' e h Q q;cases tk with
  |c c=>
   show iK P GL n0 Pn c Q _;cases c<;>simp only[ev,reduceCtorEq] at h
   case seq a b=>
    split at h
    .rename_i F G s;exact wJ (y (tk:=.c a) s _ λτ U=>iK.le U (y (tk:=.c b) h Q q))
    .rename_i s;refine wJ (y (tk:=.c a) h _ λτ U=>?_);cases e with
     |normal=>exact absurd h (s _ _)
     |exit id=>exact q τ U
     |goto l=>exact q τ U
     |ret=>exact q τ U
   case region id l dr=>
    obtain⟨l⟩:=l;cases dr with
    |false=>exact ue (y (tk:=.o l l) h Q q)
    |true=>
     obtain⟨s,h⟩:=jg h;exact I8 hm rfl rfl (y (tk:=.a ..) h Q q s)
   case skip=>cases h;exact HS (q _ Le.Uv)
   case ret=>cases h;exact yH (q _ Le.Uv)
   case exit id=>cases h;exact HW (q _ Le.Uv)
   case block id c=>
    split at h
    .rename_i j F G s;cases h;refine vc (y (tk:=.c c) s _ λτ U=>?_);show if j=id then Q .normal τ else Q (.exit j) τ
     have:=q τ U;cases V:Nat.beq j id<;>rw[V] at this
     .rw [if_neg (Nat.ne_of_beq_eq_false V)];exact this
     .rw [if_pos (cU V)];exact this
    .rename_i s;refine vc (y (tk:=.c c) h _ λτ U=>?_);cases e with
     |normal=>exact q τ U
     |exit id=>exact absurd h (s _ _ _)
     |goto l=>exact q τ U
     |ret=>exact q τ U
   case cond x a b=>
    split at h
    .rename_i W;exact tu W (λ_=>y (tk:=.c a) h Q q) (λe=>by cases e)
    .rename_i W;exact tu W (λe=>by cases e) (λ_=>y (tk:=.c b) h Q q)
    .cases h
   case loop c=>exact λB J a w I=>wp_loop_rounds N (y (tk:=.l c) h Q q B J a w I)
  |l c=>
   intro B J a w I;rw[rounds_succ];simp only[ev] at h;split at h
   .rename_i F G s;have hk:=y (Pn:=Pn) (tk:=.l c) h Q q;refine wp_mono (Bp (Q:=λe σ=>e=.normal/\σ=⟨n,F,G⟩) (y (Pn:=Pn) (tk:=.c c) s _ λτ U=>⟨rfl,U⟩) ⟨rfl,rfl⟩ B J a w I) λS a' w' U=>?_
    cases S with
    |normal=>obtain⟨τ,C,_,rfl⟩:=U;exact hk B J a' w' C
    |exit id=>obtain⟨τ,C,z,_⟩:=U;cases z
    |goto l=>obtain⟨τ,C,z,_⟩:=U;cases z
    |ret=>
     rcases U with U|⟨τ,C,z,_⟩
     .exact .inl U
     .cases z
    |panic c=>exact U
    |outgrown=>exact U
   .rename_i s;refine wp_mono (y (Pn:=Pn) (tk:=.c c) h (λS τ=>S≠ .normal/\Q S τ) (λτ U=>⟨λe0=>by subst e0;exact s _ _ h,q τ U⟩) B J a w I) λS a' w' U=>?_
    cases S with
    |normal=>obtain⟨τ,C,z,_⟩:=U;exact absurd rfl z
    |exit id=>obtain⟨τ,C,_,z⟩:=U;exact⟨τ,C,z⟩
    |goto l=>obtain⟨τ,C,_,z⟩:=U;exact⟨τ,C,z⟩
    |ret=>
     rcases U with U|⟨τ,C,_,z⟩
     .exact .inl U
     .exact .inr ⟨τ,C,z⟩
    |panic c=>exact U
    |outgrown=>exact U
  |o ops l=>
   show iL P GL n0 Pn ops l Q _;unfold ev at h;split at h
   .cases h;exact BB (q _ Le.Uv)
   .rename_i o r;split at h
    .rename_i Y;split at h
     .rename_i ix F G s;split at h
      .rename_i sl2 ob2 C;have z:iL P GL n0 Pn ops r Q ⟨n,F,G⟩:=λB J a w I=>y (tk:=.o ops r) h Q q B J a w (aax C J I)
       exact EI Y (wT rfl (UU (o:={ o with guard:=none }) M H s z))
      .cases h
     .cases h
    .rename_i Y;split at h
     .rename_i d hd;obtain⟨s,h⟩:=jg h;exact VF Y hd s (y (tk:=.o ops r) h Q q)
     .cases h
    .cases h
  |a l fuel listed L=>
   intro R;unfold ev at h;split at h
   .rename_i I;cases h;exact RL I (q _ Le.Uv)
   .rename_i i is I;split at h
    .cases h
    .rename_i fuel;split at h
     .rename_i j F L2 s;obtain⟨C,z⟩:=VG s;exact aad R (by rw[I];exact C) z (y (tk:=.a ..) h Q q R)
     .exact ki I rfl (Nv.of (y (tk:=.m ..) h Q q R))
  |m l fuel listed L is=>
   intro R;unfold ev at h;split at h
   .cases h
   .rename_i i r;split at h
    .rename_i F G L2 s;split at h
     .rename_i sl2 ob2 C;split at h
      .cases h;intro k hk;obtain rfl:k=i:=by simpa using hk
       exact Uh M H s (y (tk:=.a ..) C Q q R)
      .rename_i r0 rs;split at h
       .rename_i sl3 ob3 z;obtain⟨h4,h⟩:=jg h;obtain⟨h5,h⟩:=jg h;cases h;intro k hk;rcases bh.1 hk with rfl|hk
        .exact Uh M H s (y (tk:=.a ..) C Q (λτ U=>q τ (U.trans (RC λt _=>rfl))) R)
        .refine y (tk:=.m ..) z Q (λτ U=>q τ (U.trans ?_)) R k hk;rw[Xx h5];exact RC (QH h4)
       .cases h
     .cases h
    .cases h
variable (P:Program) [T:nZ P] (GL:Nat->List D) (nr:Hint) (N:Nat) (ρ:List Nat) (s0:SV) (ob0:List Ob)
def X2(e:List ResultVar)(m:Nat)(h:List (Nat×SV))(c:List Ob):Bool:=match Eg P h c e with
 |some l=>match SV.j5 ρ s0 with
  |some t=>cond (XK (ve l) t) (cond (pre 0 m ρ) (cond (me ρ) (cond (nF ob0) (Su ρ c ob0 ρ) false) false) false) false
  |none=>false
 |none=>false
def ZE(i:FuncId)(e:List SV)(h:List Ob):Bool:=match P.funcs[i]? with
 |some fn=>match fn.body with
  |some c=>cond (Nat.ble e.length fn.ntmps) (match ur 0 e with
   |some U=>match ev P GL nr N h.length (.c c) fn.ntmps U h with
    |some (.ret,b,k)=>X2 P ρ s0 ob0 fn.results.toList h.length b k
    |some (.normal,b,k)=>X2 P ρ s0 ob0 fn.results.toList h.length b k
    |_=>false
   |none=>false) false
  |none=>false
 |none=>false
variable {P:Program} [T:nZ P] {GL:Nat->List D} {nr:Hint} {N:Nat} {ρ:List Nat} {s0:SV} {ob0:List Ob}
theorem Rh(h:X2 P ρ s0 ob0 c m e i=true):Fin P GL m c (λout ob'=>out=.ret s0/\ob'=ob0) ⟨n,e,i⟩:=by
 unfold X2 at h;split at h
 .rename_i l b;split at h
  .rename_i t k;obtain⟨U,h⟩:=yi h;obtain⟨j,h⟩:=yi h;obtain⟨q,h⟩:=yi h;obtain⟨r,s⟩:=yi h;refine pe (vR b) ρ s0 ob0 j q r (JX s) k (Q2 U) ⟨rfl,rfl⟩
  .cases h
 .cases h
theorem QL(q:zk P GL nr.kn)(r:P.follows .mixedOrders=true)(h:ZE P GL nr N ρ s0 ob0 F e i=true):jT P GL F i e (λout ob'=>out=.ret s0/\ob'=ob0):=by
 unfold ZE at h;split at h
 .rename_i fn s;split at h
  .rename_i c x;obtain⟨y,h⟩:=yi h;split at h
   .rename_i z C;refine xy s x rfl rfl y C i.length rfl ?_;split at h
    .rename_i b k U;exact Bp (Y5 (tk:=.c c) q r U _ λτ j=>⟨rfl,j⟩) (Rh h)
    .rename_i b k U;exact Bp (Y5 (tk:=.c c) q r U _ λτ j=>⟨rfl,j⟩) (Rh h)
    .cases h
   .cases h
  .cases h
 .cases h
end
end Go.Vd
namespace Go.Proofs.YtndbnldjidciiaaGreatDoor
variable{ι ρ A C F G H I J K L M N R S T V W Y a c cty e es first g h i j k2 l m m' most n o ob' p q r rp s s0 sl t u us v w x y z}
open Go Go.Vd Go.RowKit
def nmN:fB:=⟨#[78,97,116]⟩
def nmT:fB:=⟨#[116,119,111]⟩
def nmA:fB:=⟨#[97,100,100]⟩
def kN:ie:=.mk 2 0 nmN [] []
def kZ:ie:=.mk 2 0 ⟨#[122,101,114,111]⟩ [] []
def kS:ie:=.mk 2 0 ⟨#[115,117,99,99]⟩ [] []
def D6(a c:ie):ie:=.mk 3 0 .empty [] [a,c]
def Z0(a c:ie):ie:=.mk 4 0 .empty [] [a,c]
def pT(a c:ie):ie:=.mk 5 0 .empty [] [a,c]
def vT(n:Int):ie:=.mk 0 n .empty [] []
def XG:iq:=.mk 1 .empty [.mk 0 .empty []]
def lvR:iq:=.mk 4 ⟨#[114]⟩ []
def kT:List ie:=[.mk 2 0 (nmN++CK) [XG] [],Z0 kN kN,vT 1,Z0 kN (Z0 kN (D6 kS (vT 0))),vT 0]
def Yn:mJ:=.mk 3 nmN [] (.mk 1 0 .empty [XG] []) iu 0 [(⟨#[122,101,114,111]⟩,kN),(⟨#[115,117,99,99]⟩,pT kN kN)]
def aaw:mJ:=.mk 2 nmT [] kN (D6 kS (D6 kS kZ)) 0 []
def Yo:mJ:=.mk 2 nmA [] (pT kN (pT kN kN)) (Z0 kN (Z0 kN (iF (kT.headD kN) kT.tail))) 0 []
def ZK(l:iq):ie:=pT (pT kN (.mk 1 0 .empty [l] [])) (pT (D6 (vT 0) kZ) (pT (pT kN (pT (D6 (vT 2) (vT 0)) (D6 (vT 3) (D6 kS (vT 1))))) (pT kN (D6 (vT 3) (vT 0)))))
def En:iI:=⟨Yn,[⟨#[114]⟩],ZK lvR⟩
def MN:iI:=⟨aaw,[],iu⟩
def Ye:iI:=⟨Yo,[],iu⟩
def Wf:fB:=⟨#[40,105,110,100,117,99,116,105,118,101,32,78,97,116,32,40,41,32,48,32,40,115,111,114,116,32,40,115,32,48,41,41,32,40,99,116,111,114,32,122,101,114,111,32,40,99,111,110,115,116,32,78,97,116,41,41,32,40,99,116,111,114,32,115,117,99,99,32,40,112,105,32,40,99,111,110,115,116,32,78,97,116,41,32,40,99,111,110,115,116,32,78,97,116,41,41,41,41,10,40,100,101,102,32,116,119,111,32,40,41,32,40,99,111,110,115,116,32,78,97,116,41,32,40,97,112,112,32,40,99,111,110,115,116,32,115,117,99,99,41,32,40,97,112,112,32,40,99,111,110,115,116,32,115,117,99,99,41,32,40,99,111,110,115,116,32,122,101,114,111,41,41,41,41,10,40,100,101,102,32,97,100,100,32,40,41,32,40,112,105,32,40,99,111,110,115,116,32,78,97,116,41,32,40,112,105,32,40,99,111,110,115,116,32,78,97,116,41,32,40,99,111,110,115,116,32,78,97,116,41,41,41,32,40,108,97,109,32,40,99,111,110,115,116,32,78,97,116,41,32,40,108,97,109,32,40,99,111,110,115,116,32,78,97,116,41,32,40,97,112,112,32,40,97,112,112,32,40,97,112,112,32,40,97,112,112,32,40,99,111,110,115,116,32,78,97,116,46,114,101,99,32,40,115,32,48,41,41,32,40,108,97,109,32,40,99,111,110,115,116,32,78,97,116,41,32,40,99,111,110,115,116,32,78,97,116,41,41,41,32,35,49,41,32,40,108,97,109,32,40,99,111,110,115,116,32,78,97,116,41,32,40,108,97,109,32,40,99,111,110,115,116,32,78,97,116,41,32,40,97,112,112,32,40,99,111,110,115,116,32,115,117,99,99,41,32,35,48,41,41,41,41,32,35,48,41,41,41,41,10]⟩
theorem We:pL Wf=([Yn,aaw,Yo],0,0):=gN
noncomputable def okE (c:Nat->List D) (K:List KE) (e:KE):Bool:=ZE fC c ⟨[(232,16,39,5,true),(47,0,63,21,false)],24,[8,17],K⟩ 3000 (Ml 0 e.o.length) (.d e.d) e.o2 e.f e.a e.o
theorem YF(i:zk fC c K)(h:okE c K e=true):zk fC c (e::K):=λx hx=>by
 rcases bh.1 hx with rfl|hx
 .exact QL i mixed h
 .exact i x hx
def kR:KE:=⟨167,[.d Yn.d,int 0,.d lvR.d],[],(ZK lvR).d,[]⟩
def Qg(c:List iI)(e:iI):KE:=⟨120,[.jk 0 0,.d e.d.d,int 3000],[iD c false,iC],.v (.int .i64 0),[iD (c++[e]) false,iC]⟩
def Vv(c:Nat)(u:ie):KE:=⟨36,[.jk 0 0,.d (.sl 1 []),.d (.sl 5 (im [kN,kN])),.d (iF (kT.headD kN) (kT.tail.take c)).d,int 3000],[iD [En,MN] false,iC],.jj [u.d,.v (.int .i64 0)],[iD [En,MN] false,iC]⟩
def mM:ie:=Z0 kN kN
def ty4:ie:=D6 mM (vT 0)
def ty3:ie:=pT kN ty4
def ty2:ie:=pT (pT kN (pT ty4 (D6 mM (D6 kS (vT 1))))) ty3
theorem kn1:zk fC c [kR]:=YF nofun gN
theorem kn2:zk fC c [Qg [] En,kR]:=YF kn1 gN
theorem kn3:zk fC c [Qg [En] MN,Qg [] En,kR]:=YF kn2 gN
def kI:List KE:=[Vv 4 ty4,Vv 3 ty3,Vv 2 ty2,Vv 1 (pT (D6 mM kZ) ty2),Vv 0 (ZK XG)]
theorem kn4:zk fC c (kI.drop 4):=YF nofun gN
theorem kn5:zk fC c (kI.drop 3):=YF kn4 gN
theorem kn6:zk fC c (kI.drop 2):=YF kn5 gN
theorem kn7:zk fC c (kI.drop 1):=YF kn6 gN
theorem kn8:zk fC c kI:=YF kn7 gN
theorem kn9:zk fC c (Qg [En,MN] Ye::kI):=YF kn8 gN
def AQ:List iI:=[En,MN,Ye]
theorem Py:jT fC c 79 [] [.d (.sl 15 (ui [Yn,aaw,Yo])),int 3000] (KJ λes w=>es=AQ/\w=false):=by
 refine(QL (nr:=⟨[(232,16,39,5,true),(47,0,63,21,false)],24,[8,17],Qg [En,MN] Ye::[Qg [En] MN,Qg [] En,kR]⟩) (N:=3000) (ρ:=[1,2]) (s0:=.jj [.jk 0 0,int 3,.agg [int 0,int 0]]) (ob0:=[iD AQ false,iC]) (λe he=>?_) mixed gN).mono λo b h=>?_
 .rcases bh.1 he with rfl|he
  .exact kn9 _ bC
  .exact kn3 _ he
 .exact ⟨AQ,false,3,0,0,h.1,h.2,rfl,rfl⟩
def Nx(c:List iI)(t x v:ie):Prop:=
 (∃ A b a r,(ig t).1=.mk 4 0 .empty [] [A,b]/\(ig t).2=a::r/\x=iF (jJ b a) r/\v=jJ b a)\/
 (∃ A w b,(ig t).1=.mk 6 0 .empty [] [A,w,b]/\x=iF (jJ b w) (ig t).2/\v=jJ b w)\/
 ∃s us e j,(ig t).1=.mk 2 0 s us []/\iw s c=(2,e,j)/\e.d.ps.length=us.length/\x=iF (ld e.d.ps us e.d.vl) (ig t).2/\v=ld e.d.ps us e.d.vl
def Rx(h:List iI)(t:ie)(s:fB)(c:List iq)(e:iI):Prop:=(ig t).1=.mk 2 0 s c []/\(∃ j,iw s h=(5,e,j))/\e.rp.length=c.length
theorem rH:RW q c (n+1) t C o↔(∃ x v,Nx q t x v/\Bh c C (RW q c n) x v o)\/(∃ s us e io,Rx q t s us e/\RI q c (RW q c n) e (.mk 2 0 s us []) (ig t).2 C io/\Tb (RW q c n) t o io)\/(wk q (ig t).1 (ig t).2/\o=.ok t C):=by
 constructor
 .rintro (⟨A,b,a,r,k,i,U⟩|⟨A,w,b,k,U⟩|⟨s,us,e,j,k,i,y,U⟩|⟨s,us,e,j,io,k,i,U,y,z⟩|h)
  .exact .inl ⟨_,_,.inl ⟨A,b,a,r,k,i,rfl,rfl⟩,U⟩
  .exact .inl ⟨_,_,.inr (.inl ⟨A,w,b,k,rfl,rfl⟩),U⟩
  .exact .inl ⟨_,_,.inr (.inr ⟨s,us,e,j,k,i,y,rfl,rfl⟩),U⟩
  .exact .inr (.inl ⟨s,us,e,io,⟨k,⟨j,i⟩,U⟩,y,z⟩)
  .exact .inr (.inr h)
 .rintro (⟨x,v,h|h|h,U⟩|⟨s,us,e,io,⟨k,⟨j,i⟩,U⟩,y,z⟩|h)
  .obtain ⟨A,b,a,r,k,i,rfl,rfl⟩:=h;exact .inl ⟨A,b,a,r,k,i,U⟩
  .obtain ⟨A,w,b,k,rfl,rfl⟩:=h;exact .inr (.inl ⟨A,w,b,k,U⟩)
  .obtain ⟨s,us,e,j,k,i,y,rfl,rfl⟩:=h;exact .inr (.inr (.inl ⟨s,us,e,j,k,i,y,U⟩))
  .exact .inr (.inr (.inr (.inl ⟨s,us,e,j,io,k,i,U,y,z⟩)))
  .exact .inr (.inr (.inr (.inr h)))
theorem Nx.one(h:Nx i t x v)(S:Nx i t y w):x=y/\v=w:=by
 rcases h with⟨A,b,a,r,U,c,rfl,rfl⟩|⟨A,b,a,U,rfl,rfl⟩|⟨s,us,e,j,U,c,G,rfl,rfl⟩<;>rcases S with⟨q,z,C,H,k1,k2,rfl,rfl⟩|⟨q,z,C,k1,rfl,rfl⟩|⟨I,F,J,M,k1,k2,R,rfl,rfl⟩<;>rw[U] at k1<;>cases k1
 .rw [c] at k2;cases k2;exact⟨rfl,rfl⟩
 .exact ⟨rfl,rfl⟩
 .rw [c] at k2;cases k2;exact⟨rfl,rfl⟩
theorem Rx.one(h:Rx i t s q e)(x:Rx i t j c r):s=j/\q=c/\e=r:=by
 obtain⟨b,⟨_,U⟩,_⟩:=h;obtain⟨k1,⟨_,k2⟩,_⟩:=x;rw[b] at k1;cases k1;rw[U] at k2;cases k2;exact⟨rfl,rfl,rfl⟩
theorem Nx.no(h:Nx i t x v):(∀ s us e,¬Rx i t s us e)/\¬wk i (ig t).1 (ig t).2:=by
 rcases h with⟨A,b,a,r,U,c,_,_⟩|⟨A,b,a,U,_,_⟩|⟨s,us,e,j,U,c,q,_,_⟩
 .exact ⟨λs us e k=>(by rw[k.1] at U;cases U),λk=>k.1 ⟨by rw[U];rfl,by rw[c];simp⟩⟩
 .exact ⟨λs us e k=>(by rw[k.1] at U;cases U),λk=>k.2.1 (by rw[U];rfl)⟩
 .refine ⟨λz y C k=>?_,λk=>(k.2.2 s us U).1 ⟨by rw[c],by rw[c];exact q⟩⟩;obtain⟨k1,⟨_,k2⟩,_⟩:=k;rw[U] at k1;cases k1;rw[c] at k2;cases k2
theorem Rx.no(h:Rx c t s i e):¬wk c (ig t).1 (ig t).2:=λk=>by
 obtain⟨U,⟨_,b⟩,j⟩:=h;exact(k.2.2 s i U).2 ⟨by rw[b],by rw[b];exact j⟩
theorem qQ.one(a:qQ r e h x i j z)(b:qQ r e h x y c q):i=y/\j=c/\z=q:=by
 obtain⟨s,G,nm,rfl,a2,_,U,_⟩:=a;obtain⟨H,C,F,b1,b2,_,k,_⟩:=b;cases b1;rw[a2] at b2;cases b2;rw[U] at k;cases k;exact⟨rfl,rfl,rfl⟩
theorem WB:∀(n:Nat) {t u:ie} {d d1:Nat},RW r most n t d (.ok u d1)->d<=d1/\∀d0 b,d0<=b->(d0+(d1-d)<=b->RW r b n t d0 (.ok u (d0+(d1-d))))/\(b<d0+(d1-d)->RW r b n t d0 .ja):=by
 intro n
 induction n with
 |zero=>intro t u d d1 h;exact h.elim
 |succ n H=>
  intro t u d d1 h;rw[rH] at h;rcases h with⟨x,v,k,⟨_,y⟩|⟨y,U,c⟩⟩|⟨s,us,e,io,k,y,U⟩|⟨k,y⟩
  .cases y
  .obtain ⟨M,z⟩:=H c;refine⟨O,λd0 b hd=>?_⟩;by_cases R:d0=b
   .exact ⟨λ_=>O,λ_=>rH.2 (.inl ⟨x,v,k,.inl ⟨O,rfl⟩⟩)⟩
   .obtain ⟨S,V⟩:=z (d0+1) b O;rw[show d0+1+(d1-(d+1))=d0+(d1-d) by omega] at S V;exact⟨λh=>rH.2 (.inl ⟨x,v,k,.inr ⟨O,U,S h⟩⟩),λh=>rH.2 (.inl ⟨x,v,k,.inr ⟨O,U,V h⟩⟩)⟩
  .rcases y with⟨c,rfl⟩|⟨x,c,⟨_,rfl⟩|⟨F,d2,h5,h6⟩⟩
   .cases U;exact⟨ae _,λd0 b hd=>⟨λ_=>rH.2 (.inr (.inl ⟨s,us,e,.stuck d0,k,.inl ⟨c,rfl⟩,by rw[bL];rfl⟩)),λ_=>O⟩⟩
   .cases U
   .obtain ⟨M,z⟩:=H h5;have C:∀d0 b,d0<=b->b<d0+(d2-d)->RW r b (n+1) t d0 .ja:=λd0 b hd h=>rH.2 (.inr (.inl ⟨s,us,e,.ja,k,.inr ⟨x,c,.inl ⟨(z d0 b hd).2 h,rfl⟩⟩,rfl⟩))
    rcases h6 with⟨G,rfl⟩|⟨i,j,q,G,⟨_,rfl⟩|⟨h8,h9,I,rfl⟩⟩
    .cases U;exact⟨M,λd0 b hd=>⟨λh=>rH.2 (.inr (.inl ⟨s,us,e,_,k,.inr ⟨x,c,.inr ⟨F,_,(z d0 b hd).1 h,.inl ⟨G,rfl⟩⟩⟩,rfl⟩)),C d0 b hd⟩⟩
    .cases U
    .obtain ⟨k1,k2⟩:=H U;refine⟨O,λd0 b hd=>?_⟩;by_cases R:b<d0+(d2-d)
     .exact ⟨λ_=>O,λ_=>C d0 b hd R⟩
     .have W:=(z d0 b hd).1 O;by_cases J:b<=d0+(d2-d)
      .exact ⟨λ_=>O,λ_=>rH.2 (.inr (.inl ⟨s,us,e,.ja,k,.inr ⟨x,c,.inr ⟨F,_,W,.inr ⟨i,j,q,G,.inl ⟨J,rfl⟩⟩⟩⟩,rfl⟩))⟩
      .obtain ⟨Y,k4⟩:=k2 (d0+(d2-d)+1) b O;rw[show d0+(d2-d)+1+(d1-(d2+1))=d0+(d1-d) by omega] at Y k4;have st:∀o,RW r b n (rb e (.mk 2 0 s us []) (ig t).2 (ig F).2 i j q) (d0+(d2-d)+1) o->RW r b (n+1) t d0 o:=λo h=>rH.2 (.inr (.inl ⟨s,us,e,_,k,.inr ⟨x,c,.inr ⟨F,_,W,.inr ⟨i,j,q,G,.inr ⟨O,h9,I,rfl⟩⟩⟩⟩,h⟩))
       exact⟨λh=>st _ (Y h),λh=>st _ (k4 h)⟩
  .cases y;exact⟨ae _,λd0 b hd=>⟨λ_=>rH.2 (.inr (.inr ⟨k,by rw[bL];rfl⟩)),λ_=>O⟩⟩
theorem Wy:∀(n:Nat) {t u:ie} {d d1:Nat},RW R r n t d (.ok u d1)->∀{S m:Nat} {V:Nat} {v:ie} {d2:Nat},RW R S m t V (.ok v d2)->u=v:=by
 intro n
 induction n with
 |zero=>intro t u d d1 h;exact h.elim
 |succ n J=>
  intro t u d d1 h S m V v d2 k;cases m with
  |zero=>exact k.elim
  |succ m=>
  rw[rH] at h k;rcases h with⟨x,w,b,⟨_,c⟩|⟨c,j,z⟩⟩|⟨s,us,e,io,b,c,j⟩|⟨b,c⟩
  .cases c
  .rcases k with⟨y,W,k1,⟨_,k2⟩|⟨k2,q,U⟩⟩|⟨Y,C,e',F,k1,_⟩|⟨k1,_⟩
   .cases k2
   .obtain ⟨rfl,rfl⟩:=b.one k1;exact J z U
   .exact absurd k1 (b.no.1 _ _ _)
   .exact absurd k1 b.no.2
  .rcases k with⟨y,W,k1,_⟩|⟨Y,C,e',F,k1,k2,q⟩|⟨k1,_⟩
   .exact absurd b (k1.no.1 _ _ _)
   .obtain ⟨rfl,rfl,rfl⟩:=b.one k1;rcases c with⟨z,rfl⟩|⟨x,z,⟨_,rfl⟩|⟨mj,e2,h5,h6⟩⟩
    .cases j;rcases k2 with⟨_,rfl⟩|⟨y,U,_⟩
     .cases q;rfl
     .have:=(aJ.1 U).1;omega
    .cases j
    .rcases k2 with⟨U,_⟩|⟨y,U,⟨_,rfl⟩|⟨mk,e3,k5,k6⟩⟩
     .have:=(aJ.1 z).1;omega
     .cases q
     .rw [z] at U;cases U;obtain rfl:=J h5 k5;rcases h6 with⟨I,rfl⟩|⟨i,cty,us2,I,⟨_,rfl⟩|⟨_,_,_,rfl⟩⟩
      .cases j;rcases k6 with⟨_,rfl⟩|⟨i',G,M,H,_⟩
       .cases q;rfl
       .exact absurd H (I _ _ _)
      .cases j
      .rcases k6 with⟨H,_⟩|⟨i',G,M,H,⟨_,rfl⟩|⟨_,_,_,rfl⟩⟩
       .exact absurd I (H _ _ _)
       .cases q
       .obtain ⟨rfl,rfl,rfl⟩:=I.one H;exact J j q
   .exact absurd k1 b.no
  .rcases k with⟨y,W,k1,_⟩|⟨Y,C,e',F,k1,_⟩|⟨_,k2⟩
   .exact absurd b k1.no.2
   .exact absurd b k1.no
   .cases c;cases k2;rfl
def Fz(c:List iI)(t:ie)(j:Nat):Prop:=
 (wk c (ig t).1 (ig t).2/\j=0)\/∃s us e,Rx c t s us e/\(((ig t).2.length<=ym e/\j=0)\/∃x b,(ig t).2[ym e]? =some x/\(∃ n,∀d0 h,d0+j<=h->RW c h n x d0 (.ok b (d0+j)))/\∀i U us,¬qQ c e (ig b).1 (ig b).2 i U us)
theorem Fz.rw{k:Nat}(h:Fz es t k):∃n,∀d0 m',d0+k<=m'->RW es m' n t d0 (.ok t (d0+k)):=by
 rcases h with⟨h1,rfl⟩|⟨s,us,e,h1,⟨h2,rfl⟩|⟨x,b,h2,⟨n,U⟩,c⟩⟩
 .exact ⟨1,λd0 m' _=>rH.2 (.inr (.inr ⟨h1,rfl⟩))⟩
 .exact ⟨1,λd0 m' _=>rH.2 (.inr (.inl ⟨s,us,e,.stuck d0,h1,.inl ⟨h2,rfl⟩,rfl⟩))⟩
 .exact ⟨n+1,λd0 m' h=>rH.2 (.inr (.inl ⟨s,us,e,_,h1,.inr ⟨x,h2,.inr ⟨b,_,U d0 m' h,.inl ⟨c,rfl⟩⟩⟩,rfl⟩))⟩
theorem Wz:∀(n:Nat) {t u:ie} {d d1:Nat},RW r most n t d (.ok u d1)->∃k,d+k<=d1/\Fz r u k:=by
 intro n
 induction n with
 |zero=>intro t u d d1 h;exact h.elim
 |succ n y=>
  intro t u d d1 h;rw[rH] at h;rcases h with⟨x,v,c,⟨_,b⟩|⟨b,U,j⟩⟩|⟨s,us,e,io,c,b,U⟩|⟨c,b⟩
  .cases b
  .obtain ⟨k,C,q⟩:=y j;exact⟨k,O,q⟩
  .rcases b with⟨j,rfl⟩|⟨x,j,⟨_,rfl⟩|⟨F,d2,G,H⟩⟩
   .cases U;exact⟨0,ae _,.inr ⟨s,us,e,c,.inl ⟨j,rfl⟩⟩⟩
   .cases U
   .obtain ⟨C,q⟩:=WB _ G;rcases H with⟨z,rfl⟩|⟨i,I,J,z,⟨_,rfl⟩|⟨S,V,M,rfl⟩⟩
    .cases U;exact⟨d1-d,O,.inr ⟨s,us,e,c,.inr ⟨x,F,j,⟨n,λd0 R h=>(q d0 R O).1 h⟩,z⟩⟩⟩
    .cases U
    .obtain ⟨k,k1,k2⟩:=y U;exact⟨k,O,k2⟩
  .cases b;exact⟨0,ae _,.inl ⟨c,rfl⟩⟩
section
attribute [local irreducible] iK iL jI ik iW jH
theorem C0(n e c:Int)(R g:jR)(L:List fB)(I:0<=n/\n<=1125899906842624)(C:0<=e/\e<=1125899906842624)(J:0<=c/\c<=1)(F:∀p m,g p=some m->0<=m/\m<=1125899906842624)(y:∀p m,g p=some m->p∈L):
 jT fC z 169 [.cells [fE n,.map 1] 216,.jc R,.jc g] [.jk 0 0,.agg [fE e,.map 2],fE c] λout ob'=>out=.ret (.d (.jj []))/\ob'=[.cells [fE (max n (e+c)),.map 1] 216,.jc (qO R g c),.jc g]:=by
 refine nR Tryz.func169 56 3 ?_;refine ma 6 [0,1,2,3,4,5,6,7] mixed ?_;refine A1 8 rfl (Mm ⟨_,rfl,?_⟩);refine A1 9 rfl (Y4 ⟨_,rfl,?_⟩);refine ga [10,11] ?_;refine nO 12 ?_;refine iB<|rF 5 ?_;refine oc (T:=λ_=>False) (FA vV rfl rfl rfl rfl rfl (by simp only[aj,aH,Nat.reduceAdd];rfl) rfl ?_);refine pt 3 (ι:=List (fB×Int)) (λk=>[]) (λk=>[.cells [fE (max n (e+c)),.map 1] 216,.jc (yg R c k),.jc g,.cells [fE e,.map 2] 216,.ru 2 g k none]) [24,0,2] (λk=>(k.map Prod.fst).Nodup/\∀p∈k,g p.1=some p.2) (λk=>L.length-k.length) ([]) ([0,1,2,3,4]) ?I3 ?H3 (hM:= ?M3)
 case I3=>
  exact⟨by simp,by simp⟩
 case M3=>
  refine mei ?_ (iU (iU (iU rA))) (by repeat (first|exact trivial|refine And.intro rfl ?_))
  repeat (first|exact nw|refine jN ?_|refine uC ?_|refine boi ?_)
 case H3=>
  rintro k b
  try dsimp only at b
  refine rF 2 ?_;refine oc (JT rfl rfl rfl rfl rfl rfl (λq=>?_) (λr s h U=>⟨_,rfl,?_⟩))
  .refine vw 4 ?_;refine rF 4 ?_;refine fM ?_;refine tL (l:=[]) rfl rfl ([0,1,2]) ([.cells [fE (max n (e+c)),.map 1] 216,.jc (yg R c k),.jc g]) rfl rfl rfl ?_ ?_
   .repeat (first|exact nw|refine jN ?_|refine uC ?_)
   .exact ⟨rfl,by rw[SJ b.1 b.2 q]⟩
  have G:=F r s h;refine Eo 4 ?_;refine rF 5 ?_;refine oc (T:=λ_=>False) (FE rfl rfl rfl rfl rfl ?_);refine rF 13 ?_;refine oc (FD vV rfl rfl rfl rfl rfl rfl ?_);refine' Cg 12 46 41 5 ?a1 ?_
  case a1=>
   intro M H;refine jS 2 ?_;refine rF 2 ?_;exact H [_,_,_,_,_] rfl rfl
  refine j7 2 ?_ ?_<;>intro j
  .refine rF 2 ?_;first|rw[Lo (f:=yg R c k) j]|rw[QO (f:=yg R c k) j.1 j.2]
   refine bk ((r,s)::k) rfl ?_ ([0,1,2,3,4]) ?_
   .have i:=AF b.1 b.2 h U;have x:=PN i.1 i.2 y;simp only[aj] at x;exact⟨i,by simp only[aj];omega⟩
   .refine mei ?_ (iU (iU (iU rA))) (by repeat (first|exact trivial|refine And.intro rfl ?_))
    repeat (first|exact nw|refine jN ?_|refine uC ?_|refine boi ?_)
  refine jS 8 ?_;refine oc (zB vV rfl rfl rfl rfl rfl rfl rfl rfl ?_);refine rF 2 ?_;first|rw[Lo (f:=yg R c k) j]|rw[QO (f:=yg R c k) j.1 j.2]
  refine bk ((r,s)::k) rfl ?_ ([0,1,2,3,4]) ?_
  .have i:=AF b.1 b.2 h U;have x:=PN i.1 i.2 y;simp only[aj] at x;exact⟨i,by simp only[aj];omega⟩
  .refine mei ?_ (iU (iU (iU rA))) (by repeat (first|exact trivial|refine And.intro rfl ?_))
   repeat (first|exact nw|refine jN ?_|refine uC ?_|refine boi ?_)
theorem SX(n m:Int)(R g:jR)(L:List fB)(G:∀p x,R p=some x->p∈L):
 jT fC F 159 [.jc R,.jc g] [.agg [fE n,.map 0],.agg [fE m,.map 1]] λout ob'=> ∃b,out=.ret (fH b)/\ob'=[.jc R,.jc g]/\(b=true↔FLe n R m g):=by
 refine nR Tryz.func159 36 2 ?_;refine rF 12 ?_;refine oc (T:=λ_=>False) (FA vV rfl rfl rfl rfl rfl (by simp only[aj,aH,Nat.reduceAdd];rfl) rfl ?_);refine pt 3 (ι:=List (fB×Int)) (λU=>[]) (λU=>[.jc R,.jc g,.cells [fE n,.map 0] 216,.cells [fE m,.map 1] 216,.ru 0 R U none]) [11,3,2] (λU=>((U.map Prod.fst).Nodup/\∀p∈U,R p.1=some p.2)/\∀p∈U,∃y,g p.1=some y/\p.2<=y) (λU=>L.length-U.length) ([]) ([0,1,2,3,4]) ?I4 ?H4 (hM:= ?M4)
 case I4=>
  exact⟨⟨by simp,by simp⟩,by simp⟩
 case M4=>
  refine mei ?_ (iU (iU (iU rA))) (by repeat (first|exact trivial|refine And.intro rfl ?_))
  repeat (first|exact nw|refine jN ?_|refine uC ?_|refine boi ?_)
 case H4=>
  rintro U k
  try dsimp only at k
  refine rF 2 ?_;refine oc (JT rfl rfl rfl rfl rfl rfl (λh=>?_) (λr C i j=>⟨_,rfl,?_⟩))
  .refine vw 4 ?_;refine rF 16 ?_;refine fR<|pc ⟨_,_,rfl,rfl,rfl⟩ rfl (fF (decide (n<=m))) (by exact .refl _) ([0,1]) ([.jc R,.jc g]) rfl rfl rfl ?_ ?_
   .repeat (first|exact nw|refine uC ?_)
   .refine ⟨_,rfl,rfl,?_⟩;rw[decide_eq_true_eq];exact⟨λe=>⟨λp x H=>k.2 (p,x) (h p x H),e⟩,λs=>s.2⟩
  refine Eo 4 ?_;refine rF 5 ?_;refine oc (T:=λ_=>False) (FE rfl rfl rfl rfl rfl ?_);refine rF 11 ?_;refine oc (FD vV rfl rfl rfl rfl rfl rfl ?_);refine rV 12 29 26 3 ?_;refine jq 2 ?_ ?_<;>intro c
  .refine rF 10 ?_;refine fR<|pc ⟨_,_,rfl,rfl,rfl⟩ rfl (fF false) (by exact .refl _) ([0,1]) ([.jc R,.jc g]) rfl rfl rfl ?_ ?_
   .repeat (first|exact nw|refine uC ?_)
   .refine ⟨false,rfl,rfl,λe=>(by cases e),λs=>?_⟩;obtain⟨y,I,J⟩:=s.1 r C i;rw[I] at c;simp at c;omega
  refine rF 2 ?_;refine bk ((r,C)::U) rfl ?_ ([0,1,2,3,4]) ?_
  .have z:=AF k.1.1 k.1.2 i j;have M:=PN z.1 z.2 G;simp only[aj] at M;refine⟨⟨z,λp hp=>?_⟩,by simp only[aj];omega⟩;rcases bh.1 hp with rfl|hp
   .cases q:g r with
    |none=>rw[q] at c;simp at c
    |some y=>rw[q] at c;exact⟨y,rfl,by simpa using c⟩
   .exact k.2 p hp
  .refine mei ?_ (iU (iU (iU rA))) (by repeat (first|exact trivial|refine And.intro rfl ?_))
   repeat (first|exact nw|refine jN ?_|refine uC ?_|refine boi ?_)
end
end Go.Proofs.YtndbnldjidciiaaGreatDoor
