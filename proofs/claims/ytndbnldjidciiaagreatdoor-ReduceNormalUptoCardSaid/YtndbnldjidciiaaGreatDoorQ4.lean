/-
  What is proved here: lemmas of part 4, for the theorem of the last part.
-/
import Derived.Test.YtndbnldjidciiaaGreatDoorQ3
set_option linter.unusedSimpArgs false
set_option linter.unusedVariables false
set_option linter.unusedSectionVars false
namespace Go.Proofs.YtndbnldjidciiaaGreatDoor
section
open Go Go.Vd Go.RowKit
attribute [local irreducible] bu bA di ak bL cU
variable {g gl:Nat→List D}
def dO(k:Int)(s:ByteArray)(ps:List ByteArray)(k1 n1:Int)(s1:ByteArray)(l1:List aP)(a1:List ae)(k2 n2:Int)(s2:ByteArray)(l2:List aP)(a2:List ae)(a:Int)(cc:List (ByteArray×ae)):Ob:=
 .cells [.d (.v (.int .i64 k)),.d (.v (.string s)),.d (.sl 1 (strs ps)),.d (.v (.int .i64 k1)),.d (.v (.int .i64 n1)),.d (.v (.string s1)),.d (.sl 3 (bF l1)),.d (.sl 5 (aH a1)),.d (.v (.int .i64 k2)),.d (.v (.int .i64 n2)),.d (.v (.string s2)),.d (.sl 3 (bF l2)),.d (.sl 5 (aH a2)),.d (.v (.int .i64 a)),.d (.sl 6 (gM cc))] 61
def eO(k:Int)(s:ByteArray)(ps:List ByteArray)(k1 n1:Int)(s1:ByteArray)(l1:List aP)(a1:List ae)(k2 n2:Int)(s2:ByteArray)(l2:List aP)(a2:List ae)(a:Int)(cc:List (ByteArray×ae))(rp:List ByteArray)(k3 n3:Int)(s3:ByteArray)(l3:List aP)(a3:List ae):Ob:=
 .cells [.d (.v (.int .i64 k)),.d (.v (.string s)),.d (.sl 1 (strs ps)),.d (.v (.int .i64 k1)),.d (.v (.int .i64 n1)),.d (.v (.string s1)),.d (.sl 3 (bF l1)),.d (.sl 5 (aH a1)),.d (.v (.int .i64 k2)),.d (.v (.int .i64 n2)),.d (.v (.string s2)),.d (.sl 3 (bF l2)),.d (.sl 5 (aH a2)),.d (.v (.int .i64 a)),.d (.sl 6 (gM cc)),.d (.sl 1 (strs rp)),.d (.v (.int .i64 k3)),.d (.v (.int .i64 n3)),.d (.v (.string s3)),.d (.sl 3 (bF l3)),.d (.sl 5 (aH a3))] 63
theorem IL:∀(n:Nat) (t:ae) (j:Nat),j<n→n≤bg t→∀{m:Int} {s:ByteArray} {ls:List aP} {a b:ae},er j t=.mk 5 m s ls [a,b]→(gh n t)[j]? =some a:=by
 intro n
 induction n with
 |zero=>intro t j h;omega
 |succ n ih=>
  intro t j hj hn m s ls a b he;obtain⟨m1,s1,l1,a1,b1,h1,h2,h3,h4⟩:=ig n t (by omega);have hl:=dV n t (by omega);rw[h3];by_cases hjn:j<n
  ·rw [List.getElem?_append_left (by omega)];exact ih t j hjn (by omega) he
  ·obtain rfl:j=n:=by omega
   rw[List.getElem?_append_right (by omega),hl,Nat.sub_self];rw[he] at h1;cases h1;rfl
variable {nm:ByteArray} {h a:ae} {f pre X cs:List ae} {p j:Nat}
theorem AT(hj:p≤j){c:ae}(ha:X.getD j aQ=a)(hc:cs.getD j aQ=c)(hs:eU (jN nm) a 0=true):
 vY nm h f p pre X cs (j+1)=vY nm h f p pre X cs j++[yE h f p a (pre++(cs.drop p).take (j-p)) c]:=by
 rw[vY,ha,hc,if_pos ⟨hj,hs⟩]
theorem EN(ha:X.getD j aQ=a)(hs:¬(p≤j∧eU (jN nm) a 0=true)):
 vY nm h f p pre X cs (j+1)=vY nm h f p pre X cs j:=by
 rw[vY,ha,if_neg hs,List.append_nil]
theorem y8(a b:ae):(ae.mk 3 0 .empty [] [a,b]).size=1+(a.size+(b.size+0)):=by
 simp only[ae.size,bh,aj]
set_option maxHeartbeats 1600000 in
theorem Hw{es:List cy}(hE:dg es){ps:List ByteArray}{c:Int}(hcc:0≤c∧c≤1099511627776){most n:Nat}(hm:most≤1000000)(hW:GP gl es ps c most n)
 (kd:Int) (sd:ByteArray) (pd:List ByteArray) (k1 n1:Int) (s1:ByteArray) (l1:List aP) (a1:List ae) (k2 n2:Int) (s2:ByteArray) (l2:List aP) (a2:List ae) (ad:Int) (cc:List (ByteArray×ae)) (rp:List ByteArray) (k3 n3:Int) (s3:ByteArray) (l3:List aP) (a3:List ae)
 (hem:(⟨.mk kd sd pd (.mk k1 n1 s1 l1 a1) (.mk k2 n2 s2 l2 a2) ad cc,rp,.mk k3 n3 s3 l3 a3⟩:cy)∈es) (hk:kd=3) (hn:ByteArray) (hus:List aP) (az:List ae) (d:Nat) (pr:Int) (hdm:d≤most)
 (hh:Wt (eh es) ps (.mk 2 0 hn hus []) c) (hzh:(ae.mk 2 0 hn hus []).size≤1000000000000) (ha:∀x∈az,Wt (eh es) ps x c) (hza:aj az≤1000000000000) (hgas:∀x∈az,x.size+30000*(most-d)<n∧x.size+30000*(most-d)≤1000000000000):
 et Tryz.prog gl 86 [bc es false,ba,iW d most false pr] [.cb 0 0,.d (ae.mk 2 0 hn hus []).d,.d (.sl 5 (aH az)),.d (cy.dd ⟨.mk kd sd pd (.mk k1 n1 s1 l1 a1) (.mk k2 n2 s2 l2 a2) ad cc,rp,.mk k3 n3 s3 l3 a3⟩),.cb 2 0]
  (Qu es most n ⟨.mk kd sd pd (.mk k1 n1 s1 l1 a1) (.mk k2 n2 s2 l2 a2) ad cc,rp,.mk k3 n3 s3 l3 a3⟩ (.mk 2 0 hn hus []) az d pr):=by
 have hent:=hE.xP _ hem;obtain⟨har0,har1⟩:=hent.ar hk;obtain⟨hty,htz⟩:=hent.ty;have hcl0:=hent.cl;have hpd:=hent.ps;simp only[dP.ar,dP.ty,dP.cs,dP.ps] at har0 har1 hty htz hcl0 hpd;obtain⟨P,rfl⟩:∃P:Nat,ad=P:=⟨ad.toNat,by omega⟩;have hpz:=dT _ (.mk k1 n1 s1 l1 a1) (Nat.le_refl _);have hpt:=iK (gl:=gl) (B:=1099511627776) k1 n1 s1 l1 a1 (hty.sh (by omega)) (by omega);have hccl:=iU cc;have hal:=aO az;have hsa:=br az;generalize hE':(⟨.mk kd sd pd (.mk k1 n1 s1 l1 a1) (.mk k2 n2 s2 l2 a2) (P:Int) cc,rp,.mk k3 n3 s3 l3 a3⟩:cy)=e;have hdd:e.dd=cy.dd ⟨.mk kd sd pd (.mk k1 n1 s1 l1 a1) (.mk k2 n2 s2 l2 a2) (P:Int) cc,rp,.mk k3 n3 s3 l3 a3⟩:=by rw[hE']
 rw[hdd];have heA:HA e=P+1+cc.length+(bg (.mk k1 n1 s1 l1 a1)-P):=by rw[← hE'];unfold HA;simp only[dP.ar,dP.ty,dP.cs,Int.toNat_natCast]
 have heP:e.d.ar.toNat=P:=by rw[← hE'];simp only[dP.ar,Int.toNat_natCast]
 have heC:e.d.cs=cc:=by rw[← hE'];rfl
 have heN:e.d.nm=sd:=by rw[← hE'];rfl
 have hePs:e.d.ps=pd:=by rw[← hE'];rfl
 have hem':e∈es:=by rw[← hE'];exact hem
 have hent':=hE.xP _ hem';generalize hA:HA e=A at heA;have hAt:(P:Int)+1+((gM cc).length:Int)+((bg (.mk k1 n1 s1 l1 a1):Int)-P)=(A:Int):=by omega
 refine bS Tryz.func86 Tryz.ntmps86 3 ?_;refine kc 31 [14,13,12,10,6,0,2,4] 4 ?_;refine oc (cv rF rfl rfl (hpt) (bo .nil) ?_);refine go 1 ?_;refine o1 (iC ?_);refine ko 3 [15,14,13,12,10,6,0,2,4] 3 ?_;refine o1 (cG ?_);refine go 1 ?_;refine o1 (cG ?_);refine go 1 ?_;refine o1 (cG ?_);refine ko 5 [16,14,13,12,10,6,0,2,4] 0 ?_;rw[hAt];refine gc 7 ?_;refine cj (fun h6=>?_) (fun h6=>?_)
 ·refine kc 0 [10] 9 ?_;refine eo (.bZ [aQ.d,.v (.bool false)]) [0,1,2] [bc es false,ba,iW d most false pr] ?_
  ·exact ⟨aQ,false,d,false,false,rfl,rfl,Nat.le_refl _,hdm,fun _=>.inr (.inl ⟨rfl,rfl,.inl ⟨by omega,rfl⟩⟩)⟩
 refine kc 3 [16,14,13,12,10,6,0,2,4] 0 ?_;obtain⟨kx,mx,sx,lx,ax,hgx⟩:=bK (show A<az.length by omega);have hwx:=ha _ (List.mem_of_getElem? hgx);have hgg:=hgas _ (List.mem_of_getElem? hgx);have hWx:=hW kx mx sx lx ax d pr hdm hgg.1 hgg.2 hwx;refine gc 4 ?_;refine o1 (cu bB bH ?_ (he:=by exact(bW hgx)));refine go 2 ?_;refine oc (aN KE rfl rfl rfl rfl (hWx) [0,1,2] (bj (cr (bj .nil))) rfl rfl rfl rfl (an (bo (an .nil))) (fun s ob' hq=>?_) (fun s ob' hq=>?_));rotate_left
 ·obtain ⟨_,_,_,_,hq1,_⟩:=hq;cases hq1
 obtain⟨⟨kq,mq,sq,lq,aq⟩,d1,t1,w1,hq1,rfl,hd1,hd2,hres⟩:=hq;cases hq1;refine⟨_,_,_,_,_,rfl,rfl,rfl,rfl,rfl,?_⟩;refine ko 5 [17,16,14,13,12,10,6,0,2,4] 7 ?_;refine' oo (yt:=70) (d:=66) 4 ?a1 ?b1 ?_
 case a1=>
  intro hc hK;refine go 4 ?_;exact hK [_,_,_,_] rfl rfl
 case b1=>
  intro _ hK;refine go 4 ?_;exact hK [_,_,_,_] rfl
 refine go 2 ?_;refine cj (fun h9=>?_) (fun h9=>?_)
 ·refine kc 0 [10] 9 ?_;refine eo (.bZ [aQ.d,.v (.bool false)]) [0,1,2] [bc es w1,ba,iW d1 most t1 pr] ?_
  ·refine ⟨aQ,false,d1,t1,w1,rfl,rfl,hd1,hd2,fun hw=>?_⟩;rcases hres hw with⟨h1,h2⟩|⟨h1,h2⟩
   ·exact .inl ⟨h1,rfl,.inr ⟨_,by rw[hA];exact hgx,.inl ⟨h2,rfl⟩⟩⟩
   ·rcases h9 with h3|h3
    ·rw [h1] at h3;cases h3
    ·rw [hw] at h3;cases h3
 refine kc 3 [17,16,14,13,12,10,6,0,2,4] 0 ?_;have ht1:t1=false:=(by rcases h9 with⟨h3,h4⟩;first|exact h3|simpa using h3);have hw1:w1=false:=(by rcases h9 with⟨h3,h4⟩;first|exact h4|simpa using h4);subst ht1 hw1;have hr:RW es most n (.mk kx mx sx lx ax) d (.ok (.mk kq mq sq lq aq) d1):=(by rcases hres rfl with⟨h3,_⟩|⟨_,h4⟩;cases h3;exact h4);obtain⟨hj1,hj2,hj3,hj4⟩:=yd hE hcc.1 n hr hdm hwx;obtain⟨hqok,hqH,hqA,_⟩:=Wt.spine _ (Nat.le_refl _) hj1;have hspn:=eY (gl:=gl) kq mq sq lq aq hqok (by omega);have hss:=dQ _ (.mk kq mq sq lq aq) (Nat.le_refl _);rcases hS:bf (.mk kq mq sq lq aq) with⟨⟨kh,mh,sh,lh,ah⟩,cs⟩;rw[hS] at hspn hss hqH hqA;simp only at hspn hss hqH hqA;have hcsl:=aO cs;have hcss:=br cs;have hRIs:(∀ i cty us,¬lQ es e (.mk kh mh sh lh ah) cs i cty us)→RI es most (RW es most n) e (.mk 2 0 hn hus []) az d (.stuck d1):=fun h=>.inr ⟨_,by rw[hA];exact hgx,.inr ⟨_,d1,hr,.inl ⟨by rw[hS];exact h,rfl⟩⟩⟩
 refine gc 2 ?_;refine oc (cv yM rfl rfl (hspn) (bo .nil) ?_);refine ko 9 [19,18,16,14,13,12,10,6,0,2,4] 7 ?_;refine cj (fun h12=>?_) (fun h12=>?_)
 ·refine kc 0 [10] 9 ?_;refine eo (.bZ [aQ.d,.v (.bool false)]) [0,1,2] [bc es false,ba,iW d1 most false pr] ?_
  ·refine ⟨aQ,false,d1,false,false,rfl,rfl,hd1,hd2,fun _=>.inr (.inl ⟨rfl,rfl,hRIs fun i cty us h=>?_⟩)⟩;obtain⟨_,_,_,h3,_⟩:=h;cases h3;exact h12 rfl
 refine gc 3 ?_;have hkh:kh=2:=(by first|exact h12|omega);subst hkh;obtain⟨rfl,rfl⟩:mh=0∧ah=[]:=(by
  rcases hqH.2.2 with h3|h3|h3|h3|h3
  ·omega
  ·omega
  ·exact ⟨h3.2.1,List.eq_nil_of_length_eq_zero h3.2.2.2⟩
  ·omega
  ·omega)
 have hfs:=find_spec (gl:=gl) es false sh hE.b;rcases hF:bM sh es with⟨kf,⟨⟨kg,sg',pg,⟨u1,v1,x1,y1,z1⟩,⟨u2,v2,x2,y2,z2⟩,ag,cg⟩,rg,⟨u3,v3,x3,y3,z3⟩⟩,jf⟩;rw[hF] at hfs;dsimp only at hfs;obtain⟨kK,mK,sK,lK,aK,hCT⟩:=ae.case (cc.getD jf (.empty,aQ)).2
 have hCTok:iD 1099511627776 (.mk kK mK sK lK aK)∧(ae.mk kK mK sK lK aK).size≤800001:=(by
  rw[← hCT,List.getD_eq_getElem?_getD];cases hg:cc[jf]? with
  |none=>exact⟨⟨fun l hl=>(by cases hl),trivial,.inl ⟨rfl,⟨by decide,by decide⟩,rfl,rfl,rfl⟩⟩,by decide⟩
  |some x=>
   have h3:=hent'.cs x (by rw[heC];exact List.mem_of_getElem? hg);exact⟨h3.1.sh (show(0:Int)+(x.2.size:Int)≤1099511627776+1 by have:=h3.2.1;omega),h3.2.1⟩)
 have hpc:=iK (gl:=gl) (B:=1099511627776) kK mK sK lK aK hCTok.1 (by have:=hCTok.2;omega);have hgc:kf=4→sg'=sd→cc[jf]? =some ((cc.getD jf (.empty,aQ)).1,.mk kK mK sK lK aK):=(fun h3 h4=>by
  subst h3;have h5:=wG hE (hZ hF (by decide)) hem' (by rw[heN];exact h4);obtain⟨x,hx,_⟩:=o8 (nm:=sh) hE.k4 (by rw[hF]);rw[hF] at hx;have h6:e.d.cs[jf]? =some x:=(by rw[← h5];exact hx);rw[heC] at h6;rw[← hCT,List.getD_eq_getElem?_getD,h6];rfl)
 have hgl:kf=4→sg'=sd→jf<cc.length:=(fun h3 h4=>(List.getElem?_eq_some_iff.1 (hgc h3 h4)).1);have hno:∀i cty us,lQ es e (.mk 2 0 sh lh []) cs i cty us→kf=4∧sg'=sd∧i=jf∧cty=.mk kK mK sK lK aK∧us=lh∧cs.length=bg (.mk kK mK sK lK aK):=(fun i cty us h=>by
  obtain⟨s',e2,nm',h3,h4,h5,h6,h7⟩:=h;simp only[ae.mk.injEq] at h3;obtain⟨_,_,rfl,rfl,_⟩:=h3;rw[hF] at h4;simp only[Prod.mk.injEq] at h4;obtain⟨rfl,rfl,rfl⟩:=h4;rw[heN] at h5;have h8:=hgc rfl h5;rw[heC] at h6;rw[h6] at h8;simp only[Option.some.injEq,Prod.mk.injEq] at h8;exact⟨rfl,h5,rfl,h8.2,rfl,by rw[← h8.2];exact h7⟩)
 refine gc 4 ?_;refine oc (ck Mm rfl rfl (hfs) [0,1] rfl (bj (cr .nil)) (an (an .nil)) ?_);refine ko 11 [22,20,21,19,18,16,14,13,12,10,6,0,2,4] 5 ?_;refine' oo (yt:=98) (d:=92) 6 ?a2 ?b2 ?_
 case a2=>
  intro hc hK;refine go 6 ?_;exact hK [_,_,_,_,_,_] rfl rfl
 case b2=>
  intro _ hK;refine go 6 ?_;exact hK [_,_,_,_,_,_] rfl
 refine go 1 ?_;refine' oo (yt:=110) (d:=100) 10 ?a3 ?b3 ?_
 case a3=>
  intro hc hK;refine go 5 ?_;refine gy ?_;refine o1 (cu yj Ap ?_ (he:=by exact(pk (hgc hc.1 hc.2))));refine go 2 ?_;refine gy ?_;refine oc (cv rF rfl rfl (hpc) (bo .nil) ?_);refine go 1 ?_;exact hK [_,_,_,_,_,_,_,_,_,_] rfl rfl
 case b3=>
  intro _ hK;refine go 10 ?_;exact hK [_,_,_,_,_,_,_,_,_,_] rfl
 refine go 2 ?_;refine cj (fun h15=>?_) (fun h15=>?_)
 ·refine kc 0 [10] 9 ?_;refine eo (.bZ [aQ.d,.v (.bool false)]) [0,1,2] [bc es false,ba,iW d1 most false pr] ?_
  ·refine ⟨aQ,false,d1,false,false,rfl,rfl,hd1,hd2,fun _=>.inr (.inl ⟨rfl,rfl,hRIs fun i cty us h=>?_⟩)⟩;obtain⟨h3,h4,_,_,_,h5⟩:=hno i cty us h;rcases h15 with(h6|h6)|h6
   ·exact h6 h3
   ·exact h6 h4
   ·omega
 refine kc 3 [22,19,18,16,14,13,12,10,6,0,2,4] 0 ?_;have hk4:kf=4:=(by first|exact h15.1.1|omega);have hsn:sg'=sd:=(by first|exact h15.1.2|exact(h15.1).2);have hpl:cs.length=bg (.mk kK mK sK lK aK):=(by have h3:=h15.2;omega);subst hk4;have hci:=hgc rfl hsn;have hct:lQ es e (.mk 2 0 sh lh []) cs jf (.mk kK mK sK lK aK) lh:=⟨sh,_,_,rfl,hF,by rw[heN];exact hsn,by rw[heC];exact hci,hpl⟩;obtain⟨hi1,hi2,hi3,hi4,hi5,_,hi7⟩:=re hE hem' hqH hct;rw[heC] at hi1;rw[hePs] at hi3 hi4;have hPc:P≤cs.length:=(by have h3:e.d.ar=(P:Int):=(by rw[← hE'];rfl);omega);refine gc 2 ?_;refine oc (aN Mg rfl rfl rfl rfl (oG d1 most false pr (by omega)) [2] (bj .nil) rfl rfl rfl rfl (an .nil) (fun s ob' hq=>?_) (fun s ob' hq=>?_));rotate_left
 ·obtain ⟨_,_,_,hq1,_⟩:=hq;cases hq1
 obtain⟨ok,d2,t2,hq1,rfl,hst⟩:=hq;cases hq1;refine⟨_,_,_,_,_,rfl,rfl,rfl,rfl,rfl,?_⟩;refine go 10 ?_;refine cj (fun h18=>?_) (fun h18=>?_)
 ·refine kc 0 [10] 9 ?_;refine eo (.bZ [aQ.d,.v (.bool false)]) [0,1,2] [bc es false,ba,iW d2 most t2 pr] ?_
  ·rcases hst with⟨h3,h4,h5,h6⟩|⟨h3,_⟩
   ·refine ⟨aQ,false,d2,t2,false,rfl,rfl,by omega,by omega,fun _=>.inl ⟨h6,rfl,.inr ⟨_,by rw[hA];exact hgx,.inr ⟨_,d1,hr,.inr ⟨jf,.mk kK mK sK lK aK,lh,?_,.inl ⟨h4,rfl⟩⟩⟩⟩⟩⟩;rw[hS];exact hct
   ·rw [h3] at h18;simp at h18
 refine kc 3 [22,19,18,16,14,13,12,10,6,0,2] 0 ?_;have hst':d1<most∧d2=d1+1∧t2=false:=(by
  rcases hst with⟨h3,_⟩|⟨_,h4,h5,h6⟩
  ·rw [h3] at h18;simp at h18
  ·exact ⟨h4,h5,h6⟩)
 obtain⟨hlt,rfl,rfl⟩:=hst';obtain⟨km,mm,sm,lm,am,hgm⟩:=bK (show P+1+jf<az.length by omega);have hidx20:(aH az)[((P:Int)+1+(jf:Int)).toNat]? =some [.v (.int .i64 km),.v (.int .i64 mm),.v (.string sm),.sl 3 (bF lm),.sl 5 (aH am)]:=(by rw[show((P:Int)+1+(jf:Int)).toNat=P+1+jf by omega,gY hgm];rfl);have hmz:=bG hgm;refine gc 3 ?_;refine o1 (cG ?_);refine go 1 ?_;refine o1 (cG ?_);refine o1 (cu bB bH ?_ (he:=by exact(hidx20)));refine ko 13 [25,24,22,19,18,16,14,13,12,10,6,0,2] 0 ?_;refine lp (ι:=Nat×Int×Int×ByteArray×List aP×List ae) (fun⟨q,k7,m7,s7,l7,a7⟩=>[(25,int ((P+q:Nat):Int))]) (fun⟨q,k7,m7,s7,l7,a7⟩=>[bc es false,ba,iW ((d1+1:Nat):Int) most false pr,tO 2 0 hn hus [],eO kd sd pd k1 n1 s1 l1 a1 k2 n2 s2 l2 a2 (P:Int) cc rp k3 n3 s3 l3 a3,zO,dO kd sd pd k1 n1 s1 l1 a1 k2 n2 s2 l2 a2 (P:Int) cc,tO kq mq sq lq aq,tO 2 0 sh lh [],eO kg sg' pg u1 v1 x1 y1 z1 u2 v2 x2 y2 z2 ag cg rg u3 v3 x3 y3 z3,tO k7 m7 s7 l7 a7]) [24,22,19,18,16,14,13,12,10,6,0,2] (fun⟨q,k7,m7,s7,l7,a7⟩=>q≤cs.length-P∧bt (.mk km mm sm lm am) ((cs.drop P).take q)=.mk k7 m7 s7 l7 a7) (fun⟨q,k7,m7,s7,l7,a7⟩=>cs.length-P-q) ((0,km,mm,sm,lm,am)) ([0,1,2,3,4,5,6,7,8,9,10]) rfl ?I8 ?M8 ?H8
 case I8=>
  exact⟨Nat.zero_le _,rfl⟩
 case M8=>
  refine mo ?_ (ef rfl (by exact Fit.of_eq (by rfl)) (aJ (aJ (aJ (aJ (aJ (aJ (aJ (aJ (aJ (aJ (aJ (aJ dC)))))))))))))
  repeat (first|exact cH|refine bj ?_|refine cr ?_)
 case H8=>
  rintro⟨q,k7,m7,s7,l7,a7⟩ hinv
  try dsimp only at hinv
  refine kc 0 [25,24,22,19,18,16,14,13,12,10,6,0,2] 9 ?_;refine cj (fun h22=>?_) (fun h22=>?_)
  ·refine kc 4 [25,24,22,19,18,16,14,13,12,10,6,0,2] 0 ?_;obtain⟨k8,m8,s8,l8,a8,hget⟩:=bK (show P+q<cs.length by omega);have hgd:(cs.drop P)[q]? =some (.mk k8 m8 s8 l8 a8):=(by rw[List.getElem?_drop];exact hget);have hap:=dt (gl:=gl) k7 m7 s7 l7 a7 k8 m8 s8 l8 a8;refine gz [0,1,2] mixed ?_;refine A1 3 rfl (cu bB bH ⟨_,rfl,?_⟩ (he:=by exact(bW hget)));refine ga [4] ?_;refine A2 5 rfl (cv pt rfl rfl (hap) (bo (bo .nil)) ?_);refine A2 6 rfl (dN bw ?_);refine aZ ?_;refine ke 2 [25,24,22,19,18,16,14,13,12,10,6,0,2] 2 ?_;refine o1 (cG ?_);refine go 2 ?_;refine bk ((q+1,3,0,.empty,[],[.mk k7 m7 s7 l7 a7,.mk k8 m8 s8 l8 a8])) rfl ?_ ([0,1,2,3,4,5,6,7,8,9,10]) ?_
   ·exact ⟨⟨by omega,by rw[fg hgd,hinv.2]⟩,show cs.length-P-(q+1)<cs.length-P-q by omega⟩
   ·refine mo ?_ (ef rfl (by exact Fit.of_eq (by first|rfl|(congr 3;omega))) (aJ (aJ (aJ (aJ (aJ (aJ (aJ (aJ (aJ (aJ (aJ (aJ dC)))))))))))))
    repeat (first|exact cH|refine bj ?_|refine cr ?_)
  refine kc 6 [24,22,19,18,16,14,13,12,10,6,0,2] 0 ?_;obtain rfl:q=cs.length-P:=(by omega);have hO:=hinv.2;rw[List.take_of_length_le (by rw[List.length_drop];exact Nat.le_refl _)] at hO;have hOz:=cB (.mk km mm sm lm am) (cs.drop P);rw[hO] at hOz;have hdz:=oM cs P;have hdl:(cs.drop P).length=cs.length-P:=List.length_drop;have htk:=aO (az.take P);have htl:(az.take P).length=P:=(by rw[List.length_take];omega);have hlsz:∀u∈lh,u.size≤1099511627776:=(fun u hu=>by
   obtain⟨i,hi⟩:=List.getElem?_of_mem hu;have h3:=eI hi;have hqz:(ae.mk kq mq sq lq aq).size≤1000000000000:=(by omega);have h4:(ae.mk 2 0 sh lh []).size≤1000000000000:=(by omega);simp only[ae.size] at h4;omega)
  refine gc 9 ?_;refine o1 (fD bB bH rfl rfl rfl rfl rfl rfl (by omega) (gr az P) ?_);refine oc (T:=fun _=>False) (iL dE rfl rfl rfl rfl rfl rfl (by simp only[List.length_cons,List.length_nil,Nat.reduceAdd];rfl) rfl rfl (by decide) (by(simp only[maxLen];omega)) rfl rfl rfl ?_);refine ko 4 [26,24,22,19,18,16,14,13,12,10,6,0,2] 0 ?_;refine gz [0,1,2,3] mixed ?_;refine A1 4 rfl (cu yj Ap ⟨_,rfl,?_⟩ (he:=by exact(pk hci)));refine ga [5,6,7,8,9,10] ?_;refine cT (rs:=[11,12]) (by kernel_rfl) rfl ⟨?_,?_,trivial⟩
  ·skip
   refine A4 11 rfl (aN Mk rfl rfl rfl rfl (q9 es false pd lh (by omega) (by omega) hlsz kK mK sK lK aK (by omega)) [0,1] (bj (cr .nil)) rfl rfl rfl rfl (an (bo (an (an .nil)))) (fun s ob' hq=>?_) (fun s ob' hq=>?_));rotate_left
   ·obtain ⟨_,_,hq1,_⟩:=hq;cases hq1
   obtain⟨⟨k5,m5,s5,l5,a5⟩,w2,hq1,rfl,hw2⟩:=hq;cases hq1;refine⟨_,_,_,_,_,rfl,rfl,rfl,rfl,rfl,?_⟩;refine A2 12 rfl (qB bw ?_);refine A2 13 rfl (dN bw ?_);refine aZ ?_;refine ke 2 [27,26,24,19,16,14,13,12,10,6,0,2] 8 ?_;refine cj (fun h28=>?_) (fun h28=>?_)
   ·refine kc 0 [10] 9 ?_;refine eo (.bZ [aQ.d,.v (.bool false)]) [0,1,2] [bc es w2,ba,iW ((d1+1:Nat):Int) most false pr] ?_
    ·exact ⟨aQ,false,d1+1,false,w2,rfl,rfl,by omega,by omega,fun h=>by rw[h] at h28;cases h28⟩
   refine kc 4 [27,26,24,19,16,14,13,12,10,6,0,2] 0 ?_;have hw2':w2=false∧(ae.mk k5 m5 s5 l5 a5)=ew pd lh (.mk kK mK sK lK aK)∧(ae.mk k5 m5 s5 l5 a5).size≤20000:=(by
    rcases hw2 with⟨h3,_,h4,h5⟩|⟨h3,_⟩
    ·exact ⟨h3,h4,h5⟩
    ·rw [h3] at h28;simp at h28)
   obtain⟨rfl,hTY,hTz⟩:=hw2';have hpTY:bg (.mk k5 m5 s5 l5 a5)=cs.length:=(by rw[hTY,tu];omega);have hc20:cs.length<20001:=(by have h3:=dT _ (.mk k5 m5 s5 l5 a5) (Nat.le_refl _);omega);have hTW:Wt (eh es) ps (.mk k5 m5 s5 l5 a5) 0:=(by rw[hTY];exact hi4.IJ (by omega) hi2);have hXW:=hTW.wN cs.length (by omega);have hXl:=dV cs.length (.mk k5 m5 s5 l5 a5) (by omega);have hcsz:=br cs;refine gc 5 ?_;refine lp (ι:=Nat×Bool×(Int×Int×ByteArray×List aP×List ae)×Int×Int×ByteArray×List aP×List ae) (fun⟨j,w3,⟨k6,m6,s6,l6,a6⟩,k8,m8,s8,l8,a8⟩=>[(28,int j),(26,.own 11 5 (aH (az.take P++(cs.drop P).take (j-P))))]) (fun⟨j,w3,⟨k6,m6,s6,l6,a6⟩,k8,m8,s8,l8,a8⟩=>[bc es w3,ba,iW ((d1+1:Nat):Int) most false pr,tO 2 0 hn hus [],eO kd sd pd k1 n1 s1 l1 a1 k2 n2 s2 l2 a2 (P:Int) cc rp k3 n3 s3 l3 a3,zO,dO kd sd pd k1 n1 s1 l1 a1 k2 n2 s2 l2 a2 (P:Int) cc,tO kq mq sq lq aq,tO 2 0 sh lh [],eO kg sg' pg u1 v1 x1 y1 z1 u2 v2 x2 y2 z2 ag cg rg u3 v3 x3 y3 z3,tO k8 m8 s8 l8 a8,tR,tO k6 m6 s6 l6 a6]) [27,24,19,16,14,13,12,10,6,0,2] (fun⟨j,w3,⟨k6,m6,s6,l6,a6⟩,k8,m8,s8,l8,a8⟩=>j≤cs.length∧er j (.mk k5 m5 s5 l5 a5)=.mk k6 m6 s6 l6 a6∧(ae.mk k8 m8 s8 l8 a8).size≤4000000000000+j*8796093022209∧(w3=false→(ae.mk k8 m8 s8 l8 a8)=bt (.mk k7 m7 s7 l7 a7) (vY sd (.mk 2 0 hn hus []) (az.take (P+1+cc.length)) P (az.take P) (gh cs.length (.mk k5 m5 s5 l5 a5)) cs j))) (fun⟨j,w3,⟨k6,m6,s6,l6,a6⟩,k8,m8,s8,l8,a8⟩=>cs.length-j) ((0,false,⟨k5,m5,s5,l5,a5⟩,k7,m7,s7,l7,a7)) ([0,1,2,3,4,5,6,7,8,9,10,11,12]) rfl ?I9 ?M9 ?H9
   case I9=>
    exact⟨Nat.zero_le _,rfl,by omega,fun _=>rfl⟩
   case M9=>
    refine mo ?_ (aJ (ef rfl (by exact Fit.of_eq (by rw[Nat.zero_sub,List.take_zero,List.append_nil];rfl)) (aJ (aJ (aJ (aJ (aJ (aJ (aJ (aJ (aJ (aJ (aJ dC)))))))))))))
    repeat (first|exact cH|refine bj ?_|refine cr ?_)
   case H9=>
    rintro⟨j,w3,⟨k6,m6,s6,l6,a6⟩,k8,m8,s8,l8,a8⟩ hinv
    try dsimp only at hinv
    refine kc 0 [28,26,27,24,19,16,14,13,12,10,6,0,2] 9 ?_;refine cJ (fun h31=>?_) (fun h31=>?_)
    ·refine kc 7 [24,16,10,0,2] 0 ?_;obtain rfl:j=cs.length:=(by omega);have hOut:=hinv.2.2.2;have hOutz:=hinv.2.2.1;refine gc 2 ?_;refine o1 (cG ?_);refine ko 4 [30,24,10,0,2] 0 ?_;refine lp (ι:=Nat×Int×Int×ByteArray×List aP×List ae) (fun⟨q,k9,m9,s9,l9,a9⟩=>[(30,int ((A+1+q:Nat):Int))]) (fun⟨q,k9,m9,s9,l9,a9⟩=>[bc es w3,ba,iW ((d1+1:Nat):Int) most false pr,tO 2 0 hn hus [],eO kd sd pd k1 n1 s1 l1 a1 k2 n2 s2 l2 a2 (P:Int) cc rp k3 n3 s3 l3 a3,zO,dO kd sd pd k1 n1 s1 l1 a1 k2 n2 s2 l2 a2 (P:Int) cc,tO kq mq sq lq aq,tO 2 0 sh lh [],eO kg sg' pg u1 v1 x1 y1 z1 u2 v2 x2 y2 z2 ag cg rg u3 v3 x3 y3 z3,tO k9 m9 s9 l9 a9]) [24,10,0,2] (fun⟨q,k9,m9,s9,l9,a9⟩=>q≤az.length-(A+1)∧bt (.mk k8 m8 s8 l8 a8) ((az.drop (A+1)).take q)=.mk k9 m9 s9 l9 a9) (fun⟨q,k9,m9,s9,l9,a9⟩=>az.length-(A+1)-q) ((0,k8,m8,s8,l8,a8)) ([0,1,2,3,4,5,6,7,8,9,10]) rfl ?I10 ?M10 ?H10
     case I10=>
      exact⟨Nat.zero_le _,rfl⟩
     case M10=>
      refine mo ?_ (ef rfl (by exact Fit.of_eq (by rfl)) (aJ (aJ (aJ (aJ dC)))))
      repeat (first|exact cH|refine bj ?_|refine cr ?_)
     case H10=>
      rintro⟨q,k9,m9,s9,l9,a9⟩ hinv
      try dsimp only at hinv
      refine kc 0 [30,24,10,0,2] 9 ?_;refine cj (fun h40=>?_) (fun h40=>?_)
      ·refine kc 4 [30,24,10,0,2] 0 ?_;obtain⟨kA,mA,sA,lA,aA,hget⟩:=bK (show A+1+q<az.length by omega);have hgd:(az.drop (A+1))[q]? =some (.mk kA mA sA lA aA):=(by rw[List.getElem?_drop];exact hget);have hap:=dt (gl:=gl) k9 m9 s9 l9 a9 kA mA sA lA aA;refine gz [0,1,2] mixed ?_;refine A1 3 rfl (cu bB bH ⟨_,rfl,?_⟩ (he:=by exact(bW hget)));refine ga [4] ?_;refine A2 5 rfl (cv pt rfl rfl (hap) (bo (bo .nil)) ?_);refine A2 6 rfl (dN bw ?_);refine aZ ?_;refine ke 2 [30,24,10,0,2] 2 ?_;refine o1 (cG ?_);refine go 2 ?_;refine bk ((q+1,3,0,.empty,[],[.mk k9 m9 s9 l9 a9,.mk kA mA sA lA aA])) rfl ?_ ([0,1,2,3,4,5,6,7,8,9,10]) ?_
       ·exact ⟨⟨by omega,by rw[fg hgd,hinv.2]⟩,show az.length-(A+1)-(q+1)<az.length-(A+1)-q by omega⟩
       ·refine mo ?_ (ef rfl (by exact Fit.of_eq (by first|rfl|(congr 3;omega))) (aJ (aJ (aJ (aJ dC)))))
        repeat (first|exact cH|refine bj ?_|refine cr ?_)
      refine kc 6 [24,10,0] 0 ?_;obtain rfl:q=az.length-(A+1):=(by omega);have hV:=hinv.2;rw[List.take_of_length_le (by rw[List.length_drop];exact Nat.le_refl _)] at hV;have hVz:=cB (.mk k8 m8 s8 l8 a8) (az.drop (A+1));rw[hV] at hVz;have hdz2:=oM az (A+1);have hdl2:(az.drop (A+1)).length=az.length-(A+1):=List.length_drop;refine gc 2 ?_;refine oc (T:=fun _=>False) (bJ vE rfl rfl rfl rfl (ld _ k9 m9 s9 l9 a9 20000 (Nat.le_refl _) (by omega) (by omega) (by omega)) (bo (an .nil)) (fun d hd=>?_));obtain⟨r,rfl,hr1,hr2,hr3⟩:=hd;refine go 11 ?_;refine' oo (yt:=237) (d:=235) 2 ?a4 ?b4 ?_
      case a4=>
       intro hc hK;refine go 2 ?_;exact hK [_,_] rfl rfl
      case b4=>
       intro _ hK;refine go 2 ?_;exact hK [_,_] rfl
      refine ko 5 [24,10] 8 ?_;refine eo (.bZ [(ae.mk k9 m9 s9 l9 a9).d,.v (.bool true)]) [0,1,2] [bc es (w3||decide (20000<r)),ba,iW ((d1+1:Nat):Int) most false pr] ?_
      ·refine ⟨.mk k9 m9 s9 l9 a9,true,d1+1,false,_,rfl,rfl,by omega,by omega,fun hw=>.inr (.inr ⟨rfl,rfl,?_⟩)⟩;simp only[Bool.or_eq_false_iff,decide_eq_false_iff_not,Int.not_lt] at hw;have hrr:=hr3 hw.2;have hIT:n9 e (.mk 2 0 hn hus []) az cs jf (.mk kK mK sK lK aK) lh=.mk k9 m9 s9 l9 a9:=(by
        unfold n9;rw[heP,heN,heC,hePs,hA,←hTY,List.getD_eq_getElem?_getD,hgm,Option.getD_some,hO,←hOut hw.1,hV])
       refine .inr ⟨_,by rw[hA];exact hgx,.inr ⟨_,d1,hr,.inr ⟨jf,.mk kK mK sK lK aK,lh,by rw[hS];exact hct,.inr ⟨hlt,by rw[hePs,←hTY];exact hTz,?_,?_⟩⟩⟩⟩
       ·rw [hS];simp only;rw[hIT];omega
       ·rw [hS];simp only;rw[hIT]
    refine kc 5 [28,26,27,24,19,16,14,13,12,10,6,0,2] 0 ?_;obtain⟨m9,s9,l9,⟨kA,mA,sA,lA,aA⟩,⟨kB,mB,sB,lB,aB⟩,he1,he2,he3,he4⟩:=ig j (.mk k5 m5 s5 l5 a5) (by omega);have hxg:=IL cs.length (.mk k5 m5 s5 l5 a5) j (by omega) (by omega) he1;have hez:=dH j (.mk k5 m5 s5 l5 a5);rw[he1] at hez;simp only[ae.size,aj] at hez hTz;rw[hinv.2.1] at he1;simp only[ae.mk.injEq] at he1;obtain⟨rfl,rfl,rfl,rfl,rfl⟩:=he1;have hXj:(gh cs.length (.mk k5 m5 s5 l5 a5)).getD j aQ=.mk kA mA sA lA aA:=(by rw[List.getD_eq_getElem?_getD,hxg];rfl);have hAW:=hXW.2 j _ hxg;obtain⟨kC,mC,sC,lC,aC,hgC⟩:=bK (show j<cs.length by omega);have hCj:cs.getD j aQ=.mk kC mC sC lC aC:=(by rw[List.getD_eq_getElem?_getD,hgC];rfl);have hCz:=bG hgC;have hgv:(az.take P++(cs.drop P).take (j-P)).length=P+min (j-P) (cs.length-P):=(by rw[List.length_append,htl,List.length_take,hdl]);have hkr:=zG (gl:=gl) sd kA mA sA lA aA (by simp only[ae.size];omega);have hg1:P≤j→aH (az.take P++(cs.drop P).take (j+1-P))=aH (az.take P++(cs.drop P).take (j-P))++[[.v (.int .i64 kC),.v (.int .i64 mC),.v (.string sC),.sl 3 (bF lC),.sl 5 (aH aC)]]:=(fun h=>by
     rw[show j+1-P=(j-P)+1 by omega,List.take_add_one,List.getElem?_drop,show P+(j-P)=j by omega,hgC,←List.append_assoc,dj];rfl)
    have hg2:¬P≤j→j+1-P=0∧j-P=0:=(fun h=>by omega);have htgl:=aO (az.take P++(cs.drop P).take (j-P));refine gz [0,1] mixed ?_;refine A1 2 rfl (cu bB bH ⟨_,rfl,?_⟩ (he:=by exact(rfl)));refine ga [3,4,5] ?_;refine A2 6 rfl (cv Nc rfl rfl (hkr) (bo (an .nil)) ?_);refine ga [7] ?_;refine aZ ?_;refine ke 2 [29,28,26,27,24,19,16,14,13,12,10,6,0,2] 6 ?_;refine' oa (yt:=177) (d:=176) 1 ?a5 ?b5 ?_
    case a5=>
     intro hc hK;refine go 1 ?_;exact hK [_] rfl rfl
    case b5=>
     intro _ hK;refine go 1 ?_;exact hK [_] rfl
    refine ko 2 [178,28,26,27,24,19,16,14,13,12,10,6,0,2] 0 ?_;refine xo (ι:=Bool×Int×Int×ByteArray×List aP×List ae) (fun⟨w4,kE,mE,sE,lE,aE⟩=>[]) (fun⟨w4,kE,mE,sE,lE,aE⟩=>[bc es w4,ba,iW ((d1+1:Nat):Int) most false pr,tO 2 0 hn hus [],eO kd sd pd k1 n1 s1 l1 a1 k2 n2 s2 l2 a2 (P:Int) cc rp k3 n3 s3 l3 a3,zO,dO kd sd pd k1 n1 s1 l1 a1 k2 n2 s2 l2 a2 (P:Int) cc,tO kq mq sq lq aq,tO 2 0 sh lh [],eO kg sg' pg u1 v1 x1 y1 z1 u2 v2 x2 y2 z2 ag cg rg u3 v3 x3 y3 z3,tO kE mE sE lE aE,tR,tO 5 m6 s6 l6 [.mk kA mA sA lA aA,.mk kB mB sB lB aB]]) [28,26,27,24,19,16,14,13,12,10,6,0,2] (fun⟨w4,kE,mE,sE,lE,aE⟩=>(ae.mk kE mE sE lE aE).size≤4000000000000+(j+1)*8796093022209∧(w4=false→(ae.mk kE mE sE lE aE)=bt (.mk k7 m7 s7 l7 a7) (vY sd (.mk 2 0 hn hus []) (az.take (P+1+cc.length)) P (az.take P) (gh cs.length (.mk k5 m5 s5 l5 a5)) cs (j+1)))) rfl ?A11 ?B11
    case A11=>
     refine cJ (fun h34=>?_) (fun h34=>?_)
     ·refine gc 1 ?_;refine bk (w3,k8,m8,s8,l8,a8) rfl ?_ [0,1,2,3,4,5,6,7,8,9,10,11,12] mz
      ·refine ⟨Nat.le_trans hinv.2.2.1 (Nat.add_le_add_left (Nat.mul_le_mul_right _ (Nat.le_succ j)) _),fun h=>?_⟩;rw[EN hXj (by rintro⟨h3,h4⟩;rcases h34 with h5|h5;omega;rw[h4] at h5;simp at h5)];exact hinv.2.2.2 h
     have hglen:(az.take P++(cs.drop P).take (j-P)).length=j:=(by omega);have hhy:=CW (gl:=gl) es w3 (sg:=eh es) (ps:=ps) (c:=c) hcc 2 0 hn hus [] (az.take (P+1+cc.length)) P kA mA sA lA aA (az.take P++(cs.drop P).take (j-P)) kC mC sC lC aC hh (fun x hx=>ha x (List.mem_of_mem_take hx)) (fun x hx=>(List.mem_append.1 hx).elim (fun h=>ha x (List.mem_of_mem_take h)) (fun h=>hqA x (List.mem_of_mem_drop (List.mem_of_mem_take h)))) (hqA _ (List.mem_of_getElem? hgC)) (hAW.up (by omega)) (by omega) (by have:=vd az (P+1+cc.length);omega) (by omega) (fun x hx=>(List.mem_append.1 hx).elim (fun h=>by obtain⟨i,hi⟩:=List.getElem?_of_mem (List.mem_of_mem_take h);have:=bG hi;omega) (fun h=>by obtain⟨i,hi⟩:=List.getElem?_of_mem (List.mem_of_mem_drop (List.mem_of_mem_take h));have:=bG hi;omega)) (by omega) (by simp only[ae.size];omega) (by omega);have hsl:(aH az).take ((P:Int)+1+((gM cc).length:Int)).toNat=aH (az.take (P+1+cc.length)):=(by rw[show(P:Int)+1+((gM cc).length:Int)=((P+1+cc.length:Nat):Int) by omega,gr]);refine gz [0,1,2,3,4] mixed ?_;refine A1 5 rfl (cG ⟨_,rfl,?_⟩);refine ga [6] ?_;refine A1 7 rfl (cG ⟨_,rfl,?_⟩);refine A1 8 rfl (fD bB bH rfl rfl rfl rfl rfl rfl (by omega) (hsl) ⟨_,rfl,?_⟩);refine ga [9,10,11] ?_;refine A1 12 rfl (cu bB bH ⟨_,rfl,?_⟩ (he:=by exact(rfl)));refine ga [13,14,15,16] ?_;refine A1 17 rfl (cu bB bH ⟨_,rfl,?_⟩ (he:=by exact(bW hgC)));refine ga [18] ?_;refine A2 19 rfl (aN Nb rfl rfl rfl rfl (hhy) [0,1] (bj (cr .nil)) rfl rfl rfl rfl (an (bo (an (an (bo (bo (bo .nil))))))) (fun s ob' hq=>?_) (fun s ob' hq=>?_));rotate_left
     ·obtain ⟨_,_,hq1,_⟩:=hq;cases hq1
     obtain⟨⟨kG,mG,sG,lG,aG⟩,w5,hq1,rfl,hGz,hGw⟩:=hq;cases hq1;refine⟨_,_,_,_,_,rfl,rfl,rfl,rfl,rfl,?_⟩;refine A2 20 rfl (cv pt rfl rfl (dt k8 m8 s8 l8 a8 kG mG sG lG aG) (bo (an .nil)) ?_);refine A2 21 rfl (dN bw ?_);refine aZ ?_;refine bk (w5,3,0,.empty,[],[.mk k8 m8 s8 l8 a8,.mk kG mG sG lG aG]) rfl ?_ [0,1,2,3,4,5,6,7,8,9,10,11,12] mz
     ·refine ⟨by have h3:=hinv.2.2.1;rw[y8];omega,fun h=>?_⟩;obtain⟨h3,h4⟩:=hGw h;rw[AT (by omega) hXj hCj (by first|exact h34.2|omega),iq,←hinv.2.2.2 h3,h4]
    case B11=>
     rintro⟨w4,kE,mE,sE,lE,aE⟩ hcut
     try dsimp only at hcut
     refine kc 0 [28,26,27,24,19,16,14,13,12,10,6,0,2] 2 ?_;have hcut0:=hcut;refine kc 6 [202,28,26,27,24,19,16,14,13,12,10,6,0,2] 0 ?_;refine xc (ι:=Unit) (fun _=>[(26,.own 11 5 (aH (az.take P++(cs.drop P).take (j+1-P))))]) [28,27,24,19,16,14,13,12,10,6,0,2] (fun _=>True) rfl ?A12 ?B12
     case A12=>
      refine cJ (fun h36=>?_) (fun h36=>?_)
      ·refine gc 1 ?_;refine bi (()) rfl ?_ ?_
       ·trivial
       ·refine mo ?_ (ef rfl (by exact Fit.of_eq (by first|(rw[hg1 (by omega)];rfl)|(rw[(hg2 (by omega)).1,(hg2 (by omega)).2];rfl))) (aJ (aJ (aJ (aJ (aJ (aJ (aJ (aJ (aJ (aJ (aJ (aJ dC)))))))))))))
        repeat (first|exact cH|refine bj ?_|refine cr ?_)
      refine gc 4 ?_;refine o1 (cu bB bH ?_ (he:=by exact(bW hgC)));refine go 1 ?_;refine oc (gD dE [.tmp 207] bw ?_);refine oc (px dE ?_);refine go 2 ?_;refine bi (()) rfl ?_ ?_
      ·trivial
      ·refine mo ?_ (ef rfl (by exact Fit.of_eq (by first|(rw[hg1 (by omega)];rfl)|(rw[(hg2 (by omega)).1,(hg2 (by omega)).2];rfl))) (aJ (aJ (aJ (aJ (aJ (aJ (aJ (aJ (aJ (aJ (aJ (aJ dC)))))))))))))
       repeat (first|exact cH|refine bj ?_|refine cr ?_)
     case B12=>
      rintro _ hcut
      try dsimp only at hcut
      refine kc 0 [26,28,27,24,19,16,14,13,12,10,6,0,2] 3 ?_;refine o1 (cu bB bH ?_ (he:=by exact(rfl)));refine ko 5 [26,28,27,24,19,16,14,13,12,10,6,0,2] 2 ?_;refine o1 (cG ?_);refine go 2 ?_;refine bk (j+1,w4,⟨kB,mB,sB,lB,aB⟩,kE,mE,sE,lE,aE) rfl ?_ [0,1,2,3,4,5,6,7,8,9,10,11,12] mz;exact⟨⟨by omega,he2,hcut0.1,hcut0.2⟩,show cs.length-(j+1)<cs.length-j by omega⟩
  ·skip
   refine A4 12 rfl (qB bw ?_);refine A2 11 rfl (aN Mk rfl rfl rfl rfl (q9 es false pd lh (by omega) (by omega) hlsz kK mK sK lK aK (by omega)) [0,1] (bj (cr .nil)) rfl rfl rfl rfl (an (bo (an (an .nil)))) (fun s ob' hq=>?_) (fun s ob' hq=>?_));rotate_left
   ·obtain ⟨_,_,hq1,_⟩:=hq;cases hq1
   obtain⟨⟨k5,m5,s5,l5,a5⟩,w2,hq1,rfl,hw2⟩:=hq;cases hq1;refine⟨_,_,_,_,_,rfl,rfl,rfl,rfl,rfl,?_⟩;refine A2 13 rfl (dN bw ?_);refine aZ ?_;refine ke 2 [27,26,24,19,16,14,13,12,10,6,0,2] 8 ?_;refine cj (fun h28=>?_) (fun h28=>?_)
   ·refine kc 0 [10] 9 ?_;refine eo (.bZ [aQ.d,.v (.bool false)]) [0,1,2] [bc es w2,ba,iW ((d1+1:Nat):Int) most false pr] ?_
    ·exact ⟨aQ,false,d1+1,false,w2,rfl,rfl,by omega,by omega,fun h=>by rw[h] at h28;cases h28⟩
   refine kc 4 [27,26,24,19,16,14,13,12,10,6,0,2] 0 ?_;have hw2':w2=false∧(ae.mk k5 m5 s5 l5 a5)=ew pd lh (.mk kK mK sK lK aK)∧(ae.mk k5 m5 s5 l5 a5).size≤20000:=(by
    rcases hw2 with⟨h3,_,h4,h5⟩|⟨h3,_⟩
    ·exact ⟨h3,h4,h5⟩
    ·rw [h3] at h28;simp at h28)
   obtain⟨rfl,hTY,hTz⟩:=hw2';have hpTY:bg (.mk k5 m5 s5 l5 a5)=cs.length:=(by rw[hTY,tu];omega);have hc20:cs.length<20001:=(by have h3:=dT _ (.mk k5 m5 s5 l5 a5) (Nat.le_refl _);omega);have hTW:Wt (eh es) ps (.mk k5 m5 s5 l5 a5) 0:=(by rw[hTY];exact hi4.IJ (by omega) hi2);have hXW:=hTW.wN cs.length (by omega);have hXl:=dV cs.length (.mk k5 m5 s5 l5 a5) (by omega);have hcsz:=br cs;refine gc 5 ?_;refine lp (ι:=Nat×Bool×(Int×Int×ByteArray×List aP×List ae)×Int×Int×ByteArray×List aP×List ae) (fun⟨j,w3,⟨k6,m6,s6,l6,a6⟩,k8,m8,s8,l8,a8⟩=>[(28,int j),(26,.own 11 5 (aH (az.take P++(cs.drop P).take (j-P))))]) (fun⟨j,w3,⟨k6,m6,s6,l6,a6⟩,k8,m8,s8,l8,a8⟩=>[bc es w3,ba,iW ((d1+1:Nat):Int) most false pr,tO 2 0 hn hus [],eO kd sd pd k1 n1 s1 l1 a1 k2 n2 s2 l2 a2 (P:Int) cc rp k3 n3 s3 l3 a3,zO,dO kd sd pd k1 n1 s1 l1 a1 k2 n2 s2 l2 a2 (P:Int) cc,tO kq mq sq lq aq,tO 2 0 sh lh [],eO kg sg' pg u1 v1 x1 y1 z1 u2 v2 x2 y2 z2 ag cg rg u3 v3 x3 y3 z3,tO k8 m8 s8 l8 a8,tR,tO k6 m6 s6 l6 a6]) [27,24,19,16,14,13,12,10,6,0,2] (fun⟨j,w3,⟨k6,m6,s6,l6,a6⟩,k8,m8,s8,l8,a8⟩=>j≤cs.length∧er j (.mk k5 m5 s5 l5 a5)=.mk k6 m6 s6 l6 a6∧(ae.mk k8 m8 s8 l8 a8).size≤4000000000000+j*8796093022209∧(w3=false→(ae.mk k8 m8 s8 l8 a8)=bt (.mk k7 m7 s7 l7 a7) (vY sd (.mk 2 0 hn hus []) (az.take (P+1+cc.length)) P (az.take P) (gh cs.length (.mk k5 m5 s5 l5 a5)) cs j))) (fun⟨j,w3,⟨k6,m6,s6,l6,a6⟩,k8,m8,s8,l8,a8⟩=>cs.length-j) ((0,false,⟨k5,m5,s5,l5,a5⟩,k7,m7,s7,l7,a7)) ([0,1,2,3,4,5,6,7,8,9,10,11,12]) rfl ?I13 ?M13 ?H13
   case I13=>
    exact⟨Nat.zero_le _,rfl,by omega,fun _=>rfl⟩
   case M13=>
    refine mo ?_ (aJ (ef rfl (by exact Fit.of_eq (by rw[Nat.zero_sub,List.take_zero,List.append_nil];rfl)) (aJ (aJ (aJ (aJ (aJ (aJ (aJ (aJ (aJ (aJ (aJ dC)))))))))))))
    repeat (first|exact cH|refine bj ?_|refine cr ?_)
   case H13=>
    rintro⟨j,w3,⟨k6,m6,s6,l6,a6⟩,k8,m8,s8,l8,a8⟩ hinv
    try dsimp only at hinv
    refine kc 0 [28,26,27,24,19,16,14,13,12,10,6,0,2] 9 ?_;refine cJ (fun h31=>?_) (fun h31=>?_)
    ·refine kc 7 [24,16,10,0,2] 0 ?_;obtain rfl:j=cs.length:=(by omega);have hOut:=hinv.2.2.2;have hOutz:=hinv.2.2.1;refine gc 2 ?_;refine o1 (cG ?_);refine ko 4 [30,24,10,0,2] 0 ?_;refine lp (ι:=Nat×Int×Int×ByteArray×List aP×List ae) (fun⟨q,k9,m9,s9,l9,a9⟩=>[(30,int ((A+1+q:Nat):Int))]) (fun⟨q,k9,m9,s9,l9,a9⟩=>[bc es w3,ba,iW ((d1+1:Nat):Int) most false pr,tO 2 0 hn hus [],eO kd sd pd k1 n1 s1 l1 a1 k2 n2 s2 l2 a2 (P:Int) cc rp k3 n3 s3 l3 a3,zO,dO kd sd pd k1 n1 s1 l1 a1 k2 n2 s2 l2 a2 (P:Int) cc,tO kq mq sq lq aq,tO 2 0 sh lh [],eO kg sg' pg u1 v1 x1 y1 z1 u2 v2 x2 y2 z2 ag cg rg u3 v3 x3 y3 z3,tO k9 m9 s9 l9 a9]) [24,10,0,2] (fun⟨q,k9,m9,s9,l9,a9⟩=>q≤az.length-(A+1)∧bt (.mk k8 m8 s8 l8 a8) ((az.drop (A+1)).take q)=.mk k9 m9 s9 l9 a9) (fun⟨q,k9,m9,s9,l9,a9⟩=>az.length-(A+1)-q) ((0,k8,m8,s8,l8,a8)) ([0,1,2,3,4,5,6,7,8,9,10]) rfl ?I14 ?M14 ?H14
     case I14=>
      exact⟨Nat.zero_le _,rfl⟩
     case M14=>
      refine mo ?_ (ef rfl (by exact Fit.of_eq (by rfl)) (aJ (aJ (aJ (aJ dC)))))
      repeat (first|exact cH|refine bj ?_|refine cr ?_)
     case H14=>
      rintro⟨q,k9,m9,s9,l9,a9⟩ hinv
      try dsimp only at hinv
      refine kc 0 [30,24,10,0,2] 9 ?_;refine cj (fun h40=>?_) (fun h40=>?_)
      ·refine kc 4 [30,24,10,0,2] 0 ?_;obtain⟨kA,mA,sA,lA,aA,hget⟩:=bK (show A+1+q<az.length by omega);have hgd:(az.drop (A+1))[q]? =some (.mk kA mA sA lA aA):=(by rw[List.getElem?_drop];exact hget);have hap:=dt (gl:=gl) k9 m9 s9 l9 a9 kA mA sA lA aA;refine gz [0,1,2] mixed ?_;refine A1 3 rfl (cu bB bH ⟨_,rfl,?_⟩ (he:=by exact(bW hget)));refine ga [4] ?_;refine A2 5 rfl (cv pt rfl rfl (hap) (bo (bo .nil)) ?_);refine A2 6 rfl (dN bw ?_);refine aZ ?_;refine ke 2 [30,24,10,0,2] 2 ?_;refine o1 (cG ?_);refine go 2 ?_;refine bk ((q+1,3,0,.empty,[],[.mk k9 m9 s9 l9 a9,.mk kA mA sA lA aA])) rfl ?_ ([0,1,2,3,4,5,6,7,8,9,10]) ?_
       ·exact ⟨⟨by omega,by rw[fg hgd,hinv.2]⟩,show az.length-(A+1)-(q+1)<az.length-(A+1)-q by omega⟩
       ·refine mo ?_ (ef rfl (by exact Fit.of_eq (by first|rfl|(congr 3;omega))) (aJ (aJ (aJ (aJ dC)))))
        repeat (first|exact cH|refine bj ?_|refine cr ?_)
      refine kc 6 [24,10,0] 0 ?_;obtain rfl:q=az.length-(A+1):=(by omega);have hV:=hinv.2;rw[List.take_of_length_le (by rw[List.length_drop];exact Nat.le_refl _)] at hV;have hVz:=cB (.mk k8 m8 s8 l8 a8) (az.drop (A+1));rw[hV] at hVz;have hdz2:=oM az (A+1);have hdl2:(az.drop (A+1)).length=az.length-(A+1):=List.length_drop;refine gc 2 ?_;refine oc (T:=fun _=>False) (bJ vE rfl rfl rfl rfl (ld _ k9 m9 s9 l9 a9 20000 (Nat.le_refl _) (by omega) (by omega) (by omega)) (bo (an .nil)) (fun d hd=>?_));obtain⟨r,rfl,hr1,hr2,hr3⟩:=hd;refine go 11 ?_;refine' oo (yt:=237) (d:=235) 2 ?a6 ?b6 ?_
      case a6=>
       intro hc hK;refine go 2 ?_;exact hK [_,_] rfl rfl
      case b6=>
       intro _ hK;refine go 2 ?_;exact hK [_,_] rfl
      refine ko 5 [24,10] 8 ?_;refine eo (.bZ [(ae.mk k9 m9 s9 l9 a9).d,.v (.bool true)]) [0,1,2] [bc es (w3||decide (20000<r)),ba,iW ((d1+1:Nat):Int) most false pr] ?_
      ·refine ⟨.mk k9 m9 s9 l9 a9,true,d1+1,false,_,rfl,rfl,by omega,by omega,fun hw=>.inr (.inr ⟨rfl,rfl,?_⟩)⟩;simp only[Bool.or_eq_false_iff,decide_eq_false_iff_not,Int.not_lt] at hw;have hrr:=hr3 hw.2;have hIT:n9 e (.mk 2 0 hn hus []) az cs jf (.mk kK mK sK lK aK) lh=.mk k9 m9 s9 l9 a9:=(by
        unfold n9;rw[heP,heN,heC,hePs,hA,←hTY,List.getD_eq_getElem?_getD,hgm,Option.getD_some,hO,←hOut hw.1,hV])
       refine .inr ⟨_,by rw[hA];exact hgx,.inr ⟨_,d1,hr,.inr ⟨jf,.mk kK mK sK lK aK,lh,by rw[hS];exact hct,.inr ⟨hlt,by rw[hePs,←hTY];exact hTz,?_,?_⟩⟩⟩⟩
       ·rw [hS];simp only;rw[hIT];omega
       ·rw [hS];simp only;rw[hIT]
    refine kc 5 [28,26,27,24,19,16,14,13,12,10,6,0,2] 0 ?_;obtain⟨m9,s9,l9,⟨kA,mA,sA,lA,aA⟩,⟨kB,mB,sB,lB,aB⟩,he1,he2,he3,he4⟩:=ig j (.mk k5 m5 s5 l5 a5) (by omega);have hxg:=IL cs.length (.mk k5 m5 s5 l5 a5) j (by omega) (by omega) he1;have hez:=dH j (.mk k5 m5 s5 l5 a5);rw[he1] at hez;simp only[ae.size,aj] at hez hTz;rw[hinv.2.1] at he1;simp only[ae.mk.injEq] at he1;obtain⟨rfl,rfl,rfl,rfl,rfl⟩:=he1;have hXj:(gh cs.length (.mk k5 m5 s5 l5 a5)).getD j aQ=.mk kA mA sA lA aA:=(by rw[List.getD_eq_getElem?_getD,hxg];rfl);have hAW:=hXW.2 j _ hxg;obtain⟨kC,mC,sC,lC,aC,hgC⟩:=bK (show j<cs.length by omega);have hCj:cs.getD j aQ=.mk kC mC sC lC aC:=(by rw[List.getD_eq_getElem?_getD,hgC];rfl);have hCz:=bG hgC;have hgv:(az.take P++(cs.drop P).take (j-P)).length=P+min (j-P) (cs.length-P):=(by rw[List.length_append,htl,List.length_take,hdl]);have hkr:=zG (gl:=gl) sd kA mA sA lA aA (by simp only[ae.size];omega);have hg1:P≤j→aH (az.take P++(cs.drop P).take (j+1-P))=aH (az.take P++(cs.drop P).take (j-P))++[[.v (.int .i64 kC),.v (.int .i64 mC),.v (.string sC),.sl 3 (bF lC),.sl 5 (aH aC)]]:=(fun h=>by
     rw[show j+1-P=(j-P)+1 by omega,List.take_add_one,List.getElem?_drop,show P+(j-P)=j by omega,hgC,←List.append_assoc,dj];rfl)
    have hg2:¬P≤j→j+1-P=0∧j-P=0:=(fun h=>by omega);have htgl:=aO (az.take P++(cs.drop P).take (j-P));refine gz [0,1] mixed ?_;refine A1 2 rfl (cu bB bH ⟨_,rfl,?_⟩ (he:=by exact(rfl)));refine ga [3,4,5] ?_;refine A2 6 rfl (cv Nc rfl rfl (hkr) (bo (an .nil)) ?_);refine ga [7] ?_;refine aZ ?_;refine ke 2 [29,28,26,27,24,19,16,14,13,12,10,6,0,2] 6 ?_;refine' oa (yt:=177) (d:=176) 1 ?a7 ?b7 ?_
    case a7=>
     intro hc hK;refine go 1 ?_;exact hK [_] rfl rfl
    case b7=>
     intro _ hK;refine go 1 ?_;exact hK [_] rfl
    refine ko 2 [178,28,26,27,24,19,16,14,13,12,10,6,0,2] 0 ?_;refine xo (ι:=Bool×Int×Int×ByteArray×List aP×List ae) (fun⟨w4,kE,mE,sE,lE,aE⟩=>[]) (fun⟨w4,kE,mE,sE,lE,aE⟩=>[bc es w4,ba,iW ((d1+1:Nat):Int) most false pr,tO 2 0 hn hus [],eO kd sd pd k1 n1 s1 l1 a1 k2 n2 s2 l2 a2 (P:Int) cc rp k3 n3 s3 l3 a3,zO,dO kd sd pd k1 n1 s1 l1 a1 k2 n2 s2 l2 a2 (P:Int) cc,tO kq mq sq lq aq,tO 2 0 sh lh [],eO kg sg' pg u1 v1 x1 y1 z1 u2 v2 x2 y2 z2 ag cg rg u3 v3 x3 y3 z3,tO kE mE sE lE aE,tR,tO 5 m6 s6 l6 [.mk kA mA sA lA aA,.mk kB mB sB lB aB]]) [28,26,27,24,19,16,14,13,12,10,6,0,2] (fun⟨w4,kE,mE,sE,lE,aE⟩=>(ae.mk kE mE sE lE aE).size≤4000000000000+(j+1)*8796093022209∧(w4=false→(ae.mk kE mE sE lE aE)=bt (.mk k7 m7 s7 l7 a7) (vY sd (.mk 2 0 hn hus []) (az.take (P+1+cc.length)) P (az.take P) (gh cs.length (.mk k5 m5 s5 l5 a5)) cs (j+1)))) rfl ?A15 ?B15
    case A15=>
     refine cJ (fun h34=>?_) (fun h34=>?_)
     ·refine gc 1 ?_;refine bk (w3,k8,m8,s8,l8,a8) rfl ?_ [0,1,2,3,4,5,6,7,8,9,10,11,12] mz
      ·refine ⟨Nat.le_trans hinv.2.2.1 (Nat.add_le_add_left (Nat.mul_le_mul_right _ (Nat.le_succ j)) _),fun h=>?_⟩;rw[EN hXj (by rintro⟨h3,h4⟩;rcases h34 with h5|h5;omega;rw[h4] at h5;simp at h5)];exact hinv.2.2.2 h
     have hglen:(az.take P++(cs.drop P).take (j-P)).length=j:=(by omega);have hhy:=CW (gl:=gl) es w3 (sg:=eh es) (ps:=ps) (c:=c) hcc 2 0 hn hus [] (az.take (P+1+cc.length)) P kA mA sA lA aA (az.take P++(cs.drop P).take (j-P)) kC mC sC lC aC hh (fun x hx=>ha x (List.mem_of_mem_take hx)) (fun x hx=>(List.mem_append.1 hx).elim (fun h=>ha x (List.mem_of_mem_take h)) (fun h=>hqA x (List.mem_of_mem_drop (List.mem_of_mem_take h)))) (hqA _ (List.mem_of_getElem? hgC)) (hAW.up (by omega)) (by omega) (by have:=vd az (P+1+cc.length);omega) (by omega) (fun x hx=>(List.mem_append.1 hx).elim (fun h=>by obtain⟨i,hi⟩:=List.getElem?_of_mem (List.mem_of_mem_take h);have:=bG hi;omega) (fun h=>by obtain⟨i,hi⟩:=List.getElem?_of_mem (List.mem_of_mem_drop (List.mem_of_mem_take h));have:=bG hi;omega)) (by omega) (by simp only[ae.size];omega) (by omega);have hsl:(aH az).take ((P:Int)+1+((gM cc).length:Int)).toNat=aH (az.take (P+1+cc.length)):=(by rw[show(P:Int)+1+((gM cc).length:Int)=((P+1+cc.length:Nat):Int) by omega,gr]);refine gz [0,1,2,3,4] mixed ?_;refine A1 5 rfl (cG ⟨_,rfl,?_⟩);refine ga [6] ?_;refine A1 7 rfl (cG ⟨_,rfl,?_⟩);refine A1 8 rfl (fD bB bH rfl rfl rfl rfl rfl rfl (by omega) (hsl) ⟨_,rfl,?_⟩);refine ga [9,10,11] ?_;refine A1 12 rfl (cu bB bH ⟨_,rfl,?_⟩ (he:=by exact(rfl)));refine ga [13,14,15,16] ?_;refine A1 17 rfl (cu bB bH ⟨_,rfl,?_⟩ (he:=by exact(bW hgC)));refine ga [18] ?_;refine A2 19 rfl (aN Nb rfl rfl rfl rfl (hhy) [0,1] (bj (cr .nil)) rfl rfl rfl rfl (an (bo (an (an (bo (bo (bo .nil))))))) (fun s ob' hq=>?_) (fun s ob' hq=>?_));rotate_left
     ·obtain ⟨_,_,hq1,_⟩:=hq;cases hq1
     obtain⟨⟨kG,mG,sG,lG,aG⟩,w5,hq1,rfl,hGz,hGw⟩:=hq;cases hq1;refine⟨_,_,_,_,_,rfl,rfl,rfl,rfl,rfl,?_⟩;refine A2 20 rfl (cv pt rfl rfl (dt k8 m8 s8 l8 a8 kG mG sG lG aG) (bo (an .nil)) ?_);refine A2 21 rfl (dN bw ?_);refine aZ ?_;refine bk (w5,3,0,.empty,[],[.mk k8 m8 s8 l8 a8,.mk kG mG sG lG aG]) rfl ?_ [0,1,2,3,4,5,6,7,8,9,10,11,12] mz
     ·refine ⟨by have h3:=hinv.2.2.1;rw[y8];omega,fun h=>?_⟩;obtain⟨h3,h4⟩:=hGw h;rw[AT (by omega) hXj hCj (by first|exact h34.2|omega),iq,←hinv.2.2.2 h3,h4]
    case B15=>
     rintro⟨w4,kE,mE,sE,lE,aE⟩ hcut
     try dsimp only at hcut
     refine kc 0 [28,26,27,24,19,16,14,13,12,10,6,0,2] 2 ?_;have hcut0:=hcut;refine kc 6 [202,28,26,27,24,19,16,14,13,12,10,6,0,2] 0 ?_;refine xc (ι:=Unit) (fun _=>[(26,.own 11 5 (aH (az.take P++(cs.drop P).take (j+1-P))))]) [28,27,24,19,16,14,13,12,10,6,0,2] (fun _=>True) rfl ?A16 ?B16
     case A16=>
      refine cJ (fun h36=>?_) (fun h36=>?_)
      ·refine gc 1 ?_;refine bi (()) rfl ?_ ?_
       ·trivial
       ·refine mo ?_ (ef rfl (by exact Fit.of_eq (by first|(rw[hg1 (by omega)];rfl)|(rw[(hg2 (by omega)).1,(hg2 (by omega)).2];rfl))) (aJ (aJ (aJ (aJ (aJ (aJ (aJ (aJ (aJ (aJ (aJ (aJ dC)))))))))))))
        repeat (first|exact cH|refine bj ?_|refine cr ?_)
      refine gc 4 ?_;refine o1 (cu bB bH ?_ (he:=by exact(bW hgC)));refine go 1 ?_;refine oc (gD dE [.tmp 207] bw ?_);refine oc (px dE ?_);refine go 2 ?_;refine bi (()) rfl ?_ ?_
      ·trivial
      ·refine mo ?_ (ef rfl (by exact Fit.of_eq (by first|(rw[hg1 (by omega)];rfl)|(rw[(hg2 (by omega)).1,(hg2 (by omega)).2];rfl))) (aJ (aJ (aJ (aJ (aJ (aJ (aJ (aJ (aJ (aJ (aJ (aJ dC)))))))))))))
       repeat (first|exact cH|refine bj ?_|refine cr ?_)
     case B16=>
      rintro _ hcut
      try dsimp only at hcut
      refine kc 0 [26,28,27,24,19,16,14,13,12,10,6,0,2] 3 ?_;refine o1 (cu bB bH ?_ (he:=by exact(rfl)));refine ko 5 [26,28,27,24,19,16,14,13,12,10,6,0,2] 2 ?_;refine o1 (cG ?_);refine go 2 ?_;refine bk (j+1,w4,⟨kB,mB,sB,lB,aB⟩,kE,mE,sE,lE,aE) rfl ?_ [0,1,2,3,4,5,6,7,8,9,10,11,12] mz;exact⟨⟨by omega,he2,hcut0.1,hcut0.2⟩,show cs.length-(j+1)<cs.length-j by omega⟩
end
section
open Go Go.Vd Go.RowKit
attribute [local irreducible] bu bA di ak bL cU
variable {g gl:Nat→List D}
variable {es:List cy} {ps:List ByteArray} {c:Int} {most d d':Nat} {u:ae}
theorem KU(hE:dg es)(hc:0≤c){n:Nat}{e:cy}(he:e∈es)(hk:e.d.k=3){h:ae}{az:List ae}(hH:Wt (eh es) ps h c)(hA:∀x∈az,Wt (eh es) ps x c)(hd:d≤most)(h5:RI es most (RW es most n) e h az d (.step u d')):
 Wt (eh es) ps u c∧d<d'∧d'≤most∧u.size≤20000:=by
 rcases h5 with⟨_,h6⟩|⟨x,g1,⟨_,h6⟩|⟨mj,d1,g2,⟨_,h6⟩|⟨i,cty,us2,g3,⟨_,h6⟩|⟨g4,g5,g6,h6⟩⟩⟩⟩
 ·cases h6
 ·cases h6
 ·cases h6
 ·cases h6
 ·cases h6;obtain⟨q1,q2,q3,q4⟩:=yd hE hc n g2 hd (hA x (List.mem_of_getElem? g1));obtain⟨_,qH,qA,_⟩:=Wt.spine _ (Nat.le_refl _) q1;obtain⟨w1,w2,w3,w4,w5,w6,w7⟩:=re hE he qH g3;have hI:=Ga (es:=es) hc (hE.xP _ he) hk hH hA qA w2 (by omega) w4 w6 (List.getElem?_eq_some_iff.1 g1).1 w1;exact⟨hI,by omega,by omega,g6⟩
structure Bn (es:List cy) (ps:List ByteArray) (c:Int) (most N:Nat) (t0:ae) (d0 q:Nat) (w t:Bool) (d:Nat) (cur:ae):Prop where
 qn:q≤N
 dl:d0≤d
 dm:d≤most
 ok:w=false→t=false∧Wt (eh es) ps cur c∧cur.size+30000*(most-d)<q∧cur.size+30000*(most-d)≤1000000000000∧∀o,RW es most q cur d o→RW es most N t0 d0 o
variable {N:Nat}
theorem Bn.step{t0:ae}{d0 q:Nat}{w2 t2:Bool}{cur:ae}(h:Bn es ps c most N t0 d0 (q+1) false false d cur)(h1:d<d'∨w2=true)(h3:d≤d')(h2:d'≤most)
 (hu:w2=false→t2=false∧Wt (eh es) ps u c∧u.size≤cur.size+20000∧∀o,RW es most q u d' o→RW es most (q+1) cur d o):Bn es ps c most N t0 d0 q w2 t2 d' u:=by
 obtain⟨_,hw,g1,g2,g3⟩:=h.ok rfl;have:=h.qn;have:=h.dl;have:=h.dm;refine⟨by omega,by omega,h2,fun e=>?_⟩;obtain⟨e1,e2,e3,e4⟩:=hu e;have h1:d<d':=h1.resolve_right (by rw[e];decide);exact⟨e1,e2,by omega,by omega,fun o ho=>g3 o (e4 o ho)⟩
set_option maxHeartbeats 1600000 in
theorem GY(hE:dg es)(hcc:0≤c∧c≤1099511627776)(hm:most≤1000000)(ih:∀n,n<N→GP gl es ps c most n):GP gl es ps c most N:=by
 intro k m s ls args d0 pr hdm0 hz0 hz1 hw0;obtain⟨T0,hT0⟩:∃x,x=ae.mk k m s ls args:=⟨_,rfl⟩;rw[← hT0] at hz0 hz1 hw0;rw[show KO es most N (.mk k m s ls args) d0 pr=KO es most N T0 d0 pr by rw[hT0]];refine bS Tryz.func51 Tryz.ntmps51 3 ?_;refine kc 8 [6,4,0,2] 0 ?_;refine lp (ι:=Nat×Bool×Bool×Nat×Int×Int×ByteArray×List aP×List ae) (fun⟨q,w1,t1,d1,k1,m1,s1,l1,a1⟩=>[]) (fun⟨q,w1,t1,d1,k1,m1,s1,l1,a1⟩=>[bc es w1,ba,iW d1 most t1 pr,tO k1 m1 s1 l1 a1,zO]) [6,4,0,2] (fun⟨q,w1,t1,d1,k1,m1,s1,l1,a1⟩=>Bn es ps c most N T0 d0 q w1 t1 d1 (.mk k1 m1 s1 l1 a1)) (fun⟨q,w1,t1,d1,k1,m1,s1,l1,a1⟩=>q) ((N,false,false,d0,k,m,s,ls,args)) ([0,1,2,3,4]) rfl ?I4 ?M4 ?H4
 case I4=>
  show Bn es ps c most N T0 d0 N false false d0 (ae.mk k m s ls args);rw[← hT0];exact⟨Nat.le_refl _,Nat.le_refl _,hdm0,fun _=>⟨rfl,hw0,hz0,hz1,fun _ h=>h⟩⟩
 case M4=>
  exact mz
 case H4=>
  rintro⟨q,w1,t1,d1,k1,m1,s1,l1,a1⟩ hinv
  try dsimp only at hinv
  refine kc 0 [6,4,0,2] 9 ?_;refine' oa (yt:=27) (d:=22) 5 ?a1 ?b1 ?_
  case a1=>
   intro hc hK;refine go 5 ?_;exact hK [_,_,_,_,_] rfl rfl
  case b1=>
   intro _ hK;refine go 5 ?_;exact hK [_,_,_,_,_] rfl
  refine go 2 ?_;refine cJ (fun h1=>?_) (fun h1=>?_)
  ·refine kc 5 [6,4] 7 ?_;refine eo ((ae.mk k1 m1 s1 l1 a1).d) [0,1,2] [bc es w1,ba,iW d1 most t1 pr] ?_
   ·refine ⟨.mk k1 m1 s1 l1 a1,d1,t1,w1,rfl,rfl,hinv.dl,hinv.dm,fun h=>?_⟩;have h3:=(hinv.ok h).1;rw[h,h3] at h1;simp at h1
  refine kc 4 [6,4,0,2] 0 ?_;have ht1:t1=false:=(by cases t1<;>first|rfl|simp at h1);have hw1:w1=false:=(by cases w1<;>first|rfl|simp at h1);subst ht1 hw1;obtain⟨_,hWt,hg1,hg2,hRR⟩:=hinv.ok rfl;have hd1:=hinv.dl;have hdm:=hinv.dm;have hqn:=hinv.qn;obtain⟨q,rfl⟩:∃q',q=q'+1:=⟨q-1,by omega⟩;obtain⟨hok,hH,hA,hsp⟩:=Wt.spine _ (Nat.le_refl _) hWt;have hspn:=eY (gl:=gl) k1 m1 s1 l1 a1 hok (by omega);have hz:=kn hWt;obtain⟨cur,hcur⟩:∃x,x=ae.mk k1 m1 s1 l1 a1:=⟨_,rfl⟩;rw[← hcur] at hspn hok hH hA hz hsp hWt hg1 hg2 hRR hinv;rcases hS:bf cur with⟨⟨kh,mh,sh,lh,ah⟩,az⟩;rw[hS] at hspn hH hA hz hsp;dsimp only at hspn hH hA hz hsp;rw[hcur] at hspn;have hal:=aO az;have has:=br az;have hll:=bV lh;have hstuck:DY es (.mk kh mh sh lh ah) az→RW es most (q+1) cur d1 (.ok cur d1):=fun h=>.inr (.inr (.inr (.inr ⟨by rw[hS];exact h,rfl⟩)))
  refine gc 2 ?_;refine oc (cv yM rfl rfl (hspn) (bo .nil) ?_);refine ko 15 [35,8,7,6,4,0,2] 0 ?_;refine xo (ι:=Bool×Bool×Nat) (fun⟨w3,t3,d3⟩=>[]) (fun⟨w3,t3,d3⟩=>[bc es w3,ba,iW d3 most t3 pr,tO k1 m1 s1 l1 a1,zO]) [6,4] (fun⟨w3,t3,d3⟩=>d1≤d3∧d3≤most∧(w3=false→(t3=true∧RW es most (q+1) cur d1 .cI)∨(t3=false∧RW es most (q+1) cur d1 (.ok cur d3)))) rfl ?A5 ?B5
  case A5=>
   refine gc 7 ?_;refine cj (fun h4=>?_) (fun h4=>?_)
   ·refine gc 8 ?_;refine cj (fun h5=>?_) (fun h5=>?_)
    ·refine kc 0 [6,4] 14 ?_;refine eo ((ae.mk k1 m1 s1 l1 a1).d) [0,1,2] [bc es false,ba,iW d1 most false pr] ?_
     ·refine ⟨.mk k1 m1 s1 l1 a1,d1,false,false,rfl,rfl,hd1,hdm,fun _=>.inr ⟨rfl,?_⟩⟩;obtain rfl:az=[]:=List.eq_nil_of_length_eq_zero (by omega);rw[← hcur];refine hRR _ (hstuck ⟨fun h=>h.2 rfl,fun h=>?_,fun s us h=>?_⟩)
      ·have h3:kh=6:=h;omega
      ·cases h;omega
    refine kc 2 [8,7,6,4,0,2] 3 ?_;refine oc (aN Mg rfl rfl rfl rfl (oG d1 most false pr (by omega)) [2] (bj .nil) rfl rfl rfl rfl (an .nil) (fun s ob' hq=>?_) (fun s ob' hq=>?_));rotate_left
    ·obtain ⟨_,_,_,hq1,_⟩:=hq;cases hq1
    obtain⟨ok,d2,t2,hq1,rfl,hst⟩:=hq;cases hq1;refine⟨_,_,_,_,_,rfl,rfl,rfl,rfl,rfl,?_⟩;refine go 10 ?_;refine cj (fun h8=>?_) (fun h8=>?_)
    ·refine kc 0 [6,4] 14 ?_;refine eo ((ae.mk k1 m1 s1 l1 a1).d) [0,1,2] [bc es false,ba,iW d2 most t2 pr] ?_
     ·obtain rfl:kh=4:=(by omega);obtain⟨A,b,rfl,rfl,rfl,rfl,_,_⟩:=hH.two (.inr (.inl rfl));obtain⟨x,r,rfl⟩:∃x r,az=x::r:=(by cases az with|nil=>exact absurd rfl h5|cons x r=>exact⟨x,r,rfl⟩);rcases hst with⟨h3,h4',h5',h6⟩|⟨h3,_⟩
      ·exact ⟨.mk k1 m1 s1 l1 a1,d2,t2,false,rfl,rfl,by omega,by omega,fun _=>.inl ⟨h6,hRR _ (.inl ⟨A,b,x,r,by rw[hS],by rw[hS],.inl ⟨h4',rfl⟩⟩)⟩⟩
      ·rw [h3] at h8;simp at h8
    refine kc 3 [8,7,6,4,0,2] 0 ?_;have hst':d1<most∧d2=d1+1∧t2=false:=(by
     rcases hst with⟨h3,_⟩|⟨_,h4',h5',h6⟩
     ·rw [h3] at h8;simp at h8
     ·exact ⟨h4',h5',h6⟩)
    obtain⟨hlt,hd2,ht2⟩:=hst';obtain rfl:kh=4:=(by omega);obtain⟨⟨kA,mA,sA,lA,aA⟩,⟨kb,mb,sb,lb,ab⟩,rfl,rfl,rfl,rfl,hA1,hB1⟩:=hH.two (.inr (.inl rfl));rw[if_neg (by decide)] at hB1;obtain⟨⟨kx,mx,sx,lx,ax⟩,r,rfl⟩:∃x r,az=x::r:=(by cases az with|nil=>exact absurd rfl h5|cons x r=>exact⟨x,r,rfl⟩);have hX1:=hA _ List.mem_cons_self;have hzz:=hz;rw[show(ae.mk 4 0 .empty [] [.mk kA mA sA lA aA,.mk kb mb sb lb ab]).size=1+0+((ae.mk kA mA sA lA aA).size+((ae.mk kb mb sb lb ab).size+0)) from rfl,show aj (.mk kx mx sx lx ax::r)=(ae.mk kx mx sx lx ax).size+aj r from rfl,List.length_cons] at hzz;have hrl:=br r;refine gz [0,1,2] mixed ?_;refine A1 3 rfl (cu bB bH ⟨_,rfl,?_⟩ (he:=by exact(rfl)));refine ga [4,5] ?_;refine A1 6 rfl (cu bB bH ⟨_,rfl,?_⟩ (he:=by exact(rfl)));refine ga [7,9] ?_;refine A1 10 rfl (jH bB bH rfl rfl rfl rfl rfl rfl (by omega) (rfl) ⟨_,rfl,?_⟩);refine A2 8 rfl (aN Fo rfl rfl rfl rfl (oy es false (B:=4398046511104) (B':=4398046511104) (by omega) (by omega) kb mb sb lb ab kx mx sx lx ax (by omega) (by omega) (hB1.sh (by omega)) (hX1.sh (by omega))) [0,1] (bj (cr .nil)) rfl rfl rfl rfl (an (bo (bo .nil))) (fun s ob' hq=>?_) (fun s ob' hq=>?_));rotate_left
    ·obtain ⟨_,_,hq1,_⟩:=hq;cases hq1
    obtain⟨⟨k2,m2,s2,l2,a2⟩,w2,hq1,rfl,hw2⟩:=hq;cases hq1;obtain⟨kU,mU,sU,lU,aU,hU⟩:=ae.case (bt (.mk k2 m2 s2 l2 a2) r)
    have hap:=pY (gl:=gl) k2 m2 s2 l2 a2 r (by omega);rw[hU] at hap;have hnx:Bn es ps c most N T0 d0 q w2 t2 d2 (.mk kU mU sU lU aU):=(by
     rw[← hU];refine hinv.step (.inl (by omega)) (by omega) (by omega) fun hw=>?_
     rcases hw2 with⟨_,_,e1,e2⟩|⟨e1,_⟩
     ·refine ⟨ht2,Wt.apply (by rw[e1];exact Wt.sub hcc.1 hB1 hX1) fun x hx=>hA x (List.mem_cons_of_mem _ hx),by rw[cB];omega,fun o ho=>?_⟩;exact .inl ⟨.mk kA mA sA lA aA,.mk kb mb sb lb ab,.mk kx mx sx lx ax,r,by rw[hS],by rw[hS],.inr ⟨hlt,by rw[← e1];exact e2,by rw[← e1,←hd2];exact ho⟩⟩
     ·rw [e1] at hw;cases hw)
    refine⟨_,_,_,_,_,rfl,rfl,rfl,rfl,rfl,?_⟩;refine A2 11 rfl (cv Oq rfl rfl (hap) (an (an .nil)) ?_);refine A2 12 rfl (dN bw ?_);refine aZ ?_;refine ge 5 ?_;refine bk (q,w2,t2,d2,kU,mU,sU,lU,aU) rfl ?_ [0,1,2,3,4] mz;exact⟨hnx,show q<q+1 by omega⟩
   refine gc 6 ?_;refine cj (fun h11=>?_) (fun h11=>?_)
   ·refine kc 0 [8,7,6,4,0,2] 3 ?_;refine oc (aN Mg rfl rfl rfl rfl (oG d1 most false pr (by omega)) [2] (bj .nil) rfl rfl rfl rfl (an .nil) (fun s ob' hq=>?_) (fun s ob' hq=>?_));rotate_left
    ·obtain ⟨_,_,_,hq1,_⟩:=hq;cases hq1
    obtain⟨ok,d2,t2,hq1,rfl,hst⟩:=hq;cases hq1;refine⟨_,_,_,_,_,rfl,rfl,rfl,rfl,rfl,?_⟩;refine go 10 ?_;refine cj (fun h13=>?_) (fun h13=>?_)
    ·refine kc 0 [6,4] 14 ?_;refine eo ((ae.mk k1 m1 s1 l1 a1).d) [0,1,2] [bc es false,ba,iW d2 most t2 pr] ?_
     ·obtain rfl:kh=6:=(by omega);obtain⟨A,v,b,rfl,rfl,rfl,rfl,_,_,_⟩:=hH.three rfl;rcases hst with⟨h3,h4',h5',h6⟩|⟨h3,_⟩
      ·exact ⟨.mk k1 m1 s1 l1 a1,d2,t2,false,rfl,rfl,by omega,by omega,fun _=>.inl ⟨h6,hRR _ (.inr (.inl ⟨A,v,b,by rw[hS],.inl ⟨h4',rfl⟩⟩))⟩⟩
      ·rw [h3] at h13;simp at h13
    refine kc 3 [8,7,6,4,0,2] 0 ?_;have hst':d1<most∧d2=d1+1∧t2=false:=(by
     rcases hst with⟨h3,_⟩|⟨_,h4',h5',h6⟩
     ·rw [h3] at h13;simp at h13
     ·exact ⟨h4',h5',h6⟩)
    obtain⟨hlt,hd2,ht2⟩:=hst';obtain rfl:kh=6:=(by omega);obtain⟨⟨kA,mA,sA,lA,aA⟩,⟨kx,mx,sx,lx,ax⟩,⟨kb,mb,sb,lb,ab⟩,rfl,rfl,rfl,rfl,hA1,hX1,hB1⟩:=hH.three rfl;have hzz:=hz;rw[show(ae.mk 6 0 .empty [] [.mk kA mA sA lA aA,.mk kx mx sx lx ax,.mk kb mb sb lb ab]).size=1+0+((ae.mk kA mA sA lA aA).size+((ae.mk kx mx sx lx ax).size+((ae.mk kb mb sb lb ab).size+0))) from rfl] at hzz;refine gz [0,1,2] mixed ?_;refine A1 3 rfl (cu bB bH ⟨_,rfl,?_⟩ (he:=by exact(rfl)));refine ga [4,5,6] ?_;refine A1 7 rfl (cu bB bH ⟨_,rfl,?_⟩ (he:=by exact(rfl)));refine ga [8,10] ?_;refine A2 9 rfl (aN Fo rfl rfl rfl rfl (oy es false (B:=4398046511104) (B':=4398046511104) (by omega) (by omega) kb mb sb lb ab kx mx sx lx ax (by omega) (by omega) (hB1.sh (by omega)) (hX1.sh (by omega))) [0,1] (bj (cr .nil)) rfl rfl rfl rfl (an (bo (bo .nil))) (fun s ob' hq=>?_) (fun s ob' hq=>?_));rotate_left
    ·obtain ⟨_,_,hq1,_⟩:=hq;cases hq1
    obtain⟨⟨k2,m2,s2,l2,a2⟩,w2,hq1,rfl,hw2⟩:=hq;cases hq1;obtain⟨kU,mU,sU,lU,aU,hU⟩:=ae.case (bt (.mk k2 m2 s2 l2 a2) az)
    have hap:=pY (gl:=gl) k2 m2 s2 l2 a2 az (by omega);rw[hU] at hap;have hnx:Bn es ps c most N T0 d0 q w2 t2 d2 (.mk kU mU sU lU aU):=(by
     rw[← hU];refine hinv.step (.inl (by omega)) (by omega) (by omega) fun hw=>?_
     rcases hw2 with⟨_,_,e1,e2⟩|⟨e1,_⟩
     ·refine ⟨ht2,Wt.apply (by rw[e1];exact Wt.sub hcc.1 hB1 hX1) hA,by rw[cB];omega,fun o ho=>?_⟩;exact .inr (.inl ⟨.mk kA mA sA lA aA,.mk kx mx sx lx ax,.mk kb mb sb lb ab,by rw[hS],.inr ⟨hlt,by rw[← e1];exact e2,by rw[hS,←e1,←hd2];exact ho⟩⟩)
     ·rw [e1] at hw;cases hw)
    refine⟨_,_,_,_,_,rfl,rfl,rfl,rfl,rfl,?_⟩;refine A2 11 rfl (cv Oq rfl rfl (hap) (an (an .nil)) ?_);refine A2 12 rfl (dN bw ?_);refine aZ ?_;refine ge 5 ?_;refine bk (q,w2,t2,d2,kU,mU,sU,lU,aU) rfl ?_ [0,1,2,3,4] mz;exact⟨hnx,show q<q+1 by omega⟩
   refine kc 0 [35,8,7,6,4,0,2] 6 ?_;refine cJ (fun h16=>?_) (fun h16=>?_)
   ·refine gc 2 ?_;refine bk (false,false,d1) rfl ?_ [0,1,2,3,4] mz;exact⟨Nat.le_refl _,hdm,fun _=>.inr ⟨rfl,hstuck ⟨fun h=>(by have h3:kh=4:=h.1;omega),fun h=>(by have h3:kh=6:=h;omega),fun s us h=>by cases h;omega⟩⟩⟩
   refine gc 1 ?_;obtain rfl:kh=2:=(by omega);obtain⟨rfl,rfl⟩:mh=0∧ah=[]:=(by
    rcases hH.2.2 with h3|h3|h3|h3|h3
    ·omega
    ·omega
    ·exact ⟨h3.2.1,List.eq_nil_of_length_eq_zero h3.2.2.2⟩
    ·omega
    ·omega)
   have hfs:=find_spec (gl:=gl) es false sh hE.b;rcases hF:bM sh es with⟨kf,⟨⟨kg,sg',pg,⟨u1,v1,x1,y1,z1⟩,⟨u2,v2,x2,y2,z2⟩,ag,cg⟩,rg,⟨u3,v3,x3,y3,z3⟩⟩,jf⟩;rw[hF] at hfs;dsimp only at hfs;have hzz:=hz;rw[show(ae.mk 2 0 sh lh []).size=1+bh lh+0 from rfl] at hzz;have hplen:=cQ pg;have hrlen:=cQ rg;have hlsz:∀u∈lh,u.size≤1099511627776:=(fun u hu=>by
    obtain⟨i,hi⟩:=List.getElem?_of_mem hu;have h3:=eI hi;omega)
   refine gc 4 ?_;refine oc (ck Mm rfl rfl (hfs) [0,1] rfl (bj (cr .nil)) (an (an .nil)) ?_);refine ko 11 [11,12,8,7,6,4,0,2] 5 ?_;refine' oa (yt:=98) (d:=90) 8 ?a2 ?b2 ?_
   case a2=>
    intro hc hK;refine go 8 ?_;exact hK [_,_,_,_,_,_,_,_] rfl rfl
   case b2=>
    intro _ hK;refine go 8 ?_;exact hK [_,_,_,_,_,_,_,_] rfl
   refine go 2 ?_;refine cj (fun h18=>?_) (fun h18=>?_)
   ·refine kc 0 [12,8,7,6,4,0,2] 3 ?_;refine oc (aN Mg rfl rfl rfl rfl (oG d1 most false pr (by omega)) [2] (bj .nil) rfl rfl rfl rfl (an .nil) (fun s ob' hq=>?_) (fun s ob' hq=>?_));rotate_left
    ·obtain ⟨_,_,_,hq1,_⟩:=hq;cases hq1
    obtain⟨ok,d2,t2,hq1,rfl,hst⟩:=hq;cases hq1;refine⟨_,_,_,_,_,rfl,rfl,rfl,rfl,rfl,?_⟩;refine go 10 ?_;refine cj (fun h20=>?_) (fun h20=>?_)
    ·refine kc 0 [6,4] 15 ?_;refine eo ((ae.mk k1 m1 s1 l1 a1).d) [0,1,2] [bc es false,ba,iW d2 most t2 pr] ?_
     ·have h18':kf=2∧pg.length=lh.length:=(by refine⟨?_,?_⟩<;>omega);obtain⟨rfl,hpl⟩:=h18';rcases hst with⟨h3,h4',h5',h6⟩|⟨h3,_⟩
      ·exact ⟨.mk k1 m1 s1 l1 a1,d2,t2,false,rfl,rfl,by omega,by omega,fun _=>.inl ⟨h6,hRR _ (.inr (.inr (.inl ⟨sh,lh,_,jf,by rw[hS],hF,hpl,.inl ⟨h4',rfl⟩⟩)))⟩⟩
      ·rw [h3] at h20;simp at h20
    refine kc 3 [12,8,7,6,4,0,2] 0 ?_;have hst':d1<most∧d2=d1+1∧t2=false:=(by
     rcases hst with⟨h3,_⟩|⟨_,h4',h5',h6⟩
     ·rw [h3] at h20;simp at h20
     ·exact ⟨h4',h5',h6⟩)
    obtain⟨hlt,hd2,ht2⟩:=hst';have h18':kf=2∧pg.length=lh.length:=(by refine⟨?_,?_⟩<;>omega);obtain⟨rfl,hpl⟩:=h18';have hin:=hZ hF (by decide);have hkk:=(by
     rcases gJ hF (by decide) with h|h|h
     ·exact h.symm
     ·omega
     ·omega:(⟨⟨kg,sg',pg,⟨u1,v1,x1,y1,z1⟩,⟨u2,v2,x2,y2,z2⟩,ag,cg⟩,rg,⟨u3,v3,x3,y3,z3⟩⟩:cy).d.k=2)
    have hent:=hE.xP _ hin;obtain⟨hvw,hvz⟩:=hent.vl hkk;have hp6:=hent.ps;simp only[dP.vl,dP.ps] at hvw hvz hp6;have hvW:=(hvw.IJ (us:=lh) (by omega) hH.1).up hcc.1;refine gc 10 ?_;refine oc (aN Mk rfl rfl rfl rfl (q9 es false pg lh (by omega) (by omega) hlsz u2 v2 x2 y2 z2 (by omega)) [0,1] (bj (cr .nil)) rfl rfl rfl rfl (an (bo (an (an .nil)))) (fun s ob' hq=>?_) (fun s ob' hq=>?_));rotate_left
    ·obtain ⟨_,_,hq1,_⟩:=hq;cases hq1
    obtain⟨⟨k2,m2,s2,l2,a2⟩,w2,hq1,rfl,hw2⟩:=hq;cases hq1;obtain⟨kU,mU,sU,lU,aU,hU⟩:=ae.case (bt (.mk k2 m2 s2 l2 a2) az)
    have hap:=pY (gl:=gl) k2 m2 s2 l2 a2 az (by omega);rw[hU] at hap;have hnx:Bn es ps c most N T0 d0 q w2 t2 d2 (.mk kU mU sU lU aU):=(by
     rw[← hU];refine hinv.step (.inl (by omega)) (by omega) (by omega) fun hw=>?_
     rcases hw2 with⟨_,_,e1,e2⟩|⟨e1,_⟩
     ·refine ⟨ht2,Wt.apply (by rw[e1];exact hvW) hA,by rw[cB];omega,fun o ho=>?_⟩;exact .inr (.inr (.inl ⟨sh,lh,_,jf,by rw[hS],hF,hpl,.inr ⟨hlt,by simp only[dP.ps,dP.vl];rw[← e1];exact e2,by simp only[dP.ps,dP.vl];rw[hS,←e1,←hd2];exact ho⟩⟩))
     ·rw [e1] at hw;cases hw)
    refine⟨_,_,_,_,_,rfl,rfl,rfl,rfl,rfl,?_⟩;refine go 1 ?_;refine oc (cv Oq rfl rfl (hap) (an (an .nil)) ?_);refine go 8 ?_;refine bk (q,w2,t2,d2,kU,mU,sU,lU,aU) rfl ?_ [0,1,2,3,4] mz;exact⟨hnx,show q<q+1 by omega⟩
   refine kc 2 [11,12,8,7,6,4,0,2] 5 ?_;refine' oa (yt:=126) (d:=119) 7 ?a3 ?b3 ?_
   case a3=>
    intro hc hK;refine go 7 ?_;exact hK [_,_,_,_,_,_,_] rfl rfl
   case b3=>
    intro _ hK;refine go 7 ?_;exact hK [_,_,_,_,_,_,_] rfl
   refine go 2 ?_;refine cJ (fun h23=>?_) (fun h23=>?_)
   ·refine gc 2 ?_;refine bk (false,false,d1) rfl ?_ [0,1,2,3,4] mz
    ·refine ⟨Nat.le_refl _,hdm,fun _=>.inr ⟨rfl,hstuck ⟨fun h=>(by have h3:(2:Int)=4:=h.1;omega),fun h=>(by have h3:(2:Int)=6:=h;omega),fun s us h=>?_⟩⟩⟩;cases h;rw[hF];refine⟨fun h=>?_,fun h=>?_⟩<;>(obtain⟨h3,h4'⟩:=h;simp only[dP.ps] at h3 h4';omega)
   refine kc 1 [12,8,7,6,4,0,2] 0 ?_;have h23':kf=5∧rg.length=lh.length:=(by refine⟨?_,?_⟩<;>omega);obtain⟨rfl,hpl⟩:=h23';have hin:=hZ hF (by decide);have hkk:=(by
    rcases gJ hF (by decide) with h|h|h
    ·rcases (hE.xP _ hin).k with h'|h'|h'<;>omega
    ·omega
    ·exact h.2:(⟨⟨kg,sg',pg,⟨u1,v1,x1,y1,z1⟩,⟨u2,v2,x2,y2,z2⟩,ag,cg⟩,rg,⟨u3,v3,x3,y3,z3⟩⟩:cy).d.k=3)
   have hio:=Hw (gl:=gl) hE (ps:=ps) (c:=c) hcc hm (ih q (by omega)) kg sg' pg u1 v1 x1 y1 z1 u2 v2 x2 y2 z2 ag cg rg u3 v3 x3 y3 z3 hin hkk sh lh az d1 pr hdm hH (by omega) hA (by omega) (fun x hx=>by
    obtain⟨i,hi⟩:=List.getElem?_of_mem hx;have h3:=bG hi;omega)
   refine gc 6 ?_;refine oc (aN Q9 rfl rfl rfl rfl (hio) [0,1,2] (bj (cr (bj .nil))) rfl rfl rfl rfl (an (bo (an (bo (an .nil))))) (fun s ob' hq=>?_) (fun s ob' hq=>?_));rotate_left
   ·obtain ⟨_,_,_,_,_,hq1,_⟩:=hq;cases hq1
   obtain⟨⟨kU,mU,sU,lU,aU⟩,ok,d2,t2,w2,hq1,rfl,hq3,hq4,hres⟩:=hq;cases hq1;have hio2:∀io,RI es most (RW es most q) _ (.mk 2 0 sh lh []) az d1 io→∀o,Oe (RW es most q) cur o io→RW es most (q+1) cur d1 o:=(fun io h3 o h4'=>.inr (.inr (.inr (.inl ⟨sh,lh,_,jf,io,by rw[hS],hF,hpl,by rw[hS];exact h3,h4'⟩))));refine⟨_,_,_,_,_,rfl,rfl,rfl,rfl,rfl,?_⟩;refine ko 8 [16,15,6,4,0,2] 5 ?_;refine cJ (fun h25=>?_) (fun h25=>?_)
   ·refine gc 2 ?_;refine bk (w2,t2,d2) rfl ?_ [0,1,2,3,4] mz
    ·refine ⟨hq3,hq4,fun hw=>?_⟩;rcases hres hw with⟨h3,_,h4'⟩|⟨h3,_,h4'⟩|⟨_,h3,_⟩
     ·exact .inl ⟨h3,hio2 _ h4' _ rfl⟩
     ·exact .inr ⟨h3,hio2 _ h4' _ rfl⟩
     ·rw [h3] at h25;simp at h25
   refine gc 1 ?_;have hok:ok=true:=(by first|exact h25|simpa using h25);subst hok;have hnx:Bn es ps c most N T0 d0 q w2 t2 d2 (.mk kU mU sU lU aU):=(by
    refine hinv.step ?_ hq3 hq4 fun hw=>?_
    ·cases w2 with
     |true=>exact .inr rfl
     |false=>
      rcases hres rfl with⟨_,h4',_⟩|⟨_,h4',_⟩|⟨_,_,h4'⟩
      ·cases h4'
      ·cases h4'
      ·exact .inl (KU hE hcc.1 hin hkk hH hA hdm h4').2.1
    ·rcases hres hw with⟨_,h4',_⟩|⟨_,h4',_⟩|⟨h5',_,h4'⟩
     ·cases h4'
     ·cases h4'
     ·obtain ⟨g1,g2,g3,g4⟩:=KU hE hcc.1 hin hkk hH hA hdm h4';exact⟨h5',g1,by omega,fun o ho=>hio2 _ h4' o ho⟩)
   refine gc 9 ?_;refine bk (q,w2,t2,d2,kU,mU,sU,lU,aU) rfl ?_ [0,1,2,3,4] mz;exact⟨hnx,show q<q+1 by omega⟩
  case B5=>
   rintro⟨w3,t3,d3⟩ hcut
   try dsimp only at hcut
   refine kc 0 [6,4] 11 ?_;refine eo ((ae.mk k1 m1 s1 l1 a1).d) [0,1,2] [bc es w3,ba,iW d3 most t3 pr] ?_
   ·refine ⟨.mk k1 m1 s1 l1 a1,d3,t3,w3,rfl,rfl,by have h3:=hcut.1;omega,hcut.2.1,fun h=>?_⟩;rw[← hcur];rcases hcut.2.2 h with⟨h3,h4'⟩|⟨h3,h4'⟩
    ·exact .inl ⟨h3,hRR _ h4'⟩
    ·exact .inr ⟨h3,hRR _ h4'⟩
theorem GZ(hE:dg es)(hcc:0≤c∧c≤1099511627776)(hm:most≤1000000)(N:Nat):GP gl es ps c most N:=
 Nat.strongRecOn N fun _ ih=>GY hE hcc hm ih
end
section
open Go Go.Vd Go.RowKit
attribute [local irreducible] bu bA di ak bL cU
variable {g gl:Nat→List D}
theorem GX(es:List cy)(w t:Bool)(h:w=true∨t=true)(k m:Int)(s:ByteArray)(ls:List aP)(args:List ae)(d most pr:Int):
 et Tryz.prog gl 51 [bc es w,ba,iW d most t pr] [.cb 0 0,.d (ae.mk k m s ls args).d,.cb 2 0] fun out ob'=>out=.ret (.d (ae.mk k m s ls args).d)∧ob'=[bc es w,ba,iW d most t pr]:=by
 refine bS Tryz.func51 Tryz.ntmps51 3 ?_;refine kc 8 [6,4,0,2] 0 ?_;refine lp (ι:=Unit) (fun _=>[]) (fun _=>[bc es w,ba,iW d most t pr,tO k m s ls args,zO]) [6,4,0,2] (fun _=>True) (fun _=>0) (()) ([0,1,2,3,4]) rfl ?I2 ?M2 ?H2
 case I2=>
  trivial
 case M2=>
  exact mz
 case H2=>
  rintro _ hinv
  try dsimp only at hinv
  refine kc 0 [6,4,0,2] 9 ?_;refine' oa (yt:=27) (d:=22) 5 ?a1 ?b1 ?_
  case a1=>
   intro hc hK;refine go 5 ?_;exact hK [_,_,_,_,_] rfl rfl
  case b1=>
   intro _ hK;refine go 5 ?_;exact hK [_,_,_,_,_] rfl
  refine go 2 ?_;refine cj (fun h1=>?_) (fun h1=>?_)
  ·exfalso;(exfalso;rcases h with h|h<;>(rw[h] at h1;simp at h1))
  refine kc 5 [6,4] 7 ?_;refine eo ((ae.mk k m s ls args).d) [0,1,2] [bc es w,ba,iW d most t pr] ?_
  ·exact ⟨rfl,rfl⟩
def yc(es:List cy)(most n:Nat)(t:ae)(d:Nat)(pr:Int)(w tI:Bool)(out:Out)(ob':List Ob):Prop:=
 ∃(u:ae) (d':Nat) (t' w':Bool),out=.ret (.d u.d)∧ob'=[bc es w',ba,iW d' most t' pr]∧d≤d'∧d'≤most∧(w'=false→w=false∧((t'=true∧(tI=true∨RW es most n t d .cI))∨(t'=false∧tI=false∧RW es most n t d (.ok u d'))))
variable {es:List cy} {ps:List ByteArray} {most:Nat}
theorem Bu(hE:dg es){c:Int}(hcc:0≤c∧c≤1099511627776)(hm:most≤1000000)(n:Nat)(w tI:Bool)(k m:Int)(s:ByteArray)(ls:List aP)(args:List ae)(d:Nat)(pr:Int)(hd:d≤most)(h1:(ae.mk k m s ls args).size+30000*(most-d)<n)(h2:(ae.mk k m s ls args).size+30000*(most-d)≤1000000000000)(hw:Wt (eh es) ps (.mk k m s ls args) c):
 et Tryz.prog gl 51 [bc es w,ba,iW d most tI pr] [.cb 0 0,.d (ae.mk k m s ls args).d,.cb 2 0] (yc es most n (.mk k m s ls args) d pr w tI):=by
 by_cases h:w=true∨tI=true
 ·refine (GX es w tI h k m s ls args d most pr).mono fun o b hh=>?_
  obtain⟨rfl,rfl⟩:=hh;refine⟨_,d,tI,w,rfl,rfl,Nat.le_refl _,hd,fun hw=>?_⟩;rcases h with h|h
  ·rw [h] at hw;cases hw
  ·exact ⟨hw,.inl ⟨h,.inl h⟩⟩
 ·obtain ⟨rfl,rfl⟩:w=false∧tI=false:=by cases w<;>cases tI<;>simp_all
  refine(GZ hE hcc hm n k m s ls args d pr hd h1 h2 hw).mono fun o b hh=>?_
  obtain⟨u,d',t',w',e1,e2,e3,e4,e5⟩:=hh;refine⟨u,d',t',w',e1,e2,e3,e4,fun h=>⟨rfl,?_⟩⟩;rcases e5 h with⟨h3,h4⟩|⟨h3,h4⟩
  ·exact .inl ⟨h3,.inr h4⟩
  ·exact .inr ⟨h3,rfl,h4⟩
def ae.Rp:ae→List ae| .mk _ _ _ _ a=>a
def ae.wa:ae→List ae→ae| .mk k m s ls _,l=>.mk k m s ls l
inductive rq where
 |ok (u:ae) (d:Nat) (p:Int)
 |cI
inductive rG where
 |ok (l:List ae) (d:Nat) (p:Int)
 |cI
def rG.to(f:List ae→ae):rG→rq
 | .ok l d p=>.ok (f l) d p
 | .cI=>.cI
def rG.cons(y:ae):rG→rG
 | .ok l d p=>.ok (y::l) d p
 | .cI=>.cI
def Bq(R:ae→Nat→Int→rq→Prop):List ae→Nat→Int→rG→Prop
 |[],d,p,o=>o=.ok [] d p
 |x::r,d,p,o=>(R x d p .cI∧o=.cI)∨∃y d1 p1 so,R x d p (.ok y d1 p1)∧Bq R r d1 p1 so∧o=so.cons y
def RN(es:List cy)(most:Nat):Nat→ae→Nat→Int→rq→Prop
 |0,_,_,_,_=>False
 |n+1,t,d,p,o=>(∃ m,RW es most m t d .cI∧o=.cI)∨∃m u d1 so,RW es most m t d (.ok u d1)∧p+1≤20000∧
  ((ae.kd u=3∧Bq (RN es most n) (bf u).2 d1 (p+1) so∧o=so.to (bt (bf u).1))∨(ae.kd u≠3∧Bq (RN es most n) (ae.Rp u) d1 (p+1) so∧o=so.to (ae.wa u)))
theorem Bq.snoc{R:ae→Nat→Int→rq→Prop}:∀{l:List ae} {d:Nat} {p:Int} {ys:List ae} {d1:Nat} {p1:Int} {x:ae},Bq R l d p (.ok ys d1 p1)→(∀ {y d2 p2},R x d1 p1 (.ok y d2 p2)→Bq R (l++[x]) d p (.ok (ys++[y]) d2 p2))∧(R x d1 p1 .cI→∀r,Bq R (l++x::r) d p .cI)
 |[],d,p,ys,d1,p1,x,h=>by
  cases h;exact⟨fun h2=>.inr ⟨_,_,_,_,h2,rfl,rfl⟩,fun h2 r=>.inl ⟨h2,rfl⟩⟩
 |a::l,d,p,ys,d1,p1,x,h=>by
  rcases h with⟨_,h2⟩|⟨y,d2,p2,so,h2,h3,h4⟩
  ·cases h2
  ·cases so with
   |cI=>cases h4
   |ok l2 d3 p3=>
    cases h4;obtain⟨g1,g2⟩:=Bq.snoc (x:=x) h3;exact⟨fun h5=>.inr ⟨_,_,_,_,h2,g1 h5,rfl⟩,fun h5 r=>.inr ⟨_,_,_,_,h2,g2 h5 r,rfl⟩⟩
theorem gV.flat{sg:Sg}{ps:List ByteArray}{c:Int}:∀{l:List ae},(∀ x∈l,Wt sg ps x c)→gV sg ps false l c
 |[],_=>trivial
 |a::r,h=>⟨by rw[Bool.false_and];exact h a List.mem_cons_self,gV.flat fun x hx=>h x (List.mem_cons_of_mem _ hx)⟩
theorem gV.IQ{sg:Sg}{ps:List ByteArray}{c:Int}:∀{l:List ae},gV sg ps false l c→∀x∈l,Wt sg ps x c
 |a::r,h,x,hx=>by
  rcases List.mem_cons.1 hx with rfl|hx
  ·have:=h.1;rw[Bool.false_and] at this;exact this
  ·exact gV.IQ h.2 x hx
theorem FI{sg:Sg}{ps:List ByteArray}{most:Nat}{R:ae→Nat→Int→rq→Prop}{b:Bool}
 (hR:∀{t u:ae} {d d':Nat} {p p' c:Int},R t d p (.ok u d' p')→d≤most→0≤c→Wt sg ps t c→Wt sg ps u c∧d≤d'∧d'≤most∧p<p'∧p'≤20000∧u.size+30000*(most-d')≤t.size+30000*(most-d)):
 ∀{l ys:List ae} {d d':Nat} {p p' c:Int},Bq R l d p (.ok ys d' p')→d≤most→0≤c→p≤20000→gV sg ps b l c→gV sg ps b ys c∧ys.length=l.length∧d≤d'∧d'≤most∧p≤p'∧p'≤20000∧aj ys+30000*(most-d')≤aj l+30000*(most-d)
 |[],ys,d,d',p,p',c,h,hd,hc,hp,hw=>by
  cases h;exact⟨trivial,rfl,Nat.le_refl _,hd,Int.le_refl _,hp,Nat.le_refl _⟩
 |a::l,ys,d,d',p,p',c,h,hd,hc,hp,hw=>by
  rcases h with⟨_,h2⟩|⟨y,d2,p2,so,h2,h3,h4⟩
  ·cases h2
  ·cases so with
   |cI=>cases h4
   |ok l2 d3 p3=>
    cases h4;obtain⟨g1,g2,g3,g4,g5,g6⟩:=hR h2 hd (by split<;>omega) hw.1;obtain⟨k1,k2,k3,k4,k5,k6,k7⟩:=FI hR h3 g3 hc g5 hw.2;refine⟨⟨?_,k1⟩,by simp only[List.length_cons,k2],by omega,k4,by omega,k6,by simp only[aj];omega⟩;have e:l2.isEmpty=l.isEmpty:=by cases l2<;>cases l<;>simp_all
    rw[e];exact g1
theorem GS(hE:dg es):∀(n:Nat) {t u:ae} {d d':Nat} {p p' c:Int},RN es most n t d p (.ok u d' p')→d≤most→0≤c→Wt (eh es) ps t c→
 Wt (eh es) ps u c∧d≤d'∧d'≤most∧p<p'∧p'≤20000∧u.size+30000*(most-d')≤t.size+30000*(most-d):=by
 intro n
 induction n with
 |zero=>intro t u d d' p p' c h;exact h.elim
 |succ n ih=>
  intro t u d d' p p' c h hd hc hw;rcases h with⟨_,_,h⟩|⟨m,v,d1,so,h1,h2,h3⟩
  ·cases h
  ·obtain ⟨hv,e1,e2,e3⟩:=yd hE hc m h1 hd hw;rcases h3 with⟨_,h3,h4⟩|⟨_,h3,h4⟩
   ·cases so with
    |cI=>cases h4
    |ok l2 d3 p3=>
     cases h4;obtain⟨_,hH,hA,_⟩:=Wt.spine _ (Nat.le_refl _) hv;have hz2:=kn hv;obtain⟨k1,k2,k3,k4,k5,k6,k7⟩:=FI (b:=false) ih h3 e2 hc h2 (gV.flat hA);exact⟨Wt.apply hH (gV.IQ k1),by omega,k4,by omega,k6,by rw[cB];omega⟩
   ·cases so with
    |cI=>cases h4
    |ok l2 d3 p3=>
     cases h4;obtain⟨k,m2,s,ls,args⟩:=v;simp only[ae.Rp,ae.wa,ae.size] at*
     obtain⟨k1,k2,k3,k4,k5,k6,k7⟩:=FI (b:=decide (4≤k)) ih h3 e2 hc h2 hv.2.1;exact⟨⟨hv.1,k1,by rw[k2];exact hv.2.2⟩,by omega,k4,by omega,k6,by omega⟩
end
section
open Go Go.Vd Go.RowKit
attribute [local irreducible] bu bA di ak bL cU
variable {g gl:Nat→List D}
def pB(p:Int):Int:=if p≤20000 then 20001+(20001-p)*1000000000001 else p+1
def DI(es:List cy)(most n:Nat)(t:ae)(d:Nat)(pr:Int)(w tI:Bool)(out:Out)(ob':List Ob):Prop:=
 ∃(u:ae) (d':Nat) (t' w':Bool) (p':Int),out=.ret (.d u.d)∧ob'=[bc es w',ba,iW d' most t' p']∧d≤d'∧d'≤most∧pr<p'∧p'≤pB pr∧(w'=false→w=false∧((t'=true∧(tI=true∨RN es most n t d pr .cI))∨(t'=false∧tI=false∧RN es most n t d pr (.ok u d' p'))))
def Qt(gl:Nat→List D)(es:List cy)(ps:List ByteArray)(most n:Nat):Prop:=
 ∀(k m:Int) (s:ByteArray) (ls:List aP) (args:List ae) (c:Int) (d:Nat) (pr:Int) (w tI:Bool),d≤most→0≤c→(ae.mk k m s ls args).size+30000*(most-d)<n→c+(ae.mk k m s ls args).size+30000*(most-d)≤1000000000000→Wt (eh es) ps (.mk k m s ls args) c→0≤pr→pr≤1000000000000000000→
  et Tryz.prog gl 37 [bc es w,ba,iW d most tI pr] [.cb 0 0,.d (ae.mk k m s ls args).d,.cb 2 0] (DI es most n (.mk k m s ls args) d pr w tI)
structure KY (es:List cy) (most n:Nat) (l:List ae) (d1:Nat) (p1:Int) (i:Nat) (w t:Bool) (d:Nat) (p:Int) (ys:List ae):Prop where
 il:i≤l.length
 yl:ys.length=i
 dl:d1≤d
 dm:d≤most
 pl:p1≤p
 pu:p≤20001+(20001-p1)*1000000000001+i
 ok:w=false→(t=true∧Bq (RN es most n) l d1 p1 .cI)∨(t=false∧Bq (RN es most n) (l.take i) d1 p1 (.ok ys d p))
variable {es:List cy} {most:Nat}
theorem KY.step{n:Nat}{l:List ae}{d1:Nat}{p1:Int}{i:Nat}{w t:Bool}{d:Nat}{p:Int}{ys:List ae}{x y:ae}{d':Nat}{t' w':Bool}{p':Int}(h:KY es most n l d1 p1 i w t d p ys)(hx:l[i]? =some x)(h1:d≤d')(h2:d'≤most)(h3:p<p')(h4:p'≤pB p)(hp:p1<p∨i=0)(hp1:p1≤20000)
 (h5:w'=false→w=false∧((t'=true∧(t=true∨RN es most n x d p .cI))∨(t'=false∧t=false∧RN es most n x d p (.ok y d' p')))):KY es most n l d1 p1 (i+1) w' t' d' p' (ys++[y]):=by
 have hi:=(List.getElem?_eq_some_iff.1 hx).1;have h6:=h.dl;have h7:=h.dm;have h8:=h.pl;have h9:=h.pu;refine⟨by omega,by rw[List.length_append,h.yl];rfl,by omega,h2,by omega,?_,fun hw=>?_⟩
 ·unfold pB at h4;split at h4<;>omega
 ·obtain ⟨e1,e2⟩:=h5 hw;have e3:l.take (i+1)=l.take i++[x]:=by rw[List.take_add_one,hx];rfl
  have e4:l=l.take i++x::l.drop (i+1):=by
   conv=>lhs;rw[← List.take_append_drop (i+1) l,e3]
   rw[List.append_assoc];rfl
  rcases h.ok e1 with⟨g1,g2⟩|⟨g1,g2⟩
  ·rcases e2 with⟨k1,_⟩|⟨_,k1,_⟩
   ·exact .inl ⟨k1,g2⟩
   ·rw [g1] at k1;cases k1
  ·rcases e2 with⟨k1,k2|k2⟩|⟨k1,_,k2⟩
   ·rw [g1] at k2;cases k2
   ·refine .inl ⟨k1,?_⟩;rw[e4];exact(Bq.snoc (x:=x) g2).2 k2 _
   ·refine .inr ⟨k1,?_⟩;rw[e3];exact(Bq.snoc (x:=x) g2).1 k2
set_option maxHeartbeats 1600000 in
theorem zA(hE:dg es){ps:List ByteArray}(hm:most≤1000000):∀N,Qt gl es ps most N:=by
 intro N
 induction N with
 |zero=>intro k m s ls args c d pr w tI _ _ h;omega
 |succ N ih=>
  intro k m s ls args c d pr w tI hdm hc hz1 hz2 hWt hp0 hpm;have hwh:=Bu (gl:=gl) hE (ps:=ps) (c:=c) ⟨hc,by omega⟩ hm ((ae.mk k m s ls args).size+30000*(most-d)+1) w tI k m s ls args d pr hdm (by omega) (by omega) hWt;obtain⟨T0,hT0⟩:∃x,x=ae.mk k m s ls args:=⟨_,rfl⟩;rw[← hT0] at hz1 hz2 hWt;rw[show DI es most (N+1) (.mk k m s ls args) d pr w tI=DI es most (N+1) T0 d pr w tI by rw[hT0]];rw[show yc es most ((ae.mk k m s ls args).size+30000*(most-d)+1) (.mk k m s ls args) d pr w tI=yc es most ((ae.mk k m s ls args).size+30000*(most-d)+1) T0 d pr w tI by rw[hT0]] at hwh;generalize(ae.mk k m s ls args).size+30000*(most-d)+1=G at hwh;have hpb:pr+1≤pB pr:=by unfold pB;split<;>omega
  refine bS Tryz.func37 Tryz.ntmps37 3 ?_;refine gc 11 ?_;refine oc (aN KE rfl rfl rfl rfl (hwh) [0,1,2] (bj (cr (bj .nil))) rfl rfl rfl rfl (an (bo (an .nil))) (fun s ob' hq=>?_) (fun s ob' hq=>?_));rotate_left
  ·obtain ⟨_,_,_,_,hq1,_⟩:=hq;cases hq1
  obtain⟨⟨k1,m1,s1,l1,a1⟩,d1,t1,w1,hq1,rfl,hd1,hd2,hres⟩:=hq;cases hq1;refine⟨_,_,_,_,_,rfl,rfl,rfl,rfl,rfl,?_⟩;refine ko 3 [6,4,0,2] 6 ?_;refine o1 (cG ?_);refine ko 5 [6,4,0,2] 8 ?_;refine' oo (yt:=33) (d:=28) 5 ?a1 ?b1 ?_
  case a1=>
   intro hc hK;refine go 5 ?_;exact hK [_,_,_,_,_] rfl rfl
  case b1=>
   intro _ hK;refine go 5 ?_;exact hK [_,_,_,_,_] rfl
  refine ko 6 [6,4,0,2] 7 ?_;refine' oo (yt:=45) (d:=41) 4 ?a2 ?b2 ?_
  case a2=>
   intro hc hK;refine go 4 ?_;exact hK [_,_,_,_] rfl rfl
  case b2=>
   intro _ hK;refine go 4 ?_;exact hK [_,_,_,_] rfl
  refine go 2 ?_;refine cj (fun h4=>?_) (fun h4=>?_)
  ·refine kc 0 [6,4] 8 ?_;refine eo ((ae.mk k1 m1 s1 l1 a1).d) [0,1,2] [bc es (w1||decide (20000<pr+1)),ba,iW d1 most t1 (pr+1)] ?_
   ·refine ⟨.mk k1 m1 s1 l1 a1,d1,t1,_,pr+1,rfl,rfl,hd1,hd2,by omega,hpb,fun hw=>?_⟩;simp only[Bool.or_eq_false_iff,decide_eq_false_iff_not,Int.not_lt] at hw;obtain⟨e1,e2⟩:=hres hw.1;refine⟨e1,?_⟩;rcases e2 with⟨e3,e4|e4⟩|⟨e3,e4,e5⟩
    ·exact .inl ⟨e3,.inl e4⟩
    ·exact .inl ⟨e3,.inr (.inl ⟨_,e4,rfl⟩)⟩
    ·exfalso
     rcases h4 with h|h|h
     ·rw [e3] at h;cases h
     ·rw [hw.1] at h;cases h
     ·omega
  refine kc 4 [6,4,0,2] 0 ?_;have hok:t1=false∧w1=false∧pr+1≤20000:=(by cases t1<;>cases w1<;>simp_all);obtain⟨rfl,rfl,hpr⟩:=hok;obtain⟨rfl,hres2⟩:=hres rfl;have hres3:tI=false∧RW es most G T0 d (.ok (.mk k1 m1 s1 l1 a1) d1):=(by
   rcases hres2 with⟨h,_⟩|⟨_,h1,h2⟩
   ·cases h
   ·exact ⟨h1,h2⟩)
  obtain⟨rfl,hRW⟩:=hres3;obtain⟨hv,e1,e2,e3⟩:=yd hE hc G hRW hdm hWt;have hdec:decide (20000<pr+1)=false:=decide_eq_false (by omega);refine gc 6 ?_;refine cJ (fun h6=>?_) (fun h6=>?_)
  ·refine gc 9 ?_;have hal:=aO a1;have has:=br a1;have hvz:(ae.mk k1 m1 s1 l1 a1).size=1+bh l1+aj a1:=rfl;have hRN:∀so,Bq (RN es most N) a1 d1 (pr+1) so→RN es most (N+1) T0 d pr (so.to (ae.wa (.mk k1 m1 s1 l1 a1))):=(fun so h=>.inr ⟨G,_,d1,so,hRW,hpr,.inr ⟨h6,h,rfl⟩⟩);refine kc 5 [11,10,6,4,0,2] 0 ?_;refine bz 39 5 rfl ?_;refine lp (ι:=Nat×Bool×Bool×Nat×Int×List ae) (fun⟨i,w3,t3,d3,p3,ys⟩=>[(11,int i),(10,.own 5 5 (aH ys))]) (fun⟨i,w3,t3,d3,p3,ys⟩=>[bc es w3,ba,iW d3 most t3 p3,tO k1 m1 s1 l1 a1,zO,tR]) [6,4,0,2] (fun⟨i,w3,t3,d3,p3,ys⟩=>KY es most N a1 d1 (pr+1) i w3 t3 d3 p3 ys∧(pr+1<p3∨i=0)) (fun⟨i,w3,t3,d3,p3,ys⟩=>a1.length-i) ((0,(false||decide (20000<pr+1)),false,d1,pr+1,[])) ([0,1,2,3,4,5]) rfl ?I3 ?M3 ?H3
   case I3=>
    exact⟨⟨Nat.zero_le _,rfl,Nat.le_refl _,e2,Int.le_refl _,by omega,fun _=>.inr ⟨rfl,rfl⟩⟩,.inr rfl⟩
   case M3=>
    refine mo ?_ (aJ (ef rfl (by exact Fit.nil rfl) (aJ (aJ (aJ (aJ dC))))))
    repeat (first|exact cH|refine bj ?_|refine cr ?_|refine qx ?_)
   case H3=>
    rintro⟨i,w3,t3,d3,p3,ys⟩ hinv
    try dsimp only at hinv
    refine kc 0 [11,10,6,4,0,2] 10 ?_;refine cJ (fun h15=>?_) (fun h15=>?_)
    ·refine kc 6 [10,6,4] 0 ?_;have hws:=jX (gl:=gl) k1 m1 s1 l1 a1 ys;refine gc 3 ?_;refine oc (cv Iu rfl rfl (hws) (bo (bo .nil)) ?_);refine go 4 ?_;refine eo ((ae.mk k1 m1 s1 l1 ys).d) [0,1,2] [bc es w3,ba,iW d3 most t3 p3] ?_
     ·have hx1:=hinv.1.dl;have hx3:=hinv.1.pl;have hx4:=hinv.1.pu;have hx5:=hinv.1.il;have hi:i=a1.length:=(by omega);refine⟨.mk k1 m1 s1 l1 ys,d3,t3,w3,p3,rfl,rfl,by omega,hinv.1.dm,by omega,by unfold pB;rw[if_pos (by omega)];omega,fun hw=>⟨rfl,?_⟩⟩;rcases hinv.1.ok hw with⟨g1,g2⟩|⟨g1,g2⟩
      ·exact .inl ⟨g1,.inr (hRN _ g2)⟩
      ·rw [hi,List.take_length] at g2;exact .inr ⟨g1,rfl,hRN _ g2⟩
    refine kc 4 [11,10,6,4,0,2] 0 ?_;obtain⟨kx,mx,sx,lx,ax,hget⟩:=bK (show i<a1.length by omega);have hxz:=bG hget;have hx1:=hinv.1.dl;have hx2:=hinv.1.dm;have hx3:=hinv.1.pl;have hx4:=hinv.1.pu;have hyl:=hinv.1.yl;have hxw:=gV.get hv.2.1 hget;obtain⟨cx,hcx,hcl⟩:∃cx,cx=(if decide (4≤k1)=true∧i+1=a1.length then c+1 else c)∧c≤cx∧cx≤c+1:=⟨_,rfl,by split<;>omega,by split<;>omega⟩;rw[← hcx] at hxw;have hnm:=ih kx mx sx lx ax cx d3 p3 w3 t3 hx2 (by omega) (by omega) (by omega) hxw (by omega) (by omega);have hytl:=aO ys;refine gc 6 ?_;refine o1 (cu bB bH ?_ (he:=by exact(bW hget)));refine go 2 ?_;refine oc (aN Ix rfl rfl rfl rfl (hnm) [0,1,2] (bj (cr (bj .nil))) rfl rfl rfl rfl (an (bo (an .nil))) (fun s ob' hq=>?_) (fun s ob' hq=>?_));rotate_left
    ·obtain ⟨_,_,_,_,_,hq1,_⟩:=hq;cases hq1
    obtain⟨⟨kY,mY,sY,lY,aY⟩,d4,t4,w4,p4,hq1,rfl,hq3,hq4,hq5,hq6,hq7⟩:=hq;cases hq1;have hnx:aH ys++[[.v (.int .i64 kY),.v (.int .i64 mY),.v (.string sY),.sl 3 (bF lY),.sl 5 (aH aY)]]=aH (ys++[.mk kY mY sY lY aY]):=(by rw[dj];rfl);refine⟨_,_,_,_,_,rfl,rfl,rfl,rfl,rfl,?_⟩;refine oc (gD dE [.tmp 87] bw ?_);refine oc (px dE ?_);refine ko 4 [10,11,6,4,0,2] 2 ?_;refine o1 (cG ?_);refine go 2 ?_;rw[hnx];refine bk (i+1,w4,t4,d4,p4,ys++[.mk kY mY sY lY aY]) rfl ?_ [0,1,2,3,4,5] mz;refine⟨⟨hinv.1.step hget hq3 hq4 hq5 hq6 hinv.2 hpr hq7,.inl (by omega)⟩,show a1.length-(i+1)<a1.length-i by omega⟩
  refine gc 1 ?_;obtain rfl:k1=3:=(by omega);obtain⟨hok,hH,hA,hsp⟩:=Wt.spine _ (Nat.le_refl _) hv;have hspn:=eY (gl:=gl) 3 m1 s1 l1 a1 hok (by omega);have hz:=kn hv;rcases hS:bf (.mk 3 m1 s1 l1 a1) with⟨⟨kh,mh,sh,lh,ah⟩,az⟩;rw[hS] at hspn hH hA hz hsp;dsimp only at hspn hH hA hz hsp;have hal:=aO az;have has:=br az;have hRN:∀so,Bq (RN es most N) az d1 (pr+1) so→RN es most (N+1) T0 d pr (so.to (bt (.mk kh mh sh lh ah))):=(fun so h=>.inr ⟨G,_,d1,so,hRW,hpr,.inl ⟨rfl,by rw[hS];exact h,by rw[hS]⟩⟩);refine gc 2 ?_;refine oc (cv yM rfl rfl (hspn) (bo .nil) ?_);refine ko 9 [8,7,6,0,2] 6 ?_;refine lp (ι:=Nat×Bool×Bool×Nat×Int×List ae×Int×Int×ByteArray×List aP×List ae) (fun⟨i,w3,t3,d3,p3,ys,k3,m3,s3,l3,a3⟩=>[(9,int i)]) (fun⟨i,w3,t3,d3,p3,ys,k3,m3,s3,l3,a3⟩=>[bc es w3,ba,iW d3 most t3 p3,tO 3 m1 s1 l1 a1,zO,tO k3 m3 s3 l3 a3]) [8,7,6,0,2] (fun⟨i,w3,t3,d3,p3,ys,k3,m3,s3,l3,a3⟩=>KY es most N az d1 (pr+1) i w3 t3 d3 p3 ys∧(pr+1<p3∨i=0)∧bt (.mk kh mh sh lh ah) ys=.mk k3 m3 s3 l3 a3) (fun⟨i,w3,t3,d3,p3,ys,k3,m3,s3,l3,a3⟩=>az.length-i) ((0,(false||decide (20000<pr+1)),false,d1,pr+1,[],kh,mh,sh,lh,ah)) ([0,1,2,3,4,5]) rfl ?I4 ?M4 ?H4
  case I4=>
   exact⟨⟨Nat.zero_le _,rfl,Nat.le_refl _,e2,Int.le_refl _,by omega,fun _=>.inr ⟨rfl,rfl⟩⟩,.inr rfl,rfl⟩
  case M4=>
   exact mz
  case H4=>
   rintro⟨i,w3,t3,d3,p3,ys,k3,m3,s3,l3,a3⟩ hinv
   try dsimp only at hinv
   refine kc 0 [9,8,7,6,0,2] 9 ?_;refine cJ (fun h9=>?_) (fun h9=>?_)
   ·refine kc 5 [7,6] 8 ?_;refine eo ((ae.mk k3 m3 s3 l3 a3).d) [0,1,2] [bc es w3,ba,iW d3 most t3 p3] ?_
    ·have hx1:=hinv.1.dl;have hx3:=hinv.1.pl;have hx4:=hinv.1.pu;have hx5:=hinv.1.il;have hi:i=az.length:=(by omega);refine⟨.mk k3 m3 s3 l3 a3,d3,t3,w3,p3,rfl,rfl,by omega,hinv.1.dm,by omega,by unfold pB;rw[if_pos (by omega)];omega,fun hw=>⟨rfl,?_⟩⟩;rcases hinv.1.ok hw with⟨g1,g2⟩|⟨g1,g2⟩
     ·exact .inl ⟨g1,.inr (hRN _ g2)⟩
     ·rw [hi,List.take_length] at g2;refine .inr ⟨g1,rfl,?_⟩;have:=hRN _ g2;rw[rG.to,hinv.2.2] at this;exact this
   refine kc 4 [9,8,7,6,0,2] 0 ?_;obtain⟨kx,mx,sx,lx,ax,hget⟩:=bK (show i<az.length by omega);have hxz:=bG hget;have hx1:=hinv.1.dl;have hx2:=hinv.1.dm;have hx3:=hinv.1.pl;have hx4:=hinv.1.pu;have hnm:=ih kx mx sx lx ax c d3 p3 w3 t3 hx2 hc (by omega) (by omega) (hA _ (List.mem_of_getElem? hget)) (by omega) (by omega);refine gz [0,1,2,3] mixed ?_;refine A1 4 rfl (cu bB bH ⟨_,rfl,?_⟩ (he:=by exact(bW hget)));refine ga [5,6] ?_;refine A2 7 rfl (aN Ix rfl rfl rfl rfl (hnm) [0,1,2] (bj (cr (bj .nil))) rfl rfl rfl rfl (an (bo (an .nil))) (fun s ob' hq=>?_) (fun s ob' hq=>?_));rotate_left
   ·obtain ⟨_,_,_,_,_,hq1,_⟩:=hq;cases hq1
   obtain⟨⟨kY,mY,sY,lY,aY⟩,d4,t4,w4,p4,hq1,rfl,hq3,hq4,hq5,hq6,hq7⟩:=hq;cases hq1;refine⟨_,_,_,_,_,rfl,rfl,rfl,rfl,rfl,?_⟩;refine A2 8 rfl (cv pt rfl rfl (dt k3 m3 s3 l3 a3 kY mY sY lY aY) (bo (an .nil)) ?_);refine A2 9 rfl (dN bw ?_);refine aZ ?_;refine ke 2 [9,8,7,6,0,2] 2 ?_;refine o1 (cG ?_);refine go 2 ?_;refine bk (i+1,w4,t4,d4,p4,ys++[.mk kY mY sY lY aY],3,0,.empty,[],[.mk k3 m3 s3 l3 a3,.mk kY mY sY lY aY]) rfl ?_ [0,1,2,3,4,5] mz;refine⟨⟨hinv.1.step hget hq3 hq4 hq5 hq6 hinv.2.1 hpr hq7,.inl (by omega),by rw[iq,hinv.2.2]⟩,show az.length-(i+1)<az.length-i by omega⟩
end
section
open Go Go.Vd Go.RowKit
attribute [local irreducible] bu bA di ak bL cU
variable {g gl:Nat→List D}
def RE(es:List cy)(most:Nat)(t:ae)(o:qC):Prop:= ∃n,RW es most n t 0 o
def FH(es:List cy)(most:Nat)(t:ae)(w:Bool)(out:Out)(ob':List Ob):Prop:=
 ∃(u:ae) (d':Nat) (code:Int) (w':Bool),out=.ret (.d (.bZ [u.d,.v (.int .i64 d'),.v (.int .i64 code)]))∧ob'=[bc es w',ba]∧d'≤most∧(code=0∨code=14)∧(code=0→w'=false)∧(w'=false→w=false∧((code=14∧RE es most t .cI)∨(code=0∧RE es most t (.ok u d'))))
theorem Eg{es:List cy}(hE:dg es){ps:List ByteArray}{c:Int}(hc:0≤c){most:Nat}(hm:most≤1000000)(w:Bool)(k m:Int)(s:ByteArray)(ls:List aP)(args:List ae)(hz:c+(ae.mk k m s ls args).size+30000*most≤1000000000000)(hw:Wt (eh es) ps (.mk k m s ls args) c):
 et Tryz.prog gl 32 [bc es w,ba] [.cb 0 0,.d (ae.mk k m s ls args).d,.d (.v (.int .i64 most))] (FH es most (.mk k m s ls args) w):=by
 have hwh:=Bu (gl:=gl) hE (ps:=ps) (c:=c) ⟨hc,by omega⟩ hm ((ae.mk k m s ls args).size+30000*(most-0)+1) w false k m s ls args 0 0 (by omega) (by omega) (by omega) hw;obtain⟨T0,hT0⟩:∃x,x=ae.mk k m s ls args:=⟨_,rfl⟩;rw[show FH es most (.mk k m s ls args) w=FH es most T0 w by rw[hT0]];rw[show yc es most ((ae.mk k m s ls args).size+30000*(most-0)+1) (.mk k m s ls args) 0 0 w false=yc es most ((ae.mk k m s ls args).size+30000*(most-0)+1) T0 0 0 w false by rw[hT0]] at hwh;generalize(ae.mk k m s ls args).size+30000*(most-0)+1=G at hwh;refine bS Tryz.func32 Tryz.ntmps32 2 ?_;refine kc 16 [9,6,4,0] 5 ?_;refine oc (aN KE rfl rfl rfl rfl (hwh) [0,1,4] (bj (cr (bj .nil))) rfl rfl rfl rfl (an (bo (an .nil))) (fun s ob' hq=>?_) (fun s ob' hq=>?_));rotate_left
 ·obtain ⟨_,_,_,_,hq1,_⟩:=hq;cases hq1
 obtain⟨⟨k1,m1,s1,l1,a1⟩,d1,t1,w1,hq1,rfl,hd1,hd2,hres⟩:=hq;cases hq1;refine⟨_,_,_,_,_,rfl,rfl,rfl,rfl,rfl,?_⟩;refine ko 5 [10,9,6,0] 7 ?_;refine' oo (yt:=26) (d:=22) 4 ?a1 ?b1 ?_
 case a1=>
  intro hc hK;refine go 4 ?_;exact hK [_,_,_,_] rfl rfl
 case b1=>
  intro _ hK;refine go 4 ?_;exact hK [_,_,_,_] rfl
 refine go 2 ?_;refine cj (fun h3=>?_) (fun h3=>?_)
 ·refine kc 0 [6] 10 ?_;refine eo (.bZ [aQ.d,.v (.int .i64 0),.v (.int .i64 14)]) [0,1] [bc es w1,ba] ?_
  ·refine ⟨aQ,0,14,w1,rfl,rfl,by omega,.inr rfl,fun h=>by omega,fun h=>?_⟩;obtain⟨e1,e2⟩:=hres h;refine⟨e1,?_⟩;rcases e2 with⟨e3,e4|e4⟩|⟨e3,e4,e5⟩
   ·cases e4
   ·exact .inl ⟨rfl,_,e4⟩
   ·exfalso;rw[e3,h] at h3;simp at h3
 refine kc 3 [10,9,6] 0 ?_;refine gz [0,1,2,3,4] mixed ?_;refine A2 5 rfl (dN bw ?_);refine ga [6,7] ?_;refine aZ ?_;refine ge 2 ?_;refine eo (.bZ [(ae.mk k1 m1 s1 l1 a1).d,.v (.int .i64 d1),.v (.int .i64 0)]) [0,1] [bc es w1,ba] ?_
 ·have hok:t1=false∧w1=false:=(by cases t1<;>cases w1<;>simp_all);obtain⟨rfl,rfl⟩:=hok;refine⟨.mk k1 m1 s1 l1 a1,d1,0,false,rfl,rfl,hd2,.inl rfl,fun _=>rfl,fun _=>?_⟩;obtain⟨e1,e2⟩:=hres rfl;refine⟨e1,?_⟩;rcases e2 with⟨e3,_⟩|⟨e3,e4,e5⟩
  ·cases e3
  ·exact .inr ⟨rfl,_,e5⟩
end
section
open Go Go.Vd Go.RowKit
attribute [local irreducible] bu bA di ak bL cU
variable {gl:Nat→List D}
def p3(i:Nat):Nat:=3^i
theorem Lt(i:Nat):p3 (i+1)=p3 i*3:=by simp[p3,Nat.pow_succ]
theorem MI{i:Nat}(h:i≤6):1≤p3 i∧p3 i≤729:=by
 rcases(show i=0∨i=1∨i=2∨i=3∨i=4∨i=5∨i=6 by omega) with rfl|rfl|rfl|rfl|rfl|rfl|rfl<;>decide
def dv(k i:Nat):Nat:=k/3^i
theorem PI(k i:Nat):dv k i≤k:=Nat.div_le_self _ _
theorem L5(k i:Nat):dv k (i+1)=dv k i/3:=by unfold dv;rw[Nat.pow_succ,←Nat.div_div_eq_div_mul]
theorem L4(k:Nat):dv k 0=k:=by unfold dv;rw[Nat.pow_zero,Nat.div_one]
theorem Jb(Fu:Int)(r:Nat):[[D.v (.int .i64 0)],[D.v (.int .i64 1)],[D.v (.int .i64 Fu)]][((r:Int)%3).toNat]? =some [D.v (.int .i64 (FV Fu r))]:=by
 have e:((r:Int)%3).toNat=r%3:=by omega
 have:r%3<3:=Nat.mod_lt _ (by omega);rw[e];unfold FV;rcases(show r%3=0∨r%3=1∨r%3=2 by omega) with h|h|h<;>simp[h]
theorem j4:∀(l:eC) (ah:List ByteArray),ah.length≤(l.params ah).length
 | .zero,_=>Nat.le_refl _
 | .succ a,ah=>j4 a ah
 | .max a b,ah=>Nat.le_trans (j4 a ah) (j4 b _)
 | .imax a b,ah=>Nat.le_trans (j4 a ah) (j4 b _)
 | .param s,ah=>by simp only[eC.params];split<;>simp
end
section
open Go Go.Vd Go.RowKit
attribute [local irreducible] bu bA di ak bL cU
variable {gl:Nat→List D}
theorem At:∀(n:Nat) (k:Int) (s:ByteArray) (args:List aP) (k2:Int) (s2:ByteArray) (args2:List aP),(aP.mk k s args).size≤n→(aP.mk k s args).size≤1099511627776→
 cD Tryz.prog gl 70 [(aP.mk k s args).d,(aP.mk k2 s2 args2).d] (· =.v (.bool (aP.same (.mk k s args) (.mk k2 s2 args2)))):=by
 intro n
 induction n with
 |zero=>intro k s args k2 s2 args2 h;simp[aP.size] at h
 |succ n ih=>
  intro k s args k2 s2 args2 hn hb;have hsz:bh args≤n:=by simp[aP.size] at hn;omega
  have hlen:=bV args;have hlen2:=bV args2;have hlb:=iv args;simp only[aP.size] at hb;refine bD Tryz.func70 Tryz.ntmps70 ?_;refine gc 16 ?_;refine' oo (yt:=17) (d:=12) 5 ?a1 ?b1 ?_
  case a1=>
   intro hc hK;refine go 5 ?_;exact hK [_,_,_,_,_] rfl rfl
  case b1=>
   intro _ hK;refine go 5 ?_;exact hK [_,_,_,_,_] rfl
  refine go 1 ?_;refine' oo (yt:=26) (d:=19) 7 ?a2 ?b2 ?_
  case a2=>
   intro hc hK;refine go 7 ?_;exact hK [_,_,_,_,_,_,_] rfl rfl
  case b2=>
   intro _ hK;refine go 7 ?_;exact hK [_,_,_,_,_,_,_] rfl
  refine go 2 ?_;refine cj (fun h1=>?_) (fun h1=>?_)
  ·refine kc 0 [] 7 ?_;refine ez ?_;rw[aP.jz];rcases h1 with(h|h)|h
   ·simp [h]
   ·simp [h]
   ·have:fq args args2=false:=by
     cases hs:fq args args2 with
     |false=>rfl
     |true=>exact absurd (by have:=um hs;omega) h
    simp[this]
  refine kc 3 [3,2] 6 ?_;refine lP (ι:=Nat) (fun i=>[(5,int i)]) [3,2] (fun i=>i≤args.length∧fq (args.take i) (args2.take i)=true) (fun i=>args.length-i) (0) rfl ?I3 ?M3 ?H3
  case I3=>
   exact⟨Nat.zero_le _,by simp[fq]⟩
  case M3=>
   exact mz
  case H3=>
   rintro i hinv
   try dsimp only at hinv
   refine kc 0 [5,3,2] 10 ?_;refine cJ (fun h4=>?_) (fun h4=>?_)
   ·refine kc 5 [] 6 ?_;refine ez ?_;rw[aP.jz];have h9:=hinv.2;rw[List.take_of_length_le (by omega),List.take_of_length_le (by omega)] at h9;simp[h9,h1]
   refine kc 5 [5,3,2] 0 ?_;obtain⟨k',s',a',hget⟩:=dh (show i<args.length by omega);obtain⟨k2',s2',a2',hget2⟩:=dh (show i<args2.length by omega);have hsz':=jE hget;refine gz [0,1,2] mixed ?_;refine A1 3 rfl (cu fo fH ⟨_,rfl,?_⟩ (he:=by exact(dD hget)));refine ga [4,5,6,7] ?_;refine A1 8 rfl (cu fo fH ⟨_,rfl,?_⟩ (he:=by exact(dD hget2)));refine ga [9] ?_;refine A2 10 rfl (cv Mi rfl rfl (ih k' s' a' k2' s2' a2' (by omega) (by omega)) (bo (bo .nil)) ?_);refine ga [11] ?_;refine aZ ?_;refine ke 1 [6,5,3,2] 6 ?_;refine cj (fun h7=>?_) (fun h7=>?_)
   ·refine kc 0 [] 11 ?_;refine ez ?_;rw[aP.jz];rw[pU hget hget2 h7];simp
   refine gc 5 ?_;refine o1 (cG ?_);refine go 2 ?_;refine bi (i+1) rfl ?_ mz;exact⟨⟨by omega,by rw[wI hget hget2];simp[hinv.2,h7]⟩,by omega⟩
end
end Go.Proofs.YtndbnldjidciiaaGreatDoor
namespace Go.Vd
open Go Go.RowKit
theorem fQ{l:List ae}{i:Nat}{a:ae}(h:l[i]? =some a):aj (l.take (i+1))=aj (l.take i)+a.size:=by
 rw[List.take_add_one,h];have:∀(l m:List ae),aj (l++m)=aj l+aj m:=fun l m=>by
  induction l with
  |nil=>simp[aj]
  |cons a r ih=>simp[aj,ih];omega
 simp[this,aj]
theorem fZ(l:List ae)(i:Nat):aj (l.take i)≤aj l:=by
 induction l generalizing i with
 |nil=>simp[aj]
 |cons a r ih=>
  cases i with
  |zero=>simp[aj]
  |succ i=>have:=ih i;simp only[List.take_succ_cons,aj];omega
end Go.Vd
namespace Go.Proofs.YtndbnldjidciiaaGreatDoor
section
open Go Go.Vd Go.RowKit
attribute [local irreducible] bu bA di ak bL cU
variable {g gl:Nat→List D}
theorem tt{L:List ByteArray}(hn:L.length≤6){a b:eC}(ha:∀p,a.has p→p∈L)(hb:∀p,b.has p→p∈L):(a.ps b).length≤6:=by
 refine Nat.le_trans (uw (b:=L) ?_ fun x hx=>?_) hn
 ·exact b.fU (a.fU List.nodup_nil)
 ·rcases b.jn hx with h|h
  ·rcases a.jn h with h|h
   ·cases h
   ·exact ha x h
  ·exact hb x h
theorem BF:∀(n:Nat) (k m:Int) (s:ByteArray) (ls:List aP) (args:List ae) (v:Int),(ae.mk k m s ls args).size≤n→(ae.mk k m s ls args).size≤1099511627776→0≤v→v+(ae.mk k m s ls args).size≤4398046511104→
 cD Tryz.prog gl 81 [(ae.mk k m s ls args).d,.v (.int .i64 v)] fun d=> ∃b:Bool,d=.v (.bool b):=by
 intro n
 induction n with
 |zero=>intro k m s ls args v h;simp[ae.size] at h
 |succ n ih=>
  intro k m s ls args v hsz hb hv0 hv1;simp only[ae.size] at hsz hb hv1;have hal:=aO args;have hsa:=br args;refine bD Tryz.func81 Tryz.ntmps81 ?_;refine gc 14 ?_;refine cj (fun h1=>?_) (fun h1=>?_)
  ·refine kc 0 [2,1] 11 ?_;refine ez ?_;exact⟨_,rfl⟩
  refine kc 3 [2,1] 6 ?_;refine lP (ι:=Nat) (fun i=>[(5,int i)]) [2,1] (fun i=>i≤args.length) (fun i=>args.length-i) (0) rfl ?I12 ?M12 ?H12
  case I12=>
   exact Nat.zero_le _
  case M12=>
   exact mz
  case H12=>
   rintro i hinv
   try dsimp only at hinv
   refine kc 0 [5,2,1] 10 ?_;refine cJ (fun h4=>?_) (fun h4=>?_)
   ·refine kc 5 [] 6 ?_;refine ez ?_;exact⟨_,rfl⟩
   refine kc 5 [5,2,1] 0 ?_;obtain⟨k2,m2,s2,l2,a2,hget⟩:=bK (show i<args.length by omega);have hg1:=bG hget;refine gc 10 ?_;refine oc (cv Md rfl rfl (nB k m s ls args i (by omega)) (bo (an .nil)) ?_);refine ko 2 [25,6,5,2,1] 0 ?_;refine xc (ι:=Unit) (fun _=>[(6,int (if decide (4≤k)=true∧i+1=args.length then v+1 else v))]) [5,2,1] (fun _=>True) rfl ?A13 ?B13
   case A13=>
    refine cJ (fun h7=>?_) (fun h7=>?_)
    ·refine gc 1 ?_;refine bi (()) rfl ?_ ?_
     ·trivial
     ·refine mo ?_ (ef rfl (by exact Fit.of_eq (by first|(rw[if_pos (by simp only[decide_eq_true_eq];omega)];rfl)|(rw[if_neg (by simp only[decide_eq_true_eq];omega)];rfl))) (aJ (aJ (aJ dC))))
      repeat (first|exact cH|refine bj ?_)
    refine gc 2 ?_;refine o1 (cG ?_);refine go 2 ?_;refine bi (()) rfl ?_ ?_
    ·trivial
    ·refine mo ?_ (ef rfl (by exact Fit.of_eq (by first|(rw[if_pos (by simp only[decide_eq_true_eq];omega)];rfl)|(rw[if_neg (by simp only[decide_eq_true_eq];omega)];rfl))) (aJ (aJ (aJ dC))))
     repeat (first|exact cH|refine bj ?_)
   case B13=>
    rintro _ hcut
    try dsimp only at hcut
    refine kc 0 [6,5,2,1] 1 ?_;have hihx:=ih k2 m2 s2 l2 a2 (if decide (4≤k)=true∧i+1=args.length then v+1 else v) (by omega) (by omega) (by split<;>omega) (by split<;>omega);refine gc 4 ?_;refine o1 (cu bB bH ?_ (he:=by exact(bW hget)));refine go 2 ?_;refine oc (T:=fun _=>False) (bJ PM rfl rfl rfl rfl (hihx) (bo (an .nil)) (fun d hd=>?_));obtain⟨r2,rfl⟩:=hd;refine ko 3 [7,5,2,1] 5 ?_;refine cj (fun h10=>?_) (fun h10=>?_)
    ·refine kc 0 [] 11 ?_;refine ez ?_;exact⟨_,rfl⟩
    refine gc 5 ?_;refine o1 (cG ?_);refine go 2 ?_;refine bi (i+1) rfl ?_ mz;exact⟨by omega,by omega⟩
mutual
theorem oN{v:ae}(hv:v.size≤1):∀(t:ae) (d:Int),(b0 (de v) t d).size≤t.size
 | .mk k n s ls args,d=>by
  by_cases hk:k=0
  ·rw [b0,if_pos hk,de];split
   ·simp only[ae.size];omega
   ·split
    ·rw [jk];simp only[ae.size];omega
    ·simp only[ae.size];omega
  ·rw [b0,if_neg hk];have:=ve hv args (decide (4≤k)) d;simp only[ae.size];omega
theorem ve{v:ae}(hv:v.size≤1):∀(l:List ae) (b:Bool) (d:Int),aj (bQ (de v) b l d)≤aj l
 |[],b,d=>by simp[bQ]
 |t::r,b,d=>by
  have h1:=oN hv t (if b&&r.isEmpty then d+1 else d);have h2:=ve hv r b d;simp only[bQ,aj];omega
end
theorem gV.JJ{sg:Sg}{ps:List ByteArray}{b:Bool}{c:Int}:∀{l:List ae},(∀ (j:Nat) y,l[j]? =some y→Wt sg ps y (if b=true∧j+1=l.length then c+1 else c))→gV sg ps b l c
 |[],_=>trivial
 |t::r,h=>by
  refine⟨?_,gV.JJ fun j y hy=>?_⟩
  ·have:=h 0 t rfl;cases r with
   |nil=>simpa using this
   |cons a r=>simpa using this
  ·have:=h (j+1) y hy
   simpa using this
theorem D3{sg:Sg}{ps:List ByteArray}:∀(n:Nat) (k m:Int) (s:ByteArray) (ls:List aP) (args:List ae) (c:Int),(ae.mk k m s ls args).size≤n→(ae.mk k m s ls args).size≤1000000000000→0≤c→c+(ae.mk k m s ls args).size≤2000000000000→Wt sg ps (.mk k m s ls args) c→
 cD Tryz.prog gl 49 [(ae.mk k m s ls args).d] fun d=> ∃u:ae,d=u.d∧Wt sg ps u (c+(ae.mk k m s ls args).size)∧u.size≤(ae.mk k m s ls args).size:=by
 intro n
 induction n with
 |zero=>intro k m s ls args c h;simp[ae.size] at h
 |succ n ih=>
  intro k m s ls args c hsz hb hc hcz hw;have hTz:(ae.mk k m s ls args).size=1+bh ls+aj args:=rfl;have hal:=aO args;have hsa:=br args;generalize hG:(ae.mk k m s ls args).size=G at hTz hsz hb hcz ⊢;refine bD Tryz.func49 Tryz.ntmps49 ?_;refine kc 18 [4,3,2,1] 0 ?_;refine bz 39 5 rfl ?_;refine lp (ι:=Nat×List ae) (fun⟨i,ys⟩=>[(4,int i),(3,.own 2 5 (aH ys))]) (fun⟨i,ys⟩=>[tO k m s ls args,zO,tR]) [2,1] (fun⟨i,ys⟩=>i≤args.length∧ys.length=i∧aj ys≤aj (args.take i)∧∀(j:Nat) y,ys[j]? =some y→Wt sg ps y (if decide (4≤k)=true∧j+1=args.length then c+aj args+1 else c+aj args)) (fun⟨i,ys⟩=>args.length-i) ((0,[])) ([0,1,2]) rfl ?I14 ?M14 ?H14
  case I14=>
   exact⟨Nat.zero_le _,rfl,Nat.zero_le _,fun j y h=>by cases h⟩
  case M14=>
   refine mo ?_ (aJ (ef rfl (by exact Fit.nil rfl) (aJ (aJ dC))))
   repeat (first|exact cH|refine bj ?_|refine qx ?_)
  case H14=>
   rintro⟨i,ys⟩ hinv
   try dsimp only at hinv
   refine kc 0 [4,3,2,1] 10 ?_;refine cj (fun h3=>?_) (fun h3=>?_)
   ·refine kc 4 [4,3,2,1] 0 ?_;obtain⟨kx,mx,sx,lx,ax,hget⟩:=bK (show i<args.length by omega);have hxz:=bG hget;have hxw:=gV.get hw.2.1 hget;obtain⟨cx,hcx,hcl⟩:∃cx,cx=(if decide (4≤k)=true∧i+1=args.length then c+1 else c)∧c≤cx∧cx≤c+1:=⟨_,rfl,by split<;>omega,by split<;>omega⟩;rw[← hcx] at hxw;have hnm:=ih kx mx sx lx ax cx (by omega) (by omega) (by omega) (by omega) hxw;have hytl:=aO ys;have hyl:=hinv.2.1;refine gc 5 ?_;refine o1 (cu bB bH ?_ (he:=by exact(bW hget)));refine go 1 ?_;refine oc (T:=fun _=>False) (bJ Ml rfl rfl rfl rfl (hnm) (bo .nil) (fun d hd=>?_));obtain⟨⟨kY,mY,sY,lY,aY⟩,rfl,hYw,hYz⟩:=hd;have hnx:aH ys++[[.v (.int .i64 kY),.v (.int .i64 mY),.v (.string sY),.sl 3 (bF lY),.sl 5 (aH aY)]]=aH (ys++[.mk kY mY sY lY aY]):=(by rw[dj];rfl);refine oc (gD dE [.tmp 21] bw ?_);refine oc (px dE ?_);refine ko 4 [3,4,2,1] 2 ?_;refine o1 (cG ?_);refine go 2 ?_;rw[hnx];refine bk (i+1,ys++[.mk kY mY sY lY aY]) rfl ?_ [0,1,2] mz
    ·refine ⟨⟨by omega,by rw[List.length_append,hinv.2.1];rfl,?_,fun j y hy=>?_⟩,show args.length-(i+1)<args.length-i by omega⟩
     ·have h1:=hinv.2.2.1;have h2:=fQ hget;rw[dF];simp only[aj];omega
     ·have hyl:=hinv.2.1;rcases Nat.lt_or_ge j i with hji|hji
      ·rw [List.getElem?_append_left (by omega)] at hy;exact hinv.2.2.2 j y hy
      ·rw [List.getElem?_append_right (by omega)] at hy;have hj:j=i:=by
        have h3:=(List.getElem?_eq_some_iff.1 hy).1;simp only[List.length_cons,List.length_nil] at h3;omega
       subst hj;rw[hyl,Nat.sub_self] at hy;cases hy;refine hYw.up ?_;rw[hcx];split<;>omega
   refine kc 6 [3,2,1] 0 ?_;have hi:i=args.length:=(by omega);have hyl:=hinv.2.1;have hyz:=hinv.2.2.1;have hy4:=hinv.2.2.2;rw[hi,List.take_length] at hyz;rw[hi] at hyl;have hN:Wt sg ps (.mk k m s ls ys) (c+aj args):=⟨hw.1,gV.JJ (by rw[hyl];exact hy4),by rw[hyl];exact hw.2.2.imp (fun _ h=>⟨h.1,by omega⟩) fun _ h=>h⟩;have hNz:(ae.mk k m s ls ys).size≤G:=(by simp only[ae.size];omega);have hws:=jX (gl:=gl) k m s ls args ys;obtain⟨kb,mb,sb,lb,ab,hb1⟩:∃kb mb sb lb ab,k=4→ys[1]? =some (.mk kb mb sb lb ab):=(by
    by_cases h:k=4
    ·obtain ⟨A,⟨kb,mb,sb,lb,ab⟩,e,_⟩:=hN.two (.inr (.inl h));exact⟨kb,mb,sb,lb,ab,fun _=>by rw[e];rfl⟩
    ·exact ⟨0,0,.empty,[],[],fun e=>absurd e h⟩)
   refine gc 3 ?_;refine oc (cv Iu rfl rfl (hws) (bo (bo .nil)) ?_);refine ko 4 [2,1] 6 ?_;refine' oo (yt:=36) (d:=30) 6 ?a6 ?b6 ?_
   case a6=>
    intro hc hK;refine go 2 ?_;refine gy ?_;refine o1 (cu bB bH ?_ (he:=by exact(bW (hb1 hc))));refine go 3 ?_;exact hK [_,_,_,_,_,_] rfl rfl
   case b6=>
    intro _ hK;refine go 6 ?_;exact hK [_,_,_,_,_,_] rfl
   refine go 2 ?_;refine cj (fun h7=>?_) (fun h7=>?_)
   ·refine kc 0 [2,1] 8 ?_;refine ed ((ae.mk k m s ls ys).d) ?_;exact⟨_,rfl,hN.up (by omega),hNz⟩
   refine kc 3 [2,1] 0 ?_;obtain rfl:k=4:=(by omega);obtain rfl:kb=3:=(by omega);obtain⟨⟨kA,mA,sA,lA,aA⟩,bb,rfl,rfl,rfl,rfl,hA,hB⟩:=hN.two (.inr (.inl rfl));obtain rfl:bb=.mk 3 mb sb lb ab:=(by have:=hb1 rfl;cases this;rfl);rw[if_neg (by decide)] at hB;obtain⟨⟨kf,mf,sf,lf,af⟩,⟨kx,mx,sx,lx,ax⟩,rfl,rfl,rfl,rfl,hF,hX⟩:=hB.two (.inl rfl);have hFz:(ae.mk kf mf sf lf af).size+3≤G:=(by simp only[ae.size,aj] at hNz ⊢;omega);have hst:=BF (gl:=gl) _ kf mf sf lf af 0 (Nat.le_refl _) (by omega) (by omega) (by omega);have hW:Wt sg ps (dp (.mk kf mf sf lf af) (.mk 0 0 .empty [] [])) (c+aj args+1):=Wt.sub (by omega) (hF.up (by omega)) (Wt.var (by omega) (by omega));have hWz:(dp (.mk kf mf sf lf af) (.mk 0 0 .empty [] [])).size≤(ae.mk kf mf sf lf af).size:=oN (by decide) _ _;have hsub:=qe (gl:=gl) (B:=4398046511104) (by omega) 0 0 .empty [] [] ((Wt.var (sg:=sg) (ps:=ps) (c:=1) (by omega) (by omega)).sh (by simp only[ae.size,bh,aj];omega)) (by simp only[ae.size,bh,aj];omega) kf mf sf lf af (hF.sh (by omega)) (by omega);obtain⟨kU,mU,sU,lU,aU,hU⟩:=ae.case (dp (.mk kf mf sf lf af) (.mk 0 0 .empty [] []))
   rw[hU] at hsub hW hWz;refine gc 3 ?_;refine o1 (cu bB bH ?_ (he:=by exact(rfl)));refine ko 5 [5,2,1] 4 ?_;refine o1 (cu bB bH ?_ (he:=by exact(rfl)));refine ko 5 [6,5,2,1] 4 ?_;refine o1 (cu bB bH ?_ (he:=by exact(rfl)));refine go 1 ?_;refine oc (T:=fun _=>False) (bJ PM rfl rfl rfl rfl (hst) (bo (an .nil)) (fun d hd=>?_));obtain⟨r2,rfl⟩:=hd;refine ko 4 [7,6,5,2,1] 6 ?_;refine' oo (yt:=58) (d:=55) 3 ?a7 ?b7 ?_
   case a7=>
    intro hc hK;refine go 3 ?_;exact hK [_,_,_] rfl rfl
   case b7=>
    intro _ hK;refine go 3 ?_;exact hK [_,_,_] rfl
   refine go 1 ?_;refine' oo (yt:=61) (d:=60) 1 ?a8 ?b8 ?_
   case a8=>
    intro hc hK;refine go 1 ?_;exact hK [_] rfl rfl
   case b8=>
    intro _ hK;refine go 1 ?_;exact hK [_] rfl
   refine go 2 ?_;refine cj (fun h12=>?_) (fun h12=>?_)
   ·refine kc 0 [2,1] 8 ?_;refine ed ((ae.mk 4 0 .empty [] [.mk kA mA sA lA aA,.mk 3 0 .empty [] [.mk kf mf sf lf af,.mk kx mx sx lx ax]]).d) ?_;exact⟨_,rfl,hN.up (by omega),hNz⟩
   refine kc 3 [5,2] 0 ?_;refine gz [0,1] mixed ?_;refine A1 2 rfl (cu bB bH ⟨_,rfl,?_⟩ (he:=by exact(rfl)));refine ga [3] ?_;refine A2 4 rfl (cv Mh rfl rfl (qX 0) (an .nil) ?_);refine A2 5 rfl (cv Ot rfl rfl (hsub) (bo (an .nil)) ?_);refine A2 6 rfl (dN bw ?_);refine aZ ?_;refine ge 2 ?_;refine ed ((ae.mk kU mU sU lU aU).d) ?_;exact⟨_,rfl,hW.up (by omega),by omega⟩
end
section
open Go Go.Vd Go.RowKit
attribute [local irreducible] bu bA di ak bL cU
variable {g gl:Nat→List D}
structure RD where
 kd:Int
 sd:ByteArray
 pd:List ByteArray
 k1:Int
 n1:Int
 s1:ByteArray
 l1:List aP
 a1:List ae
 k2:Int
 n2:Int
 s2:ByteArray
 l2:List aP
 a2:List ae
 ad:Int
 cd:List (ByteArray×ae)
def RD.dec(x:RD):dP:=.mk x.kd x.sd x.pd (.mk x.k1 x.n1 x.s1 x.l1 x.a1) (.mk x.k2 x.n2 x.s2 x.l2 x.a2) x.ad x.cd
def fJ(x:RD)(m:Int)(n:Nat)(mot:Int):Ob:=.cells [.d (.v (.int .i64 x.kd)),.d (.v (.string x.sd)),.d (.sl 1 (strs x.pd)),.d (.v (.int .i64 x.k1)),.d (.v (.int .i64 x.n1)),.d (.v (.string x.s1)),.d (.sl 3 (bF x.l1)),.d (.sl 5 (aH x.a1)),.d (.v (.int .i64 x.k2)),.d (.v (.int .i64 x.n2)),.d (.v (.string x.s2)),.d (.sl 3 (bF x.l2)),.d (.sl 5 (aH x.a2)),.d (.v (.int .i64 x.ad)),.d (.sl 6 (gM x.cd)),.d (.v (.int .i64 m)),.arr 1 n,.d (.v (.int .i64 mot))] 232
def uQ(x:RD):Ob:=.cells [.d (.v (.int .i64 x.kd)),.d (.v (.string x.sd)),.d (.sl 1 (strs x.pd)),.d (.v (.int .i64 x.k1)),.d (.v (.int .i64 x.n1)),.d (.v (.string x.s1)),.d (.sl 3 (bF x.l1)),.d (.sl 5 (aH x.a1)),.d (.v (.int .i64 x.k2)),.d (.v (.int .i64 x.n2)),.d (.v (.string x.s2)),.d (.sl 3 (bF x.l2)),.d (.sl 5 (aH x.a2)),.d (.v (.int .i64 x.ad)),.d (.sl 6 (gM x.cd))] 61
def lO(k:Int)(s:ByteArray)(args:List aP):Ob:=.cells [.d (.v (.int .i64 k)),.d (.v (.string s)),.d (.sl 3 (bF args))] 121
def Dn(cs:List (ByteArray×ae)):Nat:=aj (cs.map (·.2))
variable {i:Nat}
theorem Kx{cs:List (ByteArray×ae)}{c:ByteArray×ae}(h:cs[i]? =some c):Dn (cs.take (i+1))=Dn (cs.take i)+c.2.size:=by
 unfold Dn;rw[List.map_take,List.map_take,fQ (a:=c.2) (by rw[List.getElem?_map,h];rfl)]
theorem Ma(cs:List (ByteArray×ae)):cs.length≤Dn cs:=by
 have:=br (cs.map (·.2));rw[List.length_map] at this;exact this
def fp(bs:List ae):Ob:=.buf 39 5 (aH bs) none
def vr(n:Int):ae:=.mk 0 n .empty [] []
def DK(sg:Sg)(ps:List ByteArray)(bs:List ae):Prop:= ∀(i:Nat) x,bs[i]? =some x→Wt sg ps x i
variable {sg:Sg} {ps:List ByteArray} {bs:List ae} {t:ae}
theorem DK.app(h:DK sg ps bs)(ht:Wt sg ps t bs.length):DK sg ps (bs++[t]):=by
 intro i x hx;rcases Nat.lt_or_ge i bs.length with hi|hi
 ·rw [List.getElem?_append_left hi] at hx;exact h i x hx
 ·rw [List.getElem?_append_right hi] at hx;have h3:=(List.getElem?_eq_some_iff.1 hx).1;simp only[List.length_cons,List.length_nil] at h3;obtain rfl:i=bs.length:=by omega
  rw[Nat.sub_self] at hx;cases hx;exact ht
def rj(xs:List ae)(t:ae):ae:=xs.foldr (fun x h=>.mk 5 0 .empty [] [x,h]) t
theorem nY(xs:List ae)(h:ae):(rj xs h).size=aj xs+xs.length+h.size:=by
 unfold rj
 induction xs with
 |nil=>simp[aj]
 |cons x r ih=>rw[List.foldr_cons];simp only[ae.size,bh,aj,List.length_cons,ih];omega
theorem F2{sg:Sg}{ps:List ByteArray}:∀{xs:List ae} {h:ae} {c:Int},(∀ (i:Nat) x,xs[i]? =some x→Wt sg ps x (c+i))→Wt sg ps h (c+xs.length)→Wt sg ps (rj xs h) c
 |[],h,c,_,hw=>by simpa[rj] using hw
 |x::r,h,c,hx,hw=>by
  refine Wt.bind (.inr rfl) (by simpa using hx 0 x rfl) (F2 (fun i y hy=>?_) ?_)
  ·have:=hx (i+1) y (by simpa using hy)
   rwa [show c+1+(i:Int)=c+((i+1:Nat):Int) by omega]
  ·rw [show c+1+(r.length:Int)=c+((x::r).length:Int) by simp only[List.length_cons];omega];exact hw
theorem DK.wN(h:DK sg ps bs){n:Nat}(hn:n≤bs.length)(ht:Wt sg ps t bs.length):Wt sg ps (rj (bs.drop n) t) n:=by
 refine F2 (fun i x hx=>?_) (by rw[List.length_drop];exact ht.up (by omega));rw[List.getElem?_drop] at hx;exact(h _ _ hx).up (by omega)
def vars(n:Int)(pl:List Int):List ae:=pl.map fun p=>vr (n-1-p)
def AM(n:Int)(pl:List Int)(t:ae):ae:=gp (vars n pl) pl.length t
variable {n:Int} {pl:List Int}
theorem qD(h:∀p∈pl,0≤p∧p<n):∀x∈vars n pl,Wt sg ps x n:=by
 intro x hx;obtain⟨p,hp,rfl⟩:=List.mem_map.1 hx;have:=h p hp;exact Wt.var (by omega) (by omega)
theorem nQ(n:Int)(pl:List Int):(vars n pl).length=pl.length:=by simp[vars]
theorem j8(n:Int)(pl:List Int):aj (vars n pl)=pl.length:=by
 unfold vars
 induction pl with
 |nil=>rfl
 |cons p r ih=>rw[List.map_cons,aj,ih,List.length_cons];simp only[vr,ae.size,bh,aj];omega
theorem Bv(h:i<pl.length):(vars n pl).getD i aQ=vr (n-1-pl[i]):=by
 simp[vars,List.getD_eq_getElem?_getD,h]
theorem AP(m i:Int)(h:0≤m):dz (vr m) i 0=vr (m+i):=by
 rw[dY];unfold vr;rw[cO,dK];rw[if_pos (by omega)]
theorem EH(h:∀p∈pl,0≤p∧p<n):∀(i:Nat) (t:ae),i≤pl.length→(gp (vars n pl) i t).size≤t.size:=by
 intro i
 induction i with
 |zero=>intro t _;exact Nat.le_refl _
 |succ i ih=>
  intro t hi;rw[gp,Bv (by omega)];have hp:=h _ (List.getElem_mem (show i<pl.length by omega));rw[AP _ _ (by omega)];refine Nat.le_trans (ih _ (by omega)) ?_;exact oN (v:=vr _) (by simp[vr,ae.size,bh,aj]) t 0
theorem vW(hn:0≤n)(h:∀p∈pl,0≤p∧p<n)(ht:Wt sg ps t pl.length):Wt sg ps (AM n pl t) n∧(AM n pl t).size≤t.size:=
 ⟨Wt.gp hn (qD h) _ (by rw[nQ];exact Nat.le_refl _) (ht.up (by omega)),EH h _ _ (Nat.le_refl _)⟩
theorem nC(x:RD)(m mot:Int)(bs:List ae)(i:Int)(hb:bs.length≤1099511627776)(hi:0≤i∧i≤1099511627776):
 et Tryz.prog gl 178 [fJ x m bs.length mot,fp bs] [.cb 0 0,.d (.v (.int .i64 i))] fun out ob'=>out=.ret (.d (vr (bs.length-1-i)).d)∧ob'=[fJ x m bs.length mot,fp bs]:=by
 refine bS Tryz.func178 Tryz.ntmps178 2 ?_;refine gc 11 ?_;refine o1 (gI bB rfl rfl ?_);refine o1 (iC ?_);refine go 1 ?_;refine o1 (iC ?_);refine oc (cv Mh rfl rfl (qX (bs.length-1-i)) (an .nil) ?_);refine go 4 ?_;refine eo ((vr (bs.length-1-i)).d) [0,1] [fJ x m bs.length mot,fp bs] ?_
 ·exact ⟨rfl,rfl⟩
theorem iH(x:RD)(m mot:Int)(bs:List ae)(k n:Int)(s:ByteArray)(ls:List aP)(args:List ae)(hb:bs.length≤1000000000000):
 et Tryz.prog gl 175 [fJ x m bs.length mot,fp bs] [.cb 0 0,.d (ae.mk k n s ls args).d] fun out ob'=>out=.ret (.d (.bZ []))∧ob'=[fJ x m (bs++[ae.mk k n s ls args]).length mot,fp (bs++[ae.mk k n s ls args])]:=by
 have hbl:=aO bs;have hset:(aH bs++[[D.v (.int .i64 0),.v (.int .i64 0),.v (.string { data:= #[] }),.v (.slice none 0 0),.v (.slice none 0 0)]]).set (bs.length:Int).toNat [D.v (.int .i64 k),.v (.int .i64 n),.v (.string s),.sl 3 (bF ls),.sl 5 (aH args)]=aH (bs++[ae.mk k n s ls args]):=by
  rw[dj,Int.toNat_natCast,←hbl,List.set_append_right _ _ (Nat.le_refl _),Nat.sub_self];rfl
 have hlen2:(aH bs++[[D.v (.int .i64 0),.v (.int .i64 0),.v (.string { data:= #[] }),.v (.slice none 0 0),.v (.slice none 0 0)]]).length=(bs++[ae.mk k n s ls args]).length:=by
  rw[List.length_append,List.length_append,hbl];rfl
 refine bS Tryz.func175 Tryz.ntmps175 2 ?_;refine gc 5 ?_;refine gz [0,1,2,3,4] mixed ?_;refine A1 5 rfl (gI bB rfl rfl ⟨_,rfl,?_⟩);refine A2 6 rfl (gD dE [.const _] bw ?_);refine A2 7 rfl (nL dE rfl rfl rfl rfl rfl rfl rfl (by decide) (by simp) (by(simp only[maxLen,List.length_cons,List.length_nil];omega)) rfl rfl rfl ?_);refine A1 8 rfl (dL bB bH rfl rfl rfl rfl rfl rfl (by(simp only[List.length_append,List.length_cons,List.length_nil];omega)) ⟨_,rfl,?_⟩);refine ga [10,11] ?_;refine cT (rs:=[9,12]) (by kernel_rfl) rfl ⟨?_,?_,trivial⟩
 ·skip
  refine A4 9 rfl (fO bw rfl rfl rfl rfl rfl rfl rfl rfl rfl rfl rfl rfl ⟨rfl,by(simp only[List.length_append,List.length_cons,List.length_nil];omega)⟩ rfl ?_);refine A2 12 rfl (dN Bz ?_);refine aZ ?_;refine fN ?_;rw[hset,hlen2];refine jO (l:=[]) rfl rfl ([0,1]) ([fJ x m (bs++[ae.mk k n s ls args]).length mot,fp (bs++[ae.mk k n s ls args])]) rfl rfl rfl ?_ ?_
  ·repeat (first|exact cH|refine bj ?_|refine ya ?_)
  ·exact ⟨rfl,rfl⟩
 ·skip
  refine A4 12 rfl (dN Bz ?_);refine A2 9 rfl (fO bw rfl rfl rfl rfl rfl rfl rfl rfl rfl rfl rfl rfl ⟨rfl,by(simp only[List.length_append,List.length_cons,List.length_nil];omega)⟩ rfl ?_);refine aZ ?_;refine fN ?_;rw[hset,hlen2];refine jO (l:=[]) rfl rfl ([0,1]) ([fJ x m (bs++[ae.mk k n s ls args]).length mot,fp (bs++[ae.mk k n s ls args])]) rfl rfl rfl ?_ ?_
  ·repeat (first|exact cH|refine bj ?_|refine ya ?_)
  ·exact ⟨rfl,rfl⟩
end
section
open Go Go.Vd Go.RowKit
attribute [local irreducible] bu bA di ak bL cU
variable {g gl:Nat→List D}
def OR(w:Bool)(es:List cy)(out:Out)(ob':List Ob):Prop:=
 ∃(r:Bool) (code:Int) (w':Bool),out=.ret (.d (.bZ [.v (.bool r),.v (.int .i64 code)]))∧ob'=[bc es w',ba]∧(code=0∨code=14)∧(code=0→w'=false)∧(w'=false→w=false)
end
section
open Go Go.Vd Go.RowKit
attribute [local irreducible] bu bA di ak bL cU
variable {g gl:Nat→List D}
mutual
def LF:aP→Prop
 | .mk _ _ args=>args.length≤1000000∧NN args
def NN:List aP→Prop
 |[]=>True
 |t::r=>LF t∧NN r
end
theorem n6:∀{l:List aP} {i:Nat} {t:aP},NN l→l[i]? =some t→LF t
 |a::r,0,t,h,hi=>by cases hi;exact h.1
 |a::r,i+1,t,h,hi=>n6 (l:=r) (i:=i) h.2 (by simpa using hi)
theorem jy:∀x:eC,LF x.cC
 | .zero=>⟨by decide,trivial⟩
 | .succ a=>⟨by simp,jy a,trivial⟩
 | .max a b=>⟨by simp,jy a,jy b,trivial⟩
 | .imax a b=>⟨by simp,jy a,jy b,trivial⟩
 | .param s=>⟨by decide,trivial⟩
theorem uC:∀(n:Nat) (k:Int) (s:ByteArray) (args:List aP) (most:Int),(aP.mk k s args).size≤n→LF (.mk k s args)→0≤most→most≤1099511627776→
 cD Tryz.prog gl 103 [(aP.mk k s args).d,.v (.int .i64 most)] fun d=> ∃r:Int,d=.v (.int .i64 r)∧1≤r∧r≤most+1∧(r≤most→r=(aP.mk k s args).size):=by
 intro n
 induction n with
 |zero=>intro k s args most h;simp[aP.size] at h
 |succ n ih=>
  intro k s args most hsz hb hm0 hm1;simp only[aP.size] at hsz;obtain⟨hb1,hb2⟩:=hb;have hal:=bV args;refine bD Tryz.func103 Tryz.ntmps103 ?_;refine kc 18 [6,5,2,1] 0 ?_;refine lP (ι:=Nat×Int) (fun⟨i,c⟩=>[(6,int i),(5,int c)]) [2,1] (fun⟨i,c⟩=>i≤args.length∧1≤c∧c≤most+1∧(c≤most→c=1+bh (args.take i))) (fun⟨i,c⟩=>args.length-i) ((0,1)) rfl ?I4 ?M4 ?H4
  case I4=>
   exact⟨Nat.zero_le _,by omega,by omega,fun _=>by simp[bh]⟩
  case M4=>
   exact mz
  case H4=>
   rintro⟨i,c⟩ hinv
   try dsimp only at hinv
   refine kc 0 [6,5,2,1] 9 ?_;refine' oa (yt:=16) (d:=13) 3 ?a1 ?b1 ?_
   case a1=>
    intro hc hK;refine go 3 ?_;exact hK [_,_,_] rfl rfl
   case b1=>
    intro _ hK;refine go 3 ?_;exact hK [_,_,_] rfl
   refine go 2 ?_;refine cJ (fun h3=>?_) (fun h3=>?_)
   ·refine kc 5 [5] 2 ?_;have hend:c≤most→i=args.length:=(fun h=>by omega);refine go 5 ?_;refine ez ?_;exact⟨c,rfl,hinv.2.1,hinv.2.2.1,fun h=>by rw[hinv.2.2.2 h,hend h,List.take_length];simp only[aP.size];omega⟩
   refine kc 5 [6,5,2,1] 0 ?_;obtain⟨k',s',a',hget⟩:=dh (show i<args.length by omega);have hg1:=eI hget;refine gc 4 ?_;refine o1 (cu fo fH ?_ (he:=by exact(dD hget)));refine go 3 ?_;refine o1 (iC ?_);refine oc (T:=fun _=>False) (bJ Dv rfl rfl rfl rfl (ih k' s' a' (most-c) (by omega) (n6 hb2 hget) (by omega) (by omega)) (bo (an .nil)) (fun d hd=>?_));obtain⟨r,rfl,hr1,hr2,hr3⟩:=hd;refine ko 3 [7,6,5,2,1] 3 ?_;refine o1 (cG ?_);refine ko 4 [5,6,2,1] 2 ?_;refine o1 (cG ?_);refine go 2 ?_;refine bi (i+1,c+r) rfl ?_ mz;exact⟨⟨by omega,by omega,by omega,fun h=>by rw[gA hget];omega⟩,show args.length-(i+1)<args.length-i by omega⟩
theorem yp:∀(n:Nat) (k:Int) (s:ByteArray) (args:List aP) (k2:Int) (s2:ByteArray) (args2:List aP),(aP.mk k s args).size≤n→LF (.mk k s args)→LF (.mk k2 s2 args2)→
 cD Tryz.prog gl 70 [(aP.mk k s args).d,(aP.mk k2 s2 args2).d] fun d=> ∃b:Bool,d=.v (.bool b):=by
 intro n
 induction n with
 |zero=>intro k s args k2 s2 args2 h;simp[aP.size] at h
 |succ n ih=>
  intro k s args k2 s2 args2 hn hb hb2;simp only[aP.size] at hn;obtain⟨hb1,hb3⟩:=hb;obtain⟨hb4,hb5⟩:=hb2;have hlen:=bV args;have hlen2:=bV args2;refine bD Tryz.func70 Tryz.ntmps70 ?_;refine gc 16 ?_;refine' oo (yt:=17) (d:=12) 5 ?a2 ?b2 ?_
  case a2=>
   intro hc hK;refine go 5 ?_;exact hK [_,_,_,_,_] rfl rfl
  case b2=>
   intro _ hK;refine go 5 ?_;exact hK [_,_,_,_,_] rfl
  refine go 1 ?_;refine' oo (yt:=26) (d:=19) 7 ?a3 ?b3 ?_
  case a3=>
   intro hc hK;refine go 7 ?_;exact hK [_,_,_,_,_,_,_] rfl rfl
  case b3=>
   intro _ hK;refine go 7 ?_;exact hK [_,_,_,_,_,_,_] rfl
  refine go 2 ?_;refine cj (fun h1=>?_) (fun h1=>?_)
  ·refine kc 0 [] 7 ?_;refine ez ?_;exact⟨_,rfl⟩
  refine kc 3 [3,2] 6 ?_;refine lP (ι:=Nat) (fun i=>[(5,int i)]) [3,2] (fun i=>i≤args.length) (fun i=>args.length-i) (0) rfl ?I5 ?M5 ?H5
  case I5=>
   exact Nat.zero_le _
  case M5=>
   exact mz
  case H5=>
   rintro i hinv
   try dsimp only at hinv
   refine kc 0 [5,3,2] 10 ?_;refine cJ (fun h4=>?_) (fun h4=>?_)
   ·refine kc 5 [] 6 ?_;refine ez ?_;exact⟨_,rfl⟩
   refine kc 5 [5,3,2] 0 ?_;obtain⟨k',s',a',hget⟩:=dh (show i<args.length by omega);obtain⟨k2',s2',a2',hget2⟩:=dh (show i<args2.length by omega);have hsz':=eI hget;refine gz [0,1,2] mixed ?_;refine A1 3 rfl (cu fo fH ⟨_,rfl,?_⟩ (he:=by exact(dD hget)));refine ga [4,5,6,7] ?_;refine A1 8 rfl (cu fo fH ⟨_,rfl,?_⟩ (he:=by exact(dD hget2)));refine ga [9] ?_;refine A2 (T:=fun _=>False) 10 rfl (bJ Mi rfl rfl rfl rfl (ih k' s' a' k2' s2' a2' (by omega) (n6 hb3 hget) (n6 hb5 hget2)) (bo (bo .nil)) (fun d hd=>?_));obtain⟨r2,rfl⟩:=hd;refine ga [11] ?_;refine aZ ?_;refine ke 1 [6,5,3,2] 6 ?_;refine cj (fun h7=>?_) (fun h7=>?_)
   ·refine kc 0 [] 11 ?_;refine ez ?_;exact⟨_,rfl⟩
   refine gc 5 ?_;refine o1 (cG ?_);refine go 2 ?_;refine bi (i+1) rfl ?_ mz;exact⟨by omega,by omega⟩
theorem u4:∀(n:Nat) (k:Int) (s:ByteArray) (args:List aP),(aP.mk k s args).size≤n→LF (.mk k s args)→
 cD Tryz.prog gl 143 [(aP.mk k s args).d] fun d=> ∃r:Int,d=.v (.int .i64 r):=by
 intro n
 induction n with
 |zero=>intro k s args h;simp[aP.size] at h
 |succ n ih=>
  intro k s args hn hb;simp only[aP.size] at hn;obtain⟨hb1,hb2⟩:=hb;have hlen:=bV args;refine bD Tryz.func143 Tryz.ntmps143 ?_;refine kc 19 [7,3,1] 0 ?_;refine xc (ι:=Unit) (fun _=>[(3,int (if k=1 then 1 else 0))]) [1] (fun _=>True) rfl ?A6 ?B6
  case A6=>
   refine cJ (fun h2=>?_) (fun h2=>?_)
   ·refine gc 1 ?_;refine bi (()) rfl ?_ ?_
    ·trivial
    ·refine mo ?_ (ef rfl (by exact Fit.of_eq (by simp only[h2,if_true,if_false];rfl)) (aJ dC))
     repeat (first|exact cH|refine bj ?_)
   refine gc 3 ?_;refine bi (()) rfl ?_ ?_
   ·trivial
   ·refine mo ?_ (ef rfl (by exact Fit.of_eq (by simp only[h2,if_true,if_false];rfl)) (aJ dC))
    repeat (first|exact cH|refine bj ?_)
  case B6=>
   rintro _ hcut
   try dsimp only at hcut
   refine kc 0 [3,1] 7 ?_;refine lP (ι:=Nat×Int) (fun⟨i,c⟩=>[(4,int i),(3,int c)]) [1] (fun⟨i,c⟩=>i≤args.length) (fun⟨i,c⟩=>args.length-i) ((0,if k=1 then 1 else 0)) rfl ?I7 ?M7 ?H7
   case I7=>
    exact Nat.zero_le _
   case M7=>
    exact mz
   case H7=>
    rintro⟨i,c⟩ hinv
    try dsimp only at hinv
    refine kc 0 [4,3,1] 10 ?_;refine cJ (fun h5=>?_) (fun h5=>?_)
    ·refine kc 5 [3] 7 ?_;refine ez ?_;exact⟨_,rfl⟩
    refine kc 4 [4,3,1] 0 ?_;obtain⟨k',s',a',hget⟩:=dh (show i<args.length by omega);have hsz':=eI hget;refine gc 5 ?_;refine o1 (cu fo fH ?_ (he:=by exact(dD hget)));refine go 1 ?_;refine oc (T:=fun _=>False) (bJ KG rfl rfl rfl rfl (ih k' s' a' (by omega) (n6 hb2 hget)) (bo .nil) (fun d hd=>?_));obtain⟨r,rfl⟩:=hd;refine o1 (vZ rfl rfl rfl ?_);refine ko 4 [3,4,1] 2 ?_;refine o1 (cG ?_);refine go 2 ?_;refine bi (i+1,IntKind.i64.wrap (c+r)) rfl ?_ mz;exact⟨by omega,show args.length-(i+1)<args.length-i by omega⟩
end
section
open Go Go.Vd Go.RowKit
attribute [local irreducible] bu bA di ak bL cU
variable {g gl:Nat→List D}
mutual
theorem xn:∀(l:aP) (ah:List ByteArray),ah.length≤(l.params ah).length
 | .mk k s args,ah=>by
  simp only[aP.params];split
  ·split<;>simp
  ·exact qc args ah
theorem qc:∀(ls:List aP) (ah:List ByteArray),ah.length≤(db ls ah).length
 |[],ah=>by simp[db]
 |l::r,ah=>by
  simp only[db];exact Nat.le_trans (xn l ah) (qc r _)
end
theorem yy(l:List aP)(i:Nat)(ah:List ByteArray):(db (l.take i) ah).length≤(db l ah).length:=by
 have h:=qc (l.drop i) (db (l.take i) ah)
 rwa [← p7,List.take_append_drop] at h
theorem tw:∀(n:Nat) (k:Int) (s:ByteArray) (args:List aP) (ah:List ByteArray),(aP.mk k s args).size≤n→LF (.mk k s args)→((aP.mk k s args).params ah).length≤1000000→
 et Tryz.prog gl 100 [.row 9 1] [.d (aP.mk k s args).d,.own 0 1 (strs ah)] fun out ob'=>out=.ret (.own 0 1 (strs ((aP.mk k s args).params ah)))∧ob'=[.row 9 1]:=by
 intro n
 induction n with
 |zero=>intro k s args ah h;simp[aP.size] at h
 |succ n ih=>
  intro k s args ah hn hb hpl;simp only[aP.size] at hn;have hge:=xn (.mk k s args) ah;obtain⟨hb1,hb2⟩:=hb;have hlen:=bV args;have hlen2:=cQ ah;have hpL:¬k=4→(db args ah).length≤1000000:=(fun h=>by rw[aP.params,if_neg h] at hpl;exact hpl);refine bS Tryz.func100 Tryz.ntmps100 1 ?_;refine gc 14 ?_;refine cj (fun h1=>?_) (fun h1=>?_)
  ·refine kc 0 [2,1] 5 ?_;refine oc (cv Ad rfl rfl (jx s ah (by omega)) (an (bo .nil)) ?_);refine ko 4 [5,2,1] 6 ?_;refine cJ (fun h3=>?_) (fun h3=>?_)
   ·refine kc 2 [1] 8 ?_;refine fR ?_;refine iw ⟨_,_,rfl,rfl,rfl⟩ [0] (.own 0 1 (strs ah)) ([.row 9 1]) rfl rfl rfl ?_ rfl ?_ ?_
    ·repeat (first|exact cH|refine cr ?_)
    ·exact .refl _
    ·refine ⟨?_,rfl⟩;simp only[aP.params,if_pos (show k=4 by omega),h3];rfl
   refine gc 4 ?_;refine oc (gD rQ [.tmp 18] G3 ?_);refine oc (px rQ ?_);refine ko 3 [1] 8 ?_;refine fR ?_;refine iw ⟨_,_,rfl,rfl,rfl⟩ [0] (.own 0 1 (strs (ah++[s]))) ([.row 9 1]) rfl rfl rfl ?_ rfl ?_ ?_
   ·repeat (first|exact cH|refine cr ?_)
   ·exact Fit.of_eq (by rw[← nT];rfl)
   ·refine ⟨?_,rfl⟩;simp only[aP.params,if_pos (show k=4 by omega),h3];rfl
  refine kc 3 [2,1] 6 ?_;refine lP (ι:=Nat) (fun i=>[(6,int i),(1,.own 0 1 (strs (db (args.take i) ah)))]) [2] (fun i=>i≤args.length) (fun i=>args.length-i) (0) rfl ?I2 ?M2 ?H2
  case I2=>
   exact Nat.zero_le _
  case M2=>
   exact mz
  case H2=>
   rintro i hinv
   try dsimp only at hinv
   refine kc 0 [6,1,2] 10 ?_;refine cJ (fun h7=>?_) (fun h7=>?_)
   ·refine kc 5 [1] 7 ?_;refine fR ?_;refine iw ⟨_,_,rfl,rfl,rfl⟩ [0] (.own 0 1 (strs (db (args.take i) ah))) ([.row 9 1]) rfl rfl rfl ?_ rfl ?_ ?_
    ·repeat (first|exact cH|refine cr ?_)
    ·exact .refl _
    ·refine ⟨?_,rfl⟩;simp only[aP.params,if_neg (show ¬k=4 by omega)];rw[List.take_of_length_le (by omega)]
   refine kc 4 [6,1,2] 4 ?_;obtain⟨k',s',a',hget⟩:=dh (show i<args.length by omega);have hsz':=eI hget;have hlt:=yy args (i+1) ah;have hpL2:=hpL (by omega);refine o1 (cu fo fH ?_ (he:=by exact(dD hget)));refine go 2 ?_;refine oc (aN Dw rfl rfl rfl rfl (ih k' s' a' (db (args.take i) ah) (by omega) (n6 hb2 hget) (by rw[← oP hget];omega)) [0] (cr .nil) rfl rfl rfl rfl (bo (an .nil)) (fun s ob' hq=>?_) (fun s ob' hq=>?_));rotate_left
   ·first|exact hq.elim|cases hq.1
   obtain⟨hq1,rfl⟩:=hq;cases hq1;rw[← oP hget];refine⟨_,_,_,_,_,rfl,rfl,rfl,rfl,rfl,?_⟩;refine ko 4 [1,6,2] 2 ?_;refine o1 (cG ?_);refine go 2 ?_;refine bi (i+1) rfl ?_ mz;exact⟨by omega,by omega⟩
theorem Bt(ps:List ByteArray)(ns:List Int)(hl:ps.length≤ns.length)(hl2:ps.length≤281474976710656):∀x:eC,
 cD Tryz.prog gl 144 [x.cC.d,eA ps,Px ns] fun d=> ∃r:Int,d=.v (.int .i64 r):=by
 have hlp:=cQ ps;have hln:=gH ns;intro x
 induction x with
 |zero=>
  refine bD Tryz.func144 Tryz.ntmps144 ?_;refine gc 20 ?_;refine ct ?_;refine kc 0 [] 8 ?_;refine ez ?_;exact⟨_,rfl⟩
 |succ a ih=>
  refine bD Tryz.func144 Tryz.ntmps144 ?_;refine gc 20 ?_;refine cf ?_;refine kc 0 [11,3,1,2] 6 ?_;refine ct ?_;refine gc 4 ?_;refine o1 (cu fo fH ?_ (he:=by exact(rfl)));refine o1 (Pv eL ?_ (hlen:=by exact(aP.oB _)));refine go 2 ?_;refine oc (T:=fun _=>False) (bJ xZ rfl rfl rfl rfl (ih) (an (an (an .nil))) (fun d hd=>?_));obtain⟨r,rfl⟩:=hd;refine o1 (vZ rfl rfl rfl ?_);refine go 6 ?_;refine ez ?_;exact⟨_,rfl⟩
 |param s=>
  refine bD Tryz.func144 Tryz.ntmps144 ?_;refine gc 20 ?_;refine cf ?_;refine kc 0 [11,3,1,2] 6 ?_;refine cf ?_;refine gc 6 ?_;refine ct ?_;refine kc 1 [3,1,2] 6 ?_;refine lP (ι:=Nat) (fun i=>[(7,int i)]) [3,1,2] (fun i=>i≤ps.length) (fun i=>ps.length-i) (0) rfl ?I3 ?M3 ?H3
  case I3=>
   exact Nat.zero_le _
  case M3=>
   exact mz
  case H3=>
   rintro i hinv
   try dsimp only at hinv
   refine kc 0 [7,3,1,2] 9 ?_;refine cJ (fun h8=>?_) (fun h8=>?_)
   ·refine kc 5 [] 8 ?_;refine ez ?_;exact⟨_,rfl⟩
   refine kc 5 [7,3,1,2] 0 ?_;refine gz [0,1] mixed ?_;refine A1 2 rfl (cu pN ue ⟨_,rfl,?_⟩ (he:=by exact(kj (by omega))));refine ga [3,4,5,6] ?_;refine aZ ?_;refine ge 1 ?_;refine cJ (fun h10=>?_) (fun h10=>?_)
   ·refine kc 3 [7,3,1,2] 2 ?_;refine o1 (cG ?_);refine go 2 ?_;refine bi (i+1) rfl ?_ mz;exact⟨by omega,by omega⟩
   refine kc 0 [7,2] 4 ?_;have hin:i<ns.length:=by omega
   refine o1 (cu j9 mN ?_ (he:=by exact(sj (by omega))));refine go 12 ?_;refine ez ?_;exact⟨_,rfl⟩
 |max a b iha ihb=>
  refine bD Tryz.func144 Tryz.ntmps144 ?_;refine gc 20 ?_;refine cf ?_;refine kc 0 [11,3,1,2] 6 ?_;refine cf ?_;refine gc 6 ?_;refine cf ?_;refine kc 3 [3,1,2] 4 ?_;refine o1 (cu fo fH ?_ (he:=by exact(rfl)));refine o1 (Pv eL ?_ (hlen:=by exact(aP.oB _)));refine go 2 ?_;refine oc (T:=fun _=>False) (bJ xZ rfl rfl rfl rfl (iha) (an (an (an .nil))) (fun d hd=>?_));obtain⟨r,rfl⟩:=hd;refine ko 3 [8,3,1,2] 4 ?_;refine o1 (cu fo fH ?_ (he:=by exact(rfl)));refine o1 (Pv eL ?_ (hlen:=by exact(aP.oB _)));refine go 2 ?_;refine oc (T:=fun _=>False) (bJ xZ rfl rfl rfl rfl (ihb) (an (an (an .nil))) (fun d hd=>?_));obtain⟨r2,rfl⟩:=hd;refine ko 4 [9,8,3] 6 ?_;refine mS 60 false rfl (by decide) ?_;refine mi ?_ (hbw:=by exact rfl);refine mi ?_ (hbw:=by exact rfl);refine o1 (jI ?_);refine go 2 ?_;refine cf ?_;refine kc 3 [9,8] 7 ?_;refine cj (fun h17=>?_) (fun h17=>?_)
  ·refine kc 0 [9] 8 ?_;refine ez ?_;exact⟨_,rfl⟩
  refine kc 2 [8] 7 ?_;refine ez ?_;exact⟨_,rfl⟩
 |imax a b iha ihb=>
  refine bD Tryz.func144 Tryz.ntmps144 ?_;refine gc 20 ?_;refine cf ?_;refine kc 0 [11,3,1,2] 6 ?_;refine cf ?_;refine gc 6 ?_;refine cf ?_;refine kc 3 [3,1,2] 4 ?_;refine o1 (cu fo fH ?_ (he:=by exact(rfl)));refine o1 (Pv eL ?_ (hlen:=by exact(aP.oB _)));refine go 2 ?_;refine oc (T:=fun _=>False) (bJ xZ rfl rfl rfl rfl (iha) (an (an (an .nil))) (fun d hd=>?_));obtain⟨r,rfl⟩:=hd;refine ko 3 [8,3,1,2] 4 ?_;refine o1 (cu fo fH ?_ (he:=by exact(rfl)));refine o1 (Pv eL ?_ (hlen:=by exact(aP.oB _)));refine go 2 ?_;refine oc (T:=fun _=>False) (bJ xZ rfl rfl rfl rfl (ihb) (an (an (an .nil))) (fun d hd=>?_));obtain⟨r2,rfl⟩:=hd;refine ko 4 [9,8,3] 6 ?_;refine mS 60 true rfl (by decide) ?_;refine mn ?_ (hbw:=by exact rfl);refine go 1 ?_;refine mn ?_ (hbw:=by exact rfl);refine go 1 ?_;refine o1 (fF ?_);refine go 2 ?_;refine cj (fun h15=>?_) (fun h15=>?_)
  ·refine kc 0 [] 7 ?_;refine ez ?_;exact⟨_,rfl⟩
  refine kc 3 [9,8] 7 ?_;refine cj (fun h17=>?_) (fun h17=>?_)
  ·refine kc 0 [9] 8 ?_;refine ez ?_;exact⟨_,rfl⟩
  refine kc 2 [8] 7 ?_;refine ez ?_;exact⟨_,rfl⟩
theorem kQ(a b:eC)(hps:(a.ps b).length≤6):
 cD Tryz.prog gl 114 [a.cC.d,b.cC.d] fun d=> ∃r:Bool,d=.v (.bool r):=by
 have hpa:=a.fc [];have hpb:=b.fc (a.params []);have hpge:(a.params []).length≤(a.ps b).length:=j4 b _;have hW:=fun(B:Int) k (x:eC)=>Bt (gl:=gl) (a.ps b) (yJ B k (a.ps b).length) (by rw[Dg];exact Nat.le_refl _) (by omega) x
 have hWa:=fun(B:Int) k=>hW B k a
 have hWb:=fun(B:Int) k=>hW B k b
 have hsl:=cQ (a.ps b);have hLa:=jy a;have hLb:=jy b;obtain⟨ka,na,aa,hXa⟩:=aP.case a.cC
 obtain⟨kb,nb,ab,hXb⟩:=aP.case b.cC
 rw[hXa] at hpa hWa hLa;rw[hXb] at hpb hWb hLb;rw[hXa,hXb];have hpsdef:b.params (a.params [])=a.ps b:=rfl;rw[hpsdef] at hpb;have hp1:=tw (gl:=gl) _ ka na aa [] (Nat.le_refl _) hLa (by rw[hpa];omega);have hp2:=tw (gl:=gl) _ kb nb ab (a.params []) (Nat.le_refl _) hLb (by rw[hpb];omega);rw[hpa] at hp1;rw[hpb] at hp2;have hs1:=u4 (gl:=gl) _ ka na aa (Nat.le_refl _) hLa;have hs2:=u4 (gl:=gl) _ kb nb ab (Nat.le_refl _) hLb;refine bD Tryz.func114 Tryz.ntmps114 ?_;refine gc 8 ?_;refine bz 9 1 rfl ?_;refine gz [0,1] mixed ?_;refine A2 2 rfl (ck Dw rfl rfl (hp1) [2] rfl (qx .nil) (bo (.cons (.nil rfl) .nil)) ?_);refine A2 3 rfl (ck Dw rfl rfl (hp2) [2] rfl (cr .nil) (bo (an .nil)) ?_);refine ga [4] ?_;refine aZ ?_;refine ke 2 [5,3,2] 0 ?_;refine gz [0,3] mixed ?_;refine A2 (T:=fun _=>False) 1 rfl (bJ KG rfl rfl rfl rfl (hs1) (bo .nil) (fun d hd=>?_));obtain⟨r1,rfl⟩:=hd;refine A1 2 rfl (vZ rfl rfl rfl ⟨_,rfl,?_⟩);refine A2 (T:=fun _=>False) 4 rfl (bJ KG rfl rfl rfl rfl (hs2) (bo .nil) (fun d hd=>?_));obtain⟨r2,rfl⟩:=hd;refine A1 5 rfl (vZ rfl rfl rfl ⟨_,rfl,?_⟩);refine ga [6] ?_;refine aZ ?_;refine ke 2 [6,5,3,2] 0 ?_;generalize IntKind.i64.wrap (IntKind.i64.wrap (2+r1)+r2)=B;refine gc 2 ?_;refine oc (gD vc [.const (.int .i64 0),.const (.int .i64 1),.tmp 24] FU ?_);refine ko 15 [9,8,7,5,3,2] 0 ?_;refine lP (ι:=Nat) (fun i=>[(9,int i),(8,int (p3 i))]) [7,5,3,2] (fun i=>i≤(a.ps b).length) (fun i=>(a.ps b).length-i) (0) rfl ?I4 ?M4 ?H4
 case I4=>
  exact Nat.zero_le _
 case M4=>
  exact mz
 case H4=>
  rintro i hinv
  try dsimp only at hinv
  refine kc 0 [9,8,7,5,3,2] 9 ?_;refine cj (fun h6=>?_) (fun h6=>?_)
  ·refine kc 4 [9,8,7,5,3,2] 0 ?_;have hp3:=MI (i:=i) (by omega);refine gc 2 ?_;refine o1 (AZ rfl rfl rfl (by omega) ?_);refine go 6 ?_;refine o1 (cG ?_);refine go 2 ?_;refine bi (i+1) rfl ?_ ?_
   ·exact ⟨by omega,by omega⟩
   ·refine mo ?_ (aJ (ef rfl (by exact Fit.of_eq (by rw[Lt];rfl)) (aJ (aJ (aJ (aJ dC))))))
    repeat (first|exact cH|refine bj ?_|refine cr ?_)
  refine kc 7 [8,7,5,3,2] 0 ?_;have hi:i=(a.ps b).length:=by omega
  subst hi;have hp3:=MI hps;refine gc 5 ?_;refine lP (ι:=Nat) (fun k=>[(10,int k)]) [8,7,5,3,2] (fun k=>k≤p3 (a.ps b).length) (fun k=>p3 (a.ps b).length-k) (0) rfl ?I5 ?M5 ?H5
  case I5=>
   exact Nat.zero_le _
  case M5=>
   exact mz
  case H5=>
   rintro k hinv
   try dsimp only at hinv
   refine kc 0 [10,8,7,5,3,2] 8 ?_;refine cJ (fun h10=>?_) (fun h10=>?_)
   ·refine kc 5 [] 6 ?_;refine ez ?_;exact⟨_,rfl⟩
   refine gc 5 ?_;have houter:=hinv;refine kc 11 [12,11,10,8,7,5,3,2] 6 ?_;refine bz 3 1 rfl ?_;refine lp (ι:=Nat) (fun i=>[(13,int i),(12,int (dv k i)),(11,.own 4 1 (ints (yJ B k i)))]) (fun i=>[.cells [.d (.v (.int .i64 ka)),.d (.v (.string na)),.d (.sl 3 (bF aa))] 121,.cells [.d (.v (.int .i64 kb)),.d (.v (.string nb)),.d (.sl 3 (bF ab))] 121,.row 9 1,.row 3 1,.row 3 1]) [10,8,7,5,3,2] (fun i=>i≤(a.ps b).length) (fun i=>(a.ps b).length-i) (0) ([0,1,2,3,4]) rfl ?I6 ?M6 ?H6
   case I6=>
    exact Nat.zero_le _
   case M6=>
    refine mo ?_ (aJ (ef rfl (by exact Fit.of_eq (by rw[L4];rfl)) (ef rfl (by exact .nil rfl) (aJ (aJ (aJ (aJ (aJ (aJ dC)))))))))
    repeat (first|exact cH|refine bj ?_|refine cr ?_|refine qx ?_)
   case H6=>
    rintro i hinv
    try dsimp only at hinv
    refine kc 0 [13,12,11,10,8,7,5,3,2] 9 ?_;refine cj (fun h15=>?_) (fun h15=>?_)
    ·refine kc 5 [13,12,11,10,8,7,5,3,2] 0 ?_;have hil:=gH (yJ B k i);have hdl:=Dg B k i;have hk3:=PI k i;refine gc 4 ?_;refine o1 (Gu ?_);refine o1 (F9 j9 mN ?_ (he:=by exact(Jb B (dv k i))));refine go 1 ?_;refine oc (gD vc [.tmp 51] FU ?_);refine oc (px vc ?_);refine ko 3 [11,13,12,10,8,7,5,3,2] 2 ?_;refine o1 (Ka rfl rfl rfl (by omega) ?_);refine go 6 ?_;refine o1 (cG ?_);refine go 2 ?_;refine bk (i+1) rfl ?_ ([0,1,2,3,4]) ?_
     ·exact ⟨by omega,by omega⟩
     ·refine mo ?_ (aJ (ef rfl (by exact Fit.of_eq (by rw[L5];rfl)) (ef rfl (by exact Fit.of_eq (by rw[Ib,←xD];rfl)) (aJ (aJ (aJ (aJ (aJ (aJ dC)))))))))
      repeat (first|exact cH|refine bj ?_|refine cr ?_)
    refine kc 6 [11,10,8,7,5,3,2] 0 ?_;have hi:i=(a.ps b).length:=by omega
    subst hi;refine gz [0,1,2,4,5,6] mixed ?_;refine A2 (T:=fun _=>False) 3 rfl (bJ xZ rfl rfl rfl rfl (hWa B k) (bo (bo (bo .nil))) (fun d hd=>?_));obtain⟨q1,rfl⟩:=hd;refine A2 (T:=fun _=>False) 7 rfl (bJ xZ rfl rfl rfl rfl (hWb B k) (bo (bo (bo .nil))) (fun d hd=>?_));obtain⟨q2,rfl⟩:=hd;refine ga [8] ?_;refine aZ ?_;refine ge 1 ?_;refine cj (fun h19=>?_) (fun h19=>?_)
    ·refine kc 0 [] 11 ?_;refine ez ?_;exact⟨_,rfl⟩
    refine kc 3 [10,8,7,5,3,2] 2 ?_;refine o1 (cG ?_);refine go 2 ?_;refine bi (k+1) rfl ?_ mz;exact⟨by omega,by omega⟩
theorem BT(a b:eC)(hps:(a.ps b).length≤6)(hps2:(b.ps a).length≤6):
 cD Tryz.prog gl 71 [a.cC.d,b.cC.d] fun d=> ∃r:Bool,d=.v (.bool r):=by
 have h1:=kQ (gl:=gl) a b hps;have h2:=kQ (gl:=gl) b a hps2;obtain⟨ka,na,aa,hXa⟩:=aP.case a.cC
 obtain⟨kb,nb,ab,hXb⟩:=aP.case b.cC
 rw[hXa,hXb] at h1 h2 ⊢;refine bD Tryz.func71 Tryz.ntmps71 ?_;refine gc 11 ?_;refine oc (T:=fun _=>False) (bJ Du rfl rfl rfl rfl (h1) (bo (bo .nil)) (fun d hd=>?_));obtain⟨q1,rfl⟩:=hd;refine ko 3 [5,3,2] 4 ?_;refine oc (T:=fun _=>False) (bJ Du rfl rfl rfl rfl (h2) (bo (bo .nil)) (fun d hd=>?_));obtain⟨q2,rfl⟩:=hd;refine ko 3 [6,5] 4 ?_;refine' oa (yt:=15) (d:=14) 1 ?a1 ?b1 ?_
 case a1=>
  intro hc hK;refine go 1 ?_;exact hK [_] rfl rfl
 case b1=>
  intro _ hK;refine go 1 ?_;exact hK [_] rfl
 refine go 4 ?_;refine ez ?_;exact⟨_,rfl⟩
end
section
open Go Go.Vd Go.RowKit
attribute [local irreducible] bu bA di ak bL cU
variable {g gl:Nat→List D}
variable {ps:List ByteArray}
theorem qz(hL:ps.length≤6)(k:Int)(s:ByteArray)(args:List aP)(hl:iQ ps (.mk k s args)):
 cD Tryz.prog gl 163 [(aP.mk k s args).d] fun d=> ∃r:Bool,d=.v (.bool r):=by
 obtain⟨x,hx,hfx,hx2⟩:=hl;have hq1:=kQ (gl:=gl) x .zero (tt hL hx2 (fun p h=>h.elim));rw[← hx] at hq1;refine bD Tryz.func163 Tryz.ntmps163 ?_;refine gc 10 ?_;refine oc (T:=fun _=>False) (bJ Du rfl rfl rfl rfl (hq1) (bo (.cons (.Oh rfl (by repeat (first|exact .refl _|exact .nil|refine .agg ?_|refine .cons ?_ ?_))) .nil)) (fun d hd=>?_));obtain⟨r,rfl⟩:=hd;refine go 4 ?_;refine ez ?_;exact⟨_,rfl⟩
theorem xe(hL:ps.length≤6)(k:Int)(s:ByteArray)(args:List aP)(hl:iQ ps (.mk k s args)):
 cD Tryz.prog gl 164 [(aP.mk k s args).d] fun d=> ∃r:Bool,d=.v (.bool r):=by
 obtain⟨x,hx,hfx,hx2⟩:=hl;have hq1:=kQ (gl:=gl) (.succ .zero) x (tt hL (fun p h=>h.elim) hx2);rw[← hx] at hq1;refine bD Tryz.func164 Tryz.ntmps164 ?_;refine gc 9 ?_;refine oc (gD ji [.tmp 4] eL ?_);refine ko 5 [3,1] 4 ?_;refine oc (T:=fun _=>False) (bJ Du rfl rfl rfl rfl (hq1) (.cons (.Oh rfl (by repeat (first|exact .refl _|exact .nil|refine .agg ?_|refine .sl ?_|refine .cons ?_ ?_))) (bo .nil)) (fun d hd=>?_));obtain⟨r,rfl⟩:=hd;refine go 4 ?_;refine ez ?_;exact⟨_,rfl⟩
theorem vj(x:RD)(k n:Int)(s:ByteArray)(ls:List aP)(args:List ae)(m away:Int)(hok:rh (.mk k n s ls args))(hz:(ae.mk k n s ls args).size≤1000000000)(hm:0≤m∧m≤1000000000)(hx:0≤x.ad∧x.ad≤1000000000)(hpl:x.pd.length≤1000000000)(ha:0≤away∧away≤1000000000000):
 cD Tryz.prog gl 170 [(ae.mk k n s ls args).d,x.dec.d,.v (.int .i64 m),.v (.int .i64 away)] fun d=> ∃b:Bool,d=.v (.bool b)∧(b=true→∃n' ls' ar,(bf (.mk k n s ls args)).1=.mk 2 n' x.sd ls' ar∧((bf (.mk k n s ls args)).2.length:Int)=x.ad+m):=by
 have hsp:=eY (gl:=gl) k n s ls args hok (by omega);have hss:=dQ _ (.mk k n s ls args) (Nat.le_refl _);rcases hS:bf (.mk k n s ls args) with⟨⟨kh,mh,sh,lh,ah⟩,az⟩;rw[hS] at hsp hss;simp only at hss;have hsl:=br az;have hlh:=bV lh;have hasl:=aO az;have hpdl:=cQ x.pd;have hlz:lh.length≤1000000000:=(by have:=oL lh;simp only[ae.size] at hss hz;omega);refine bD Tryz.func170 Tryz.ntmps170 ?_;refine gc 10 ?_;refine oc (cv yM rfl rfl (hsp) (bo .nil) ?_);refine ko 9 [10,9,5,2,3] 6 ?_;refine' oo (yt:=27) (d:=22) 5 ?a1 ?b1 ?_
 case a1=>
  intro hc hK;refine go 5 ?_;exact hK [_,_,_,_,_] rfl rfl
 case b1=>
  intro _ hK;refine go 5 ?_;exact hK [_,_,_,_,_] rfl
 refine go 1 ?_;refine' oo (yt:=36) (d:=29) 7 ?a2 ?b2 ?_
 case a2=>
  intro hc hK;refine go 5 ?_;refine gy ?_;refine o1 (cG ?_);refine go 1 ?_;exact hK [_,_,_,_,_,_,_] rfl rfl
 case b2=>
  intro _ hK;refine go 7 ?_;exact hK [_,_,_,_,_,_,_] rfl
 refine go 1 ?_;refine' oo (yt:=45) (d:=38) 7 ?a3 ?b3 ?_
 case a3=>
  intro hc hK;refine go 7 ?_;exact hK [_,_,_,_,_,_,_] rfl rfl
 case b3=>
  intro _ hK;refine go 7 ?_;exact hK [_,_,_,_,_,_,_] rfl
 refine go 2 ?_;refine cj (fun h2=>?_) (fun h2=>?_)
 ·refine kc 0 [] 7 ?_;refine ez ?_;exact⟨_,rfl,fun h=>by cases h⟩
 refine kc 3 [10,9,5,3] 6 ?_;refine lP (ι:=Nat) (fun i=>[(11,int i)]) [10,9,5,3] (fun i=>i≤lh.length) (fun i=>lh.length-i) (0) rfl ?I7 ?M7 ?H7
 case I7=>
  exact Nat.zero_le _
 case M7=>
  exact mz
 case H7=>
  rintro i hinv
  try dsimp only at hinv
  refine kc 0 [11,10,9,5,3] 10 ?_;refine cj (fun h5=>?_) (fun h5=>?_)
  ·refine kc 5 [11,10,9,5,3] 0 ?_;obtain⟨k2,s2,a2,hget⟩:=dh (show i<lh.length by omega);refine gz [0,1,2] mixed ?_;refine A1 3 rfl (cu fo fH ⟨_,rfl,?_⟩ (he:=by exact(dD hget)));refine ga [4,5,6,7] ?_;refine OZ 61 (fun hc=>?_) (fun hc=>?_)
   ·(try simp only[du,Int.reduceEq,Int.reduceNe,Int.reduceLT,Int.reduceLE] at hc)
    refine A7 8 rfl ?_ (hlit:=by exact(.inl rfl));refine A7 9 rfl ?_ (hlit:=by exact(.inl rfl));refine A7 10 rfl ?_ (hlit:=by exact(.inl rfl));refine A7 11 rfl ?_ (hlit:=by exact(.inl rfl));refine A7 12 rfl ?_ (hlit:=by exact(.inl rfl));refine A7 13 rfl ?_ (hlit:=by exact(.inl rfl));refine A7 14 rfl ?_ (hlit:=by exact(.inl rfl));refine A7 15 rfl ?_ (hlit:=by exact(.inl rfl));refine A7 16 rfl ?_ (hlit:=by exact(.inl rfl));refine A7 17 rfl ?_ (hlit:=by exact(.inl rfl));refine A7 18 rfl ?_ (hlit:=by exact(.inl rfl));refine A7 19 rfl ?_ (hlit:=by exact(.inl rfl));refine A1 20 rfl (fF ⟨_,rfl,?_⟩);refine aZ ?_;refine ge 1 ?_;refine ct ?_;refine kc 0 [] 11 ?_;refine ez ?_;exact⟨_,rfl,fun h=>by cases h⟩
   (try simp only[du,Int.reduceEq,Int.reduceNe,Int.reduceLT,Int.reduceLE] at hc);refine A6 8 rfl (OX bw ⟨_,rfl,?_⟩);refine A6 9 rfl (DJ vH ⟨_,rfl,?_⟩);refine A6 10 rfl (mv ⟨_,rfl,?_⟩);refine A6 11 rfl (cu fo fH ⟨_,rfl,?_⟩ (he:=by exact(dD hget)));refine A6 12 rfl (K5 eL ⟨_,rfl,?_⟩);refine A6 13 rfl (JR G3 ⟨_,rfl,?_⟩);refine A6 14 rfl (OX G4 ⟨_,rfl,?_⟩);refine A6 15 rfl (DJ G5 ⟨_,rfl,?_⟩);refine A6 16 rfl (mv ⟨_,rfl,?_⟩);refine A6 17 rfl (cu pN ue ⟨_,rfl,?_⟩ (he:=by exact(kj (show i<x.pd.length by omega))));refine A6 18 rfl (JR G3 ⟨_,rfl,?_⟩);refine A6 19 rfl (QP ⟨_,rfl,?_⟩);refine A1 20 rfl (jI ⟨_,rfl,?_⟩);refine aZ ?_;refine ge 1 ?_;refine cj (fun h7=>?_) (fun h7=>?_)
   ·refine kc 0 [] 11 ?_;refine ez ?_;exact⟨_,rfl,fun h=>by cases h⟩
   refine kc 3 [11,10,9,5,3] 2 ?_;refine o1 (cG ?_);refine go 2 ?_;refine bi (i+1) rfl ?_ mz;exact⟨by omega,by omega⟩
  refine kc 6 [10,5,3] 6 ?_;refine lP (ι:=Nat) (fun i=>[(12,int i)]) [10,5,3] (fun i=>i≤az.length) (fun i=>az.length-i) (0) rfl ?I8 ?M8 ?H8
  case I8=>
   exact Nat.zero_le _
  case M8=>
   exact mz
  case H8=>
   rintro i hinv
   try dsimp only at hinv
   refine kc 0 [12,10,5,3] 9 ?_;refine cJ (fun h10=>?_) (fun h10=>?_)
   ·refine kc 5 [] 6 ?_;refine ez ?_;refine⟨_,rfl,fun _=>?_⟩;exact⟨mh,lh,ah,by rw[show kh=2 by omega,show sh=x.sd by exact h2.1.1.2],by simp only;omega⟩
   refine kc 6 [12,10,5,3] 0 ?_;obtain⟨k3,m3,s3,l3,a3,hget⟩:=bK (show i<az.length by omega);have hg3:=bG hget;have hhas:=j2 (gl:=gl) x.sd _ k3 m3 s3 l3 a3 (Nat.le_refl _) (by omega);refine gc 6 ?_;refine' oa (yt:=103) (d:=85) 18 ?a4 ?b4 ?_
   case a4=>
    intro hc hK;refine go 2 ?_;refine gy ?_;refine o1 (cu bB bH ?_ (he:=by exact(bW hget)));refine go 4 ?_;refine' oo (yt:=102) (d:=92) 10 ?a5 ?b5 ?_ (hg:=.yes rfl rfl rfl rfl)
    case a5=>
     intro hc hK;refine go 2 ?_;refine gy ?_;refine o1 (cu bB bH ?_ (he:=by exact(bW hget)));refine go 3 ?_;refine gy ?_;refine o1 (iC ?_);refine go 1 ?_;refine gy ?_;refine o1 (iC ?_);refine go 1 ?_;exact hK [_,_,_,_,_,_,_,_,_,_] rfl rfl
    case b5=>
     intro _ hK;refine go 10 ?_;exact hK [_,_,_,_,_,_,_,_,_,_] rfl
    exact hK [_,_,_,_,_,_,_,_] rfl rfl
   case b4=>
    intro _ hK;refine go 18 ?_;exact hK [_,_,_,_,_,_,_,_,_,_,_,_,_,_,_,_,_,_] rfl
   refine go 2 ?_;refine cj (fun h12=>?_) (fun h12=>?_)
   ·refine kc 0 [] 12 ?_;refine ez ?_;exact⟨_,rfl,fun h=>by cases h⟩
   refine kc 3 [12,10,5,3] 0 ?_;refine gz [0,1] mixed ?_;refine A1 2 rfl (cu bB bH ⟨_,rfl,?_⟩ (he:=by exact(bW hget)));refine ga [3,4,5] ?_;refine A2 6 rfl (cv xY rfl rfl (hhas) (bo (an .nil)) ?_);refine ga [7] ?_;refine aZ ?_;refine ke 1 [13,12,10,5,3] 7 ?_;refine' oa (yt:=117) (d:=116) 1 ?a6 ?b6 ?_
   case a6=>
    intro hc hK;refine go 1 ?_;exact hK [_] rfl rfl
   case b6=>
    intro _ hK;refine go 1 ?_;exact hK [_] rfl
   refine go 2 ?_;refine cj (fun h15=>?_) (fun h15=>?_)
   ·refine kc 0 [] 11 ?_;refine ez ?_;exact⟨_,rfl,fun h=>by cases h⟩
   refine kc 3 [12,10,5,3] 2 ?_;refine o1 (cG ?_);refine go 2 ?_;refine bi (i+1) rfl ?_ mz;exact⟨by omega,by omega⟩
end
section
open Go Go.Vd Go.RowKit
attribute [local irreducible] bu bA di ak bL cU
variable {g gl:Nat→List D}
def pE(ds:List dP):Ob:=.cells [.own 1 15 (lN ds),.map 2] 98
def dR:Ob:=.row 61 15
theorem Cz:et Tryz.prog gl 21 [] [] fun out ob'=>out=.ret (.cb 0 0)∧ob'=[pE [],dR,.cV fun _=>none]:=by
 refine bS Tryz.func21 Tryz.ntmps21 0 ?_;refine gc 6 ?_;refine bz 61 15 rfl ?_;refine gc 1 ?_;refine oc (T:=fun _=>False) (Cp rfl rfl rfl (by simp only[List.length_cons,List.length_nil,Nat.reduceAdd];rfl) rfl ?_);refine go 6 ?_;refine fR ?_;refine iw ⟨_,_,rfl,rfl,rfl⟩ [2,0,1] (.cb 0 0) ([pE [],dR,.cV fun _=>none]) rfl rfl rfl ?_ rfl ?_ ?_
 ·repeat (first|exact cH|exact yH|refine ia ?_|refine qx ?_|refine Bi ?_ ?_|refine an ?_|refine .cons (.nil rfl) ?_)
 ·exact .refl _
 ·exact ⟨rfl,rfl⟩
theorem Ic(ds:List dP)(x:RD):lN (ds++[x.dec])=lN ds++[[.v (.int .i64 x.kd),.v (.string x.sd),.sl 1 (strs x.pd),.v (.int .i64 x.k1),.v (.int .i64 x.n1),.v (.string x.s1),.sl 3 (bF x.l1),.sl 5 (aH x.a1),.v (.int .i64 x.k2),.v (.int .i64 x.n2),.v (.string x.s2),.sl 3 (bF x.l2),.sl 5 (aH x.a2),.v (.int .i64 x.ad),.sl 6 (gM x.cd)]]:=by
 rw[Dk];rfl
theorem z8{d:dP}{c:ByteArray×ae}:∀{l:List (ByteArray×ae)} {i:Nat} {f:ByteArray→Option D},qv d i (l++[c]) f=te (qv d i l f) c.1 (uN 3 d d.ps c.2 ((i+l.length:Nat):Int))
 |[],i,f=>rfl
 |a::r,i,f=>by
  rw[List.cons_append,qv,z8,qv,List.length_cons,show i+1+r.length=i+(r.length+1) by omega]
variable {f:ByteArray→Option D}
theorem Ij{d:dP}{l:List (ByteArray×ae)}{i:Nat}{c:ByteArray×ae}(h:l[i]? =some c):qv d 0 (l.take (i+1)) f=te (qv d 0 (l.take i) f) c.1 (uN 3 d d.ps c.2 i):=by
 have hi:=(List.getElem?_eq_some_iff.1 h).1;rw[List.take_add_one,h];show qv d 0 (l.take i++[c]) f=_;rw[z8,List.length_take,Nat.min_eq_left (by omega),Nat.zero_add]
variable {x:RD} {rp:List ByteArray} {t:ae}
theorem Jx(h:¬x.kd=3):wL f ⟨x.dec,rp,t⟩=Bd f x.dec:=if_neg h
theorem Jw(h:x.kd=3):wL f ⟨x.dec,rp,t⟩=te (qv x.dec 0 x.cd (Bd f x.dec)) (x.sd++wK) (uN 4 x.dec rp t 0):=if_pos h
set_option maxHeartbeats 1600000 in
theorem Hg(ds:List dP)(f:ByteArray→Option D)(x:RD)(hk:x.kd=1∨x.kd=2∨x.kd=3)(hsd:x.sd.size≤1000000)(hdl:ds.length≤1000000)(hcl0:x.cd.length≤1000000)(rp:List ByteArray)(k n:Int)(s:ByteArray)(ls:List aP)(args:List ae):
 et Tryz.prog gl 80 [pE ds,dR,.cV f] [.cb 0 0,.d x.dec.d,.d (eA rp),.d (ae.mk k n s ls args).d] fun out ob'=>out=.ret (.d (.bZ []))∧ob'=[pE (ds++[x.dec]),dR,.cV (wL f ⟨x.dec,rp,.mk k n s ls args⟩)]:=by
 have hdl2:=xT ds;have hcl:=iU x.cd;have hwix:([[D.v (.int .i64 0)],[.v (.int .i64 0)],[.v (.int .i64 1)],[.v (.int .i64 2)]]:List (List D))[(x.kd).toNat]? =some [.v (.int .i64 (x.kd-1))]:=by
  rcases hk with h|h|h<;>rw[h]<;>rfl
 refine bS Tryz.func80 Tryz.ntmps80 3 ?_;refine gc 7 ?_;refine gz [0,1,2,3,4,5] mixed ?_;refine A2 6 rfl (gD Ll [.tmp 15] G4 ?_);refine A2 7 rfl (px Ll ?_);refine ga [8,9] ?_;refine A2 10 rfl (dN Pa ?_);refine aZ ?_;refine ke 2 [7,5,0,2] 0 ?_;rw[← Ic ds x];refine BQ 3 rfl rfl rfl rfl rfl rfl ?_;refine gz [0,1,2,3,4,5,7,8,11,12,13,14] mixed ?_;refine A2 6 rfl (gD Pm [.const (.int .i64 0),.const (.int .i64 0),.const (.int .i64 1),.const (.int .i64 2)] BA ?_);refine A1 9 rfl (F9 O6 Pg ⟨_,rfl,?_⟩ (he:=by exact(hwix)));refine ga [10,15] ?_;refine A2 (T:=fun _=>False) 16 rfl (AI rv rfl rfl rfl rfl rfl (by simp only[List.length_cons,List.length_nil,Nat.reduceAdd];rfl) rfl rfl rfl rfl rfl rfl ?_);refine A2 17 rfl (rX CB rfl rfl rfl rfl rfl rfl rfl rfl ?_);refine aZ ?_;refine ke 2 [7,5,0,2] 7 ?_;refine cj (fun h3=>?_) (fun h3=>?_)
 ·refine gc 2 ?_;refine fR ?_;refine nq (l:=[]) rfl rfl (.bZ []) (by exact .refl _) ([0,1,2]) ([pE (ds++[x.dec]),dR,.cV (Bd f x.dec)]) rfl rfl rfl ?_ ?_
  ·repeat (first|exact cH|refine bj ?_|refine cr ?_|refine ia ?_)
  ·refine ⟨rfl,?_⟩;rw[Jx h3]
 refine kc 12 [43,42,41,7,5,0,2] 0 ?_;refine lp (ι:=Nat) (fun i=>[(43,int i)]) (fun i=>[pE (ds++[x.dec]),dR,.cV (qv x.dec 0 (x.cd.take i) (Bd f x.dec)),.dead,tO k n s ls args]) [42,41,7,5,0,2] (fun i=>i≤x.cd.length) (fun i=>x.cd.length-i) (0) ([0,1,2,3,4]) rfl ?I1 ?M1 ?H1
 case I1=>
  exact Nat.zero_le _
 case M1=>
  refine mo ?_ (aJ (aJ (aJ (aJ (aJ (aJ (aJ dC)))))))
  repeat (first|exact cH|refine bj ?_|refine cr ?_|refine ia ?_|refine RB ?_)
 case H1=>
  rintro i hinv
  try dsimp only at hinv
  refine kc 0 [43,42,41,7,5,0,2] 6 ?_;refine cJ (fun h5=>?_) (fun h5=>?_)
  ·refine kc 5 [7,5,0,2] 0 ?_;refine gz [0,1,2,3,4,5] mixed ?_;refine A1 6 rfl (uM ⟨_,rfl,?_⟩ (hb:=by(try simp only[ByteArray.size_append,qL,List.size_toArray,List.length_cons,List.length_nil]);omega));refine ga [7,8,9] ?_;refine A2 (T:=fun _=>False) 10 rfl (AI rv rfl rfl rfl rfl rfl (by simp only[List.length_cons,List.length_nil,Nat.reduceAdd];rfl) rfl rfl rfl rfl rfl rfl ?_);refine A2 11 rfl (rX CB rfl rfl rfl rfl rfl rfl rfl rfl ?_);refine aZ ?_;refine fN ?_;refine nq (l:=[]) rfl rfl (.bZ []) (by exact .refl _) ([0,1,2]) ([pE (ds++[x.dec]),dR,.cV (te (qv x.dec 0 (x.cd.take i) (Bd f x.dec)) (x.sd++wK) (uN 4 x.dec rp (.mk k n s ls args) 0))]) rfl rfl rfl ?_ ?_
   ·repeat (first|exact cH|refine bj ?_|refine cr ?_|refine ia ?_)
   ·refine ⟨rfl,?_⟩;rw[Jw (by omega),List.take_of_length_le (by omega)]
  refine gc 5 ?_;obtain⟨cN,cK,cM,cS,cL,cA,hget⟩:=rb (show i<x.cd.length by omega);have htk:=Ij (d:=x.dec) (f:=Bd f x.dec) hget;refine gc 2 ?_;refine o1 (cu yj Ap ?_ (he:=by exact(pk hget)));refine ko 6 [8,9,43,42,41,7,5,0,2] 0 ?_;refine gz [0,1,2,3,4,5,6,7,8,9,10,11] mixed ?_;refine A2 (T:=fun _=>False) 12 rfl (AI rv rfl rfl rfl rfl rfl (by simp only[List.length_cons,List.length_nil,Nat.reduceAdd];rfl) rfl rfl rfl rfl rfl rfl ?_);refine A2 13 rfl (rX CB rfl rfl rfl rfl rfl rfl rfl rfl ?_);refine aZ ?_;refine ke 2 [43,42,41,7,5,0,2] 1 ?_;refine o1 (cG ?_);refine go 2 ?_;refine bk (i+1) rfl ?_ ([0,1,2,3,4]) ?_
  ·exact ⟨by omega,by omega⟩
  ·refine mo ?_ (aJ (aJ (aJ (aJ (aJ (aJ (aJ dC)))))))
   repeat (first|exact cH|refine bj ?_|refine Qp htk ?_|refine cr ?_|refine RB ?_)
end
section
open Go Go.Vd Go.RowKit
attribute [local irreducible] bu bA di ak bL cU
variable {g gl:Nat→List D}
end
section
open Go Go.Vd Go.RowKit
attribute [local irreducible] bu bA di ak bL cU
variable {g gl:Nat→List D}
def qw(xs ys:List ae)(i:Nat):List ae:=if i=0 then[] else if i=1 then xs else xs++ys
variable {i:Nat}
theorem uR(xs ys:List ae)(hi:i<2):qw xs ys (i+1)=qw xs ys i++(if i=0 then xs else ys):=by
 have:i=0∨i=1:=by omega
 rcases this with rfl|rfl<;>simp[qw]
theorem F4(xs ys:List ae)(hi:i<2):([[D.sl 5 (aH xs)],[D.sl 5 (aH ys)]]:List (List D))[((i:Nat):Int).toNat]? =some [.sl 5 (aH (if i=0 then xs else ys))]:=by
 have:i=0∨i=1:=by omega
 rcases this with rfl|rfl<;>rfl
theorem Dp(xs ys:List ae)(hx:xs.length≤549755813888)(hy:ys.length≤549755813888):
 cD Tryz.prog gl 138 [.sl 1 [[.sl 5 (aH xs)],[.sl 5 (aH ys)]]] (· =.sl 5 (aH (xs++ys))):=by
 have hl:∀i,i≤2→(qw xs ys i).length≤1099511627776:=fun i hi=>by
  unfold qw;split
  ·simp
  ·split
   ·omega
   ·rw [List.length_append];omega
 have h2:=hl 2 (Nat.le_refl _);have h20:qw xs ys 2=xs++ys:=rfl;have hlen2:([[D.sl 5 (aH xs)],[D.sl 5 (aH ys)]]:List (List D)).length=2:=rfl;generalize hL:([[D.sl 5 (aH xs)],[D.sl 5 (aH ys)]]:List (List D))=L at hlen2;refine bD Tryz.func138 Tryz.ntmps138 ?_;refine kc 19 [11,10,9,3,0] 0 ?_;refine lP (ι:=Nat) (fun i=>[(3,int (qw xs ys i).length),(11,int i)]) [10,9,0] (fun i=>i≤2) (fun i=>2-i) (0) rfl ?I1 ?M1 ?H1
 case I1=>
  exact Nat.zero_le _
 case M1=>
  exact mz
 case H1=>
  rintro i hinv
  try dsimp only at hinv
  refine kc 0 [3,11,10,9,0] 6 ?_;refine cj (fun h3=>?_) (fun h3=>?_)
  ·refine gc 5 ?_;have hi2:i<2:=(by omega);have hli:=hl i (by omega);have hli1:=hl (i+1) (by omega);have hnx:((qw xs ys (i+1)).length:Int)=(qw xs ys i).length+(aH (if i=0 then xs else ys)).length:=(by rw[uR xs ys hi2,List.length_append,aO];omega);have hat:L[((i:Nat):Int).toNat]? =some [.sl 5 (aH (if i=0 then xs else ys))]:=(by rw[← hL];exact F4 xs ys hi2);refine gc 1 ?_;refine o1 (cu IM MC ?_ (he:=by exact(hat)));refine go 9 ?_;refine o1 (cG ?_);refine ko 3 [3,11,10,9,0] 6 ?_;refine cj (fun h6=>?_) (fun h6=>?_)
   ·contradiction
   refine gc 4 ?_;refine o1 (cG ?_);refine go 2 ?_;refine bi (i+1) rfl ?_ ?_
   ·exact ⟨by omega,by omega⟩
   ·refine mo ?_ (ef rfl (by exact Fit.of_eq (by show SV.d (D.v (Value.int .i64 _))=SV.d (D.v (Value.int .i64 _));congr 3;omega)) (aJ (aJ (aJ (aJ dC)))));exact cH
  refine kc 6 [3,0] 0 ?_;obtain rfl:i=2:=(by omega);refine gc 2 ?_;refine oc (ck P7 rfl rfl (HH (qw xs ys 2).length h2) [] rfl .nil (an (an .nil)) ?_);refine Cl 0 24 rfl rfl rfl rfl rfl ?_;refine ko 12 [27,26,25,6] 0 ?_;refine lp (ι:=Nat) (fun j=>[(6,.own 0 5 (aH (qw xs ys j))),(27,int j)]) (fun j=>[.row 39 5]) [26,25] (fun j=>j≤2) (fun j=>2-j) (0) ([0]) rfl ?I2 ?M2 ?H2
  case I2=>
   exact Nat.zero_le _
  case M2=>
   exact mz
  case H2=>
   rintro j hinv
   try dsimp only at hinv
   refine kc 0 [6,27,26,25] 6 ?_;refine cJ (fun h11=>?_) (fun h11=>?_)
   ·refine kc 6 [6] 0 ?_;obtain rfl:j=2:=(by omega);refine gc 6 ?_;refine ed (.sl 5 (aH (qw xs ys 2))) ?_;rw[h20]
   refine gc 5 ?_;have hj2:j<2:=(by omega);have hli:=hl j (by omega);have hli1:=hl (j+1) (by omega);have hll:=aO (qw xs ys j);have hll1:=aO (if j=0 then xs else ys);have hle:(qw xs ys (j+1)).length=(qw xs ys j).length+(if j=0 then xs else ys).length:=(by rw[uR xs ys hj2,List.length_append]);have hnx:aH (qw xs ys j)++aH (if j=0 then xs else ys)=aH (qw xs ys (j+1)):=(by rw[uR xs ys hj2,dj]);have hat:L[((j:Nat):Int).toNat]? =some [.sl 5 (aH (if j=0 then xs else ys))]:=(by rw[← hL];exact F4 xs ys hj2);refine gc 1 ?_;refine o1 (cu IM MC ?_ (he:=by exact(hat)));refine go 7 ?_;refine oc (gg dE rfl rfl rfl (.inl rfl) rfl rfl rfl (.inl rfl) (by decide) (by(simp only[maxLen];omega)) rfl rfl rfl ?_);refine ko 4 [6,27,26,25] 1 ?_;refine o1 (cG ?_);refine go 2 ?_;rw[hnx];refine bk (j+1) rfl ?_ [0] mz;exact⟨by omega,by omega⟩
def mO(d most:Nat)(parts:Int):Ob:=.cells [.cb 0 0,.d (.v (.int .i64 d)),.d (.v (.int .i64 most)),.d (.v (.int .i64 parts))] 91
def eQ(es:List cy)(d most:Nat)(pr:Int):List Ob:=[pE (es.map (·.d)),dR,.cV (fL es),mO d most pr]
def wq:D:=.me 133 (.agg [])
theorem oV(es:List cy)(d most:Nat)(pr:Int)(hm:most≤1099511627776):
 et Tryz.prog gl 108 (eQ es d most pr) [.cb 3 0] fun out ob'=>(d<most∧out=.ret (.d (.bZ []))∧ob'=eQ es (d+1) most pr)∨(most≤d∧out=.pz (.d wq)∧ob'=eQ es d most pr):=by
 unfold eQ;refine bS Tryz.func108 Tryz.ntmps108 4 ?_;refine gc 2 ?_;refine gz [0,1,2,3,4,5,6,7,8] mixed ?_;refine aZ ?_;refine ge 1 ?_;refine cj (fun h0=>?_) (fun h0=>?_)
 ·refine kc 0 [0] 2 ?_;refine o1 (EZ (by kernel_rfl) rfl rfl rfl ?_);refine oc (T:=fun _=>False) (Lz ?_);refine jA ([0,1,2,3]) (eQ es d most pr) rfl rfl rfl (by repeat (first|exact cH|refine bj ?_|refine cr ?_|refine ia ?_)) ?_;exact .inr ⟨by omega,rfl,rfl⟩
 refine kc 2 [0] 5 ?_;refine o1 (cG ?_);refine go 4 ?_;refine fM ?_;refine nq (l:=[]) rfl rfl (.bZ []) (by exact .refl _) ([0,1,2,3]) (eQ es (d+1) most pr) rfl rfl rfl ?_ ?_
 ·repeat (first|exact cH|refine bj ?_|refine cr ?_|refine ia ?_)
 ·exact .inl ⟨by omega,rfl,rfl⟩
end
section
open Go Go.Vd Go.RowKit
theorem u7{h:ae}(hk:¬ae.kd h=3)(az:List ae):bf (bt h az)=(h,az):=by
 suffices key:∀(n:Nat) (az:List ae),az.length=n→bf (bt h az)=(h,az) from key _ az rfl
 intro n
 induction n with
 |zero=>
  intro az hl;obtain rfl:=List.eq_nil_of_length_eq_zero hl;obtain⟨k,m,s,ls,args,rfl⟩:=ae.case h
  exact kH hk
 |succ n ih=>
  intro az hl;obtain⟨ys,y,rfl⟩:∃ys y,az=ys++[y]:=⟨az.dropLast,az.getLast (by intro e;rw[e] at hl;cases hl),(List.dropLast_concat_getLast _).symm⟩;rw[iq,jh,ih ys (by simpa using hl)]
theorem uU(f:ae)(a b:List ae):bt f (a++b)=bt (bt f a) b:=by unfold bt;rw[List.foldl_append]
theorem Wt.FQ{sg:Sg}{ps:List ByteArray}{c:Int}:∀{az:List ae} {h:ae},Wt sg ps (bt h az) c→Wt sg ps h c∧∀x∈az,Wt sg ps x c
 |[],h,hw=>⟨hw,fun x hx=>by cases hx⟩
 |a::r,h,hw=>by
  obtain⟨h1,h2⟩:=Wt.FQ (az:=r) (h:=.mk 3 0 .empty [] [h,a]) hw;obtain⟨a',b',hab,_,_,_,ha,hb⟩:=h1.two (.inl rfl);cases hab;rw[if_pos rfl] at hb;exact⟨ha,fun x hx=>by rcases List.mem_cons.1 hx with rfl|hx;exact hb;exact h2 x hx⟩
section
variable {es:List cy} {most n d:Nat} {t:ae} {o:qC} {az:List ae}
variable {A b a:ae}
theorem OI{r:List ae}(h:RW es most n t d o)(hS:bf t=(.mk 4 0 .empty [] [A,b],a::r)):∃q,n=q+1∧wx most d (RW es most q) (bt (dp b a) r) (dp b a) o:=by
 cases n with
 |zero=>exact h.elim
 |succ n=>
  refine⟨n,rfl,?_⟩;unfold RW at h;rw[hS] at h;rcases h with⟨_,_,_,_,h1,h2,h3⟩|⟨_,_,_,h1,_⟩|⟨_,_,_,_,h1,_⟩|⟨_,_,_,_,_,h1,_⟩|⟨h1,_⟩
  ·cases h1;cases h2;exact h3
  ·cases h1
  ·cases h1
  ·cases h1
  ·exact absurd ⟨rfl,by simp⟩ h1.1
theorem OH{v:ae}(h:RW es most n t d o)(hS:bf t=(.mk 6 0 .empty [] [A,v,b],az)):∃q,n=q+1∧wx most d (RW es most q) (bt (dp b v) az) (dp b v) o:=by
 cases n with
 |zero=>exact h.elim
 |succ n=>
  refine⟨n,rfl,?_⟩;unfold RW at h;rw[hS] at h;rcases h with⟨_,_,_,_,h1,_⟩|⟨_,_,_,h1,h3⟩|⟨_,_,_,_,h1,_⟩|⟨_,_,_,_,_,h1,_⟩|⟨h1,_⟩
  ·cases h1
  ·cases h1;exact h3
  ·cases h1
  ·cases h1
  ·exact absurd rfl h1.2.1
variable {s:ByteArray} {us:List aP} {e:cy} {j:Nat}
theorem OJ(h:RW es most n t d o)(hS:bf t=(.mk 2 0 s us [],az))(hF:bM s es=(2,e,j))(hl:e.d.ps.length=us.length):∃q,n=q+1∧wx most d (RW es most q) (bt (ew e.d.ps us e.d.vl) az) (ew e.d.ps us e.d.vl) o:=by
 cases n with
 |zero=>exact h.elim
 |succ n=>
  refine⟨n,rfl,?_⟩;unfold RW at h;rw[hS] at h;rcases h with⟨_,_,_,_,h1,_⟩|⟨_,_,_,h1,_⟩|⟨_,_,_,_,h1,h2,_,h3⟩|⟨_,_,_,_,_,h1,h2,_⟩|⟨h1,_⟩
  ·cases h1
  ·cases h1
  ·cases h1;rw[hF] at h2;cases h2;exact h3
  ·cases h1;rw[hF] at h2;cases h2
  ·exact absurd ⟨by rw[hF],by rw[hF];exact hl⟩ (h1.2.2 _ _ rfl).1
theorem OG(h:RW es most n t d o)(hS:bf t=(.mk 2 0 s us [],az))(hF:bM s es=(5,e,j))(hl:e.rp.length=us.length):∃q io,n=q+1∧RI es most (RW es most q) e (.mk 2 0 s us []) az d io∧Oe (RW es most q) t o io:=by
 cases n with
 |zero=>exact h.elim
 |succ n=>
  unfold RW at h;rw[hS] at h;rcases h with⟨_,_,_,_,h1,_⟩|⟨_,_,_,h1,_⟩|⟨_,_,_,_,h1,h2,_⟩|⟨_,_,_,_,io,h1,h2,_,h3,h4⟩|⟨h1,_⟩
  ·cases h1
  ·cases h1
  ·cases h1;rw[hF] at h2;cases h2
  ·cases h1;rw[hF] at h2;cases h2;exact⟨n,io,rfl,h3,h4⟩
  ·exact absurd ⟨by rw[hF],by rw[hF];exact hl⟩ (h1.2.2 _ _ rfl).2
theorem DG{h0:ae}(h:RW es most n t d o)(hS:bf t=(h0,az))(hst:DY es h0 az):o=.ok t d:=by
 cases n with
 |zero=>exact h.elim
 |succ n=>
  unfold RW at h;rw[hS] at h;rcases h with⟨_,_,_,_,h1,h2,_⟩|⟨_,_,_,h1,_⟩|⟨_,_,_,_,h1,h2,h3,_⟩|⟨_,_,_,_,_,h1,h2,h3,_⟩|⟨_,h1⟩
  ·subst h1 h2;exact absurd ⟨rfl,by simp⟩ hst.1
  ·subst h1;exact absurd rfl hst.2.1
  ·subst h1;exact absurd ⟨by rw[h2],by rw[h2];exact h3⟩ (hst.2.2 _ _ rfl).1
  ·subst h1;exact absurd ⟨by rw[h2],by rw[h2];exact h3⟩ (hst.2.2 _ _ rfl).2
  ·exact h1
end
theorem rZ{es:List cy}(hF:fX es)(nm:ByteArray):(fL es nm=none∧(bM nm es).1=0)∨∃(w:Int) (d:dP) (ps:List ByteArray) (ty:ae) (num:Int) (e:cy) (j:Nat) (k:Int),fL es nm=some (uN w d ps ty num)∧bM nm es=(k,e,j)∧w=k-1∧d=e.d∧
 (k=2→ps=e.d.ps)∧(k=5→ps=e.rp)∧(k=4→ps=e.d.ps∧num=j∧∃nm',e.d.cs[j]? =some (nm',ty)):=by
 rw[hF.look];unfold pC;rcases hf:bM nm es with⟨k,e,j⟩;simp only;by_cases h0:k=0
 ·rw [if_pos h0];exact .inl ⟨rfl,h0⟩
 ·rw [if_neg h0];right;by_cases h4:k=4
  ·rw [if_pos h4];have h4':(bM nm es).1=4:=by rw[hf];exact h4
   obtain⟨c,hc,_⟩:=o8 (fun e he hk=>by rcases(hF.ok.xP e he).k with g|g|g<;>omega) h4';rw[hf] at hc;simp only at hc;rw[hc];exact⟨3,_,_,_,_,e,j,k,rfl,rfl,by omega,rfl,fun _=>rfl,fun h=>by omega,fun _=>⟨rfl,rfl,c.1,hc⟩⟩
  ·rw [if_neg h4];by_cases h5:k=5
   ·rw [if_pos h5];exact⟨4,_,_,_,_,e,j,k,rfl,rfl,by omega,rfl,fun h=>by omega,fun _=>rfl,fun h=>absurd h h4⟩
   ·rw [if_neg h5];exact⟨k-1,_,_,_,_,e,j,k,rfl,rfl,rfl,rfl,fun _=>rfl,fun h=>absurd h h5,fun h=>absurd h h4⟩
def rC:ae→Option Nat
 | .mk k _ _ _ [f,_]=>if k=3 then(rC f).map (· +1) else if k=2 then some 0 else none
 | .mk k _ _ _ _=>if k=2 then some 0 else none
def AU:ae→Option Nat
 | .mk k n s ls [a,b]=>if k=5 then AU b else rC (.mk k n s ls [a,b])
 | .mk k n s ls args=>rC (.mk k n s ls args)
variable {k:Int} {s:ByteArray} {ls:List aP} {args:List ae}
theorem EP{n:Int}(h:¬k=3):rC (.mk k n s ls args)=if k=2 then some 0 else none:=by
 match args with
 |[a,b]=>rw[rC,if_neg h]
 |[]=>rfl
 |[a]=>rfl
 |a::b::c::r=>rfl
theorem ER{n:Int}(h:¬k=5):AU (.mk k n s ls args)=rC (.mk k n s ls args):=by
 match args with
 |[a,b]=>rw[AU,if_neg h]
 |[]=>rfl
 |[a]=>rfl
 |a::b::c::r=>rfl
theorem zQ:∀(n:Nat) (t:ae),t.size≤n→(∀ m,rC t=some m→(bf t).2.length=m∧ae.kd (bf t).1=2)∧(ae.kd (bf t).1=2→rC t=some (bf t).2.length):=by
 intro n
 induction n with
 |zero=>intro t h;obtain⟨k,m,s,ls,args,rfl⟩:=ae.case t;simp[ae.size] at h
 |succ n ih=>
  intro t h;obtain⟨k,m,s,ls,args,rfl⟩:=ae.case t
  by_cases hk:k=3
  ·subst hk
   match args with
   |[f,a]=>
    simp only[ae.size,aj] at h;obtain⟨h1,h2⟩:=ih f (by omega);rw[jh,rC,if_pos rfl];refine⟨fun m hm=>?_,fun hm=>?_⟩
    ·obtain ⟨q,hq,rfl⟩:=Option.map_eq_some_iff.1 hm;obtain⟨g1,g2⟩:=h1 q hq;exact⟨by simp[g1],g2⟩
    ·rw [h2 hm];simp
   |[]=>exact⟨fun m hm=>by simp[rC] at hm,fun hm=>by simp[bf,ae.kd] at hm⟩
   |[a]=>exact⟨fun m hm=>by simp[rC] at hm,fun hm=>by simp[bf,ae.kd] at hm⟩
   |a::b::c::r=>exact⟨fun m hm=>by simp[rC] at hm,fun hm=>by simp[bf,ae.kd] at hm⟩
  ·rw [kH hk,EP hk];refine⟨fun m hm=>?_,fun hm=>?_⟩
   ·split at hm
    ·rename_i h2;cases hm;exact⟨rfl,h2⟩
    ·cases hm
   ·rw [if_pos (show k=2 from hm)];rfl
theorem Gi:∀(n:Nat) (t:ae),t.size≤n→AU t=rC (er (bg t) t):=by
 intro n
 induction n with
 |zero=>intro t h;obtain⟨k,m,s,ls,args,rfl⟩:=ae.case t;simp[ae.size] at h
 |succ n ih=>
  intro t h;obtain⟨k,m,s,ls,args,rfl⟩:=ae.case t
  by_cases hk:k=5
  ·match args with
   |[a,b]=>
    simp only[ae.size,aj] at h;rw[AU,if_pos hk,bg,if_pos hk,er];exact ih b (by omega)
   |[]=>rfl
   |[a]=>rfl
   |a::b::c::r=>rfl
  ·rw [ER hk,qQ hk];rfl
theorem NU{F:ae→Int→ae}:∀(n:Nat) (t:ae) (d:Int),t.size≤n→(∀ m,rC t=some m→rC (b0 F t d)=some m∧¬ae.kd (b0 F t d)=5)∧(∀ m,AU t=some m→AU (b0 F t d)=some m∧bg (b0 F t d)=bg t):=by
 intro n
 induction n with
 |zero=>intro t d h;obtain⟨k,m,s,ls,args,rfl⟩:=ae.case t;simp[ae.size] at h
 |succ n ih=>
  intro t d h;obtain⟨k,m,s,ls,args,rfl⟩:=ae.case t
  have key:∀q,rC (.mk k m s ls args)=some q→rC (b0 F (.mk k m s ls args) d)=some q∧¬ae.kd (b0 F (.mk k m s ls args) d)=5:=by
   intro q hq;by_cases hk:k=3
   ·subst hk
    match args,hq with
    |[f,a],hq=>
     simp only[ae.size,aj] at h;rw[rC,if_pos rfl] at hq;obtain⟨r,hr,rfl⟩:=Option.map_eq_some_iff.1 hq;rw[b0,if_neg (by decide)];refine⟨?_,by simp[ae.kd]⟩;show rC (.mk 3 m s ls [_,_])=_;rw[rC,if_pos rfl,((ih f _ (by omega)).1 r hr).1];rfl
    |[],hq=>simp[rC] at hq
    |[a],hq=>simp[rC] at hq
    |a::b::c::r,hq=>simp[rC] at hq
   ·rw [EP hk] at hq;split at hq
    ·rename_i h2;subst h2;rw[b0,if_neg (by decide),EP (by decide)];exact⟨by rw[if_pos rfl];exact hq,by simp[ae.kd]⟩
    ·cases hq
  refine⟨key,fun q hq=>?_⟩;by_cases hk:k=5
  ·subst hk
   match args,hq with
   |[a,b],hq=>
    simp only[ae.size,aj] at h;rw[AU,if_pos rfl] at hq;rw[b0,if_neg (by decide)];show AU (.mk 5 m s ls [_,_])=_∧bg (.mk 5 m s ls [_,_])=_;rw[AU,if_pos rfl,bg,if_pos rfl,bg,if_pos rfl];obtain⟨g1,g2⟩:=(ih b (if (decide ((4:Int)≤5)&&([]:List ae).isEmpty)=true then d+1 else d) (by omega)).2 q hq;exact⟨g1,by rw[← g2]⟩
   |[],hq=>simp[AU,rC] at hq
   |[a],hq=>simp[AU,rC] at hq
   |a::b::c::r,hq=>simp[AU,rC] at hq
  ·rw [ER hk] at hq;obtain⟨g1,g2⟩:=key q hq;rw[qQ hk];obtain⟨k',m',s',l',a',hX⟩:=ae.case (b0 F (.mk k m s ls args) d)
   rw[hX] at g1 g2 ⊢;exact⟨(ER (show ¬k'=5 from g2)).trans g1,qQ (show ¬k'=5 from g2)⟩
theorem NT(ps:List ByteArray)(us:List aP):∀(n:Nat) (t:ae),t.size≤n→rC (ew ps us t)=rC t∧AU (ew ps us t)=AU t:=by
 intro n
 induction n with
 |zero=>intro t h;obtain⟨k,m,s,ls,args,rfl⟩:=ae.case t;simp[ae.size] at h
 |succ n ih=>
  intro t h;obtain⟨k,m,s,ls,args,rfl⟩:=ae.case t
  match args with
  |[a,b]=>
   simp only[ae.size,aj] at h;simp only[ew,dw,rC,AU];rw[(ih a (by omega)).1,(ih b (by omega)).2];exact⟨rfl,rfl⟩
  |[]=>simp[ew,dw,rC,AU]
  |[a]=>simp[ew,dw,rC,AU]
  |a::b::c::r=>simp[ew,dw,rC,AU]
mutual
theorem Gj(nm:ByteArray)(ps:List ByteArray)(us:List aP):∀(t:ae) (d:Int),eU (jN nm) (ew ps us t) d=eU (jN nm) t d
 | .mk k n s ls args,d=>by
  simp only[ew,eU];rw[CZ nm ps us args];rfl
theorem CZ(nm:ByteArray)(ps:List ByteArray)(us:List aP):∀(l:List ae) (b:Bool) (d:Int),iF (jN nm) b (dw ps us l) d=iF (jN nm) b l d
 |[],b,d=>by simp[dw,iF]
 |t::r,b,d=>by
  simp only[dw,iF];rw[Gj nm ps us t,CZ nm ps us r];cases r<;>simp[dw]
end
theorem Nn(ps:List ByteArray)(us:List aP):∀(n:Nat) (t:ae),gh n (ew ps us t)=(gh n t).map (ew ps us):=by
 intro n
 induction n with
 |zero=>intro t;rfl
 |succ n ih=>
  intro t
  match t with
  | .mk k m s ls [a,b]=>simp only[ew,dw,gh,ih b,List.map_cons]
  | .mk k m s ls []=>simp[ew,dw,gh]
  | .mk k m s ls [a]=>simp[ew,dw,gh]
  | .mk k m s ls (a::b::c::r)=>simp[ew,dw,gh]
variable {us:List aP} {j:Nat} {a:ae}
theorem Jy{nm:ByteArray}{p:Int}{cty:ae}(hc:Ca nm p cty){ps:List ByteArray}(hp:p≤j)(ha:(gh (bg cty) (ew ps us cty))[j]? =some a)(hh:eU (jN nm) a 0=true)(vs:List ae):
 p≤(bf (er (bg (eW a vs)) (eW a vs))).2.length∧(bf (er (bg (eW a vs)) (eW a vs))).2.length≤cty.size∧bg (eW a vs)=bg a:=by
 rw[Nn,List.getElem?_map] at ha;obtain⟨b,hb,rfl⟩:=Option.map_eq_some_iff.1 ha;rw[Gj] at hh;obtain⟨m,ls,ar,h1,h2⟩:=hc j b hp hb hh;have e1:=(zQ _ (er (bg b) b) (Nat.le_refl _)).2 (by rw[h1];rfl);rw[← Gi _ b (Nat.le_refl _),←(NT ps us _ b (Nat.le_refl _)).2] at e1;obtain⟨e2,e3⟩:=(NU (F:=gd vs) _ (ew ps us b) 0 (Nat.le_refl _)).2 _ e1;rw[ju];rw[Gi _ _ (Nat.le_refl _)] at e2;have e4:=((zQ _ _ (Nat.le_refl _)).1 _ e2).1;have g1:=dH (bg cty) cty;have g2:=bG hb;have g3:=dH (bg b) b;have g4:=dQ _ (er (bg b) b) (Nat.le_refl _);have g5:=br (bf (er (bg b) b)).2;exact⟨by rw[e4];exact h2,by rw[e4];omega,e3⟩
theorem Gd{nm:ByteArray}{h:ae}{firsts pre X cs:List ae}{p:Nat}:∀j,(vY nm h firsts p pre X cs j).length≤j
 |0=>Nat.le_refl _
 |j+1=>by
  have:=Gd (nm:=nm) (h:=h) (firsts:=firsts) (pre:=pre) (X:=X) (cs:=cs) (p:=p) j;rw[vY,List.length_append];split
  ·simp only[List.length_cons,List.length_nil];omega
  ·simp only[List.length_nil];omega
theorem Gc{nm:ByteArray}{h:ae}{firsts pre X cs:List ae}{p:Nat}:∀j,j≤p→vY nm h firsts p pre X cs j=[]
 |0,_=>rfl
 |j+1,hj=>by rw[vY,Gc j (by omega),if_neg (by omega)];rfl
end
section
open Go Go.Vd Go.RowKit
attribute [local irreducible] bu bA di ak bL cU
variable {g gl:Nat→List D}
theorem DQ{F:ae→Int→ae}{B:Int}{f:FuncId}(hcf:ai Tryz.prog f=true){x1 x2:D}{ty1 ty2:TypeId}
 (hf:∀(m:Int) (s:ByteArray) (ls:List aP) (args:List ae) (d:Int),0≤m→m≤B→0≤d→d≤1099511627776→et Tryz.prog gl f [.cells [.d x1] ty1,.cells [.d x2] ty2] [.d (ae.mk 0 m s ls args).d,.d (.v (.int .i64 d)),.cb 0 0,.cb 1 0] fun out ob'=>out=.ret (.d (F (.mk 0 m s ls args) d).d)∧ob'=[.cells [.d x1] ty1,.cells [.d x2] ty2]):
 ∀(n:Nat) (k m:Int) (s:ByteArray) (ls:List aP) (args:List ae) (d:Int),(ae.mk k m s ls args).size≤n→pI B (.mk k m s ls args)→0≤d→d+(ae.mk k m s ls args).size≤1099511627776→
  et Tryz.prog gl 152 [.cells [.d x1] ty1,.cells [.d x2] ty2] [.d (ae.mk k m s ls args).d,.d (.v (.int .i64 d)),.fn (.func f) [] [.cb 0 0,.cb 1 0]] fun out ob'=>out=.ret (.d (b0 F (.mk k m s ls args) d).d)∧ob'=[.cells [.d x1] ty1,.cells [.d x2] ty2]:=by
 intro n
 induction n with
 |zero=>intro k m s ls args d h;simp[ae.size] at h
 |succ n ih=>
  intro k m s ls args d hsz hnum hd0 hd1;have hsz2:=hsz;simp only[ae.size] at hsz2 hd1;have hal:=aO args;have hsa:=br args;refine bS Tryz.func152 Tryz.ntmps152 2 ?_;refine gc 14 ?_;refine cj (fun h1=>?_) (fun h1=>?_)
  ·refine kc 1 [6,3,1,2] 0 ?_;obtain rfl:=h1;obtain⟨k1,m1,s1,l1,a1,hX⟩:=ae.case (F (.mk 0 m s ls args) d)
   have hv:=Cw hnum;have hcx:=hf m s ls args d hv.1 hv.2 hd0 (by omega);rw[hX] at hcx;refine gc 4 ?_;refine oc (wW hcf rfl rfl rfl rfl rfl rfl rfl rfl (hcx) ([0,1]) (bj (bj .nil)) rfl rfl rfl rfl (bo (an (an (an .nil)))) (fun s ob' hq=>?_) (fun s ob' hq=>?_));rotate_left
   ·first|exact hq.elim|cases hq.1
   obtain⟨hq1,rfl⟩:=hq;cases hq1;refine⟨_,_,_,_,_,rfl,rfl,rfl,rfl,rfl,?_⟩;refine go 5 ?_;refine eo ((ae.mk k1 m1 s1 l1 a1).d) [0,1] [.cells [.d x1] ty1,.cells [.d x2] ty2] ?_
   ·rw [b0,if_pos rfl,hX];exact⟨rfl,rfl⟩
  refine kc 3 [6,3,1,2] 8 ?_;refine cj (fun h3=>?_) (fun h3=>?_)
  ·refine kc 0 [6,3] 8 ?_;refine eo ((ae.mk k m s ls args).d) [0,1] [.cells [.d x1] ty1,.cells [.d x2] ty2] ?_
   ·rw [b0,if_neg h1,show args=[] from List.length_eq_zero_iff.1 (by omega)];exact⟨rfl,rfl⟩
  refine kc 2 [6,3,1,2] 12 ?_;refine oc (T:=fun _=>False) (wU dE bw rfl rfl rfl rfl rfl (by simp only[List.length_cons,List.length_nil,Nat.reduceAdd];rfl) (by(simp only[maxLen];omega)) rfl ?_);refine ko 14 [32,31,30,7,6,3,1,2] 0 ?_;refine lp (ι:=Nat) (fun i=>[(32,int i)]) (fun i=>[.cells [.d x1] ty1,.cells [.d x2] ty2,.cells [.d (.v (.int .i64 k)),.d (.v (.int .i64 m)),.d (.v (.string s)),.d (.sl 3 (bF ls)),.d (.sl 5 (aH args))] 39,.cells [.d (.v (.int .i64 0)),.d (.v (.int .i64 0)),.d (.v (.string .empty)),.d (.v (.slice none 0 0)),.d (.v (.slice none 0 0))] 39,.cells [.d (.v (.int .i64 k)),.d (.v (.int .i64 m)),.d (.v (.string s)),.d (.sl 3 (bF ls)),.arr 5 (aH args).length] 39,.buf 39 5 (uq (bQ F (decide (4≤k)) args d) i (aH args).length) none]) [31,30,7,6,3,1,2] (fun i=>i≤args.length) (fun i=>args.length-i) (0) ([0,1,2,3,4,5]) rfl ?I2 ?M2 ?H2
  case I2=>
   exact Nat.zero_le _
  case M2=>
   exact mz
  case H2=>
   rintro i hinv
   try dsimp only at hinv
   refine kc 0 [32,31,30,7,6,3,1,2] 6 ?_;refine cJ (fun h8=>?_) (fun h8=>?_)
   ·refine kc 5 [7,6] 2 ?_;obtain rfl:i=(aH args).length:=(by omega);rw[BW (by rw[fB];omega)];refine p8 5 rfl rfl rfl rfl ?_;refine go 5 ?_;refine eo ((ae.mk k m s ls (bQ F (decide (4≤k)) args d)).d) [0,1] [.cells [.d x1] ty1,.cells [.d x2] ty2] ?_
    ·rw [b0,if_neg h1];exact⟨rfl,rfl⟩
   refine gc 5 ?_;obtain⟨k2,m2,s2,l2,a2,hget⟩:=bK (show i<args.length by omega);have hg1:=bG hget;have hg2:=n5 F (decide (4≤k)) d hget;obtain⟨k3,m3,s3,l3,a3,hY⟩:=ae.case (b0 F (.mk k2 m2 s2 l2 a2) (if decide (4≤k)=true∧i+1=args.length then d+1 else d));refine gc 2 ?_;refine o1 (cu bB bH ?_ (he:=by exact(bW hget)));refine ko 6 [8,9,32,31,30,7,6,3,1,2] 13 ?_
   refine' oa (yt:=47) (d:=41) 6 ?a1 ?b1 ?_
   case a1=>
    intro hc hK;refine go 4 ?_;refine gy ?_;refine o1 (iC ?_);refine go 1 ?_;exact hK [_,_,_,_,_,_] rfl rfl
   case b1=>
    intro _ hK;refine go 6 ?_;exact hK [_,_,_,_,_,_] rfl
   refine ko 2 [48,10,8,9,32,31,30,7,6,3,1,2] 0 ?_;refine xc (ι:=Unit) (fun _=>[(10,int (if decide (4≤k)=true∧i+1=args.length then d+1 else d))]) [8,9,32,31,30,7,6,3,1,2] (fun _=>True) rfl ?A3 ?B3
   case A3=>
    refine cJ (fun h11=>?_) (fun h11=>?_)
    ·refine gc 1 ?_;refine bi (()) rfl ?_ ?_
     ·trivial
     ·refine mo ?_ (ef rfl (by exact Fit.of_eq (by first|(rw[if_pos (by simp only[decide_eq_true_eq];omega)];rfl)|(rw[if_neg (by simp only[decide_eq_true_eq];omega)];rfl))) (aJ (aJ (aJ (aJ (aJ (aJ (aJ (aJ (aJ (aJ dC)))))))))))
      repeat (first|exact cH|refine bj ?_|refine ya ?_)
    refine gc 2 ?_;refine o1 (cG ?_);refine go 2 ?_;refine bi (()) rfl ?_ ?_
    ·trivial
    ·refine mo ?_ (ef rfl (by exact Fit.of_eq (by first|(rw[if_pos (by simp only[decide_eq_true_eq];omega)];rfl)|(rw[if_neg (by simp only[decide_eq_true_eq];omega)];rfl))) (aJ (aJ (aJ (aJ (aJ (aJ (aJ (aJ (aJ (aJ dC)))))))))))
     repeat (first|exact cH|refine bj ?_|refine ya ?_)
   case B3=>
    rintro _ hcut
    try dsimp only at hcut
    refine kp [10,8,9,32,31,30,7,6,3,1,2] ?_;have hihx:=ih k2 m2 s2 l2 a2 (if decide (4≤k)=true∧i+1=args.length then d+1 else d) (by omega) (Cx hnum h1 hget) (by split<;>omega) (by split<;>omega);rw[hY] at hihx hg2;have hset:(uq (bQ F (decide (4≤k)) args d) i (aH args).length).set i [.v (.int .i64 k3),.v (.int .i64 m3),.v (.string s3),.sl 3 (bF l3),.sl 5 (aH a3)]=uq (bQ F (decide (4≤k)) args d) (i+1) (aH args).length:=BU hg2 (by omega);refine gz [0,1,2,3,4,5] mixed ?_;refine A2 6 rfl (ck GG rfl rfl (hihx) [0,1] rfl (bj (bj .nil)) (bo (an (an .nil))) ?_);refine A1 7 rfl (dL bB bH rfl rfl rfl rfl rfl rfl (by omega) ⟨_,rfl,?_⟩);refine A2 8 rfl (fO bw rfl rfl rfl rfl rfl rfl rfl rfl rfl rfl rfl rfl ⟨rfl,by(rw[BV (by rw[fB];omega) (by omega)];omega)⟩ rfl ?_);refine aZ ?_;refine ke 2 [32,31,30,7,6,3,1,2] 1 ?_;refine o1 (cG ?_);refine go 2 ?_;simp only[Int.toNat_natCast];rw[hset];refine bk (i+1) rfl ?_ [0,1,2,3,4,5] mz;exact⟨by omega,by omega⟩
end
section
open Go Go.Vd Go.RowKit
attribute [local irreducible] bu bA di ak bL cU
variable {g gl:Nat→List D}
theorem DR{F:ae→Int→ae}{B:Int}{f:FuncId}(hcf:ai Tryz.prog f=true){x1:D}{ty1:TypeId}
 (hf:∀(m:Int) (s:ByteArray) (ls:List aP) (args:List ae) (d:Int),0≤m→m≤B→0≤d→d≤1099511627776→et Tryz.prog gl f [.cells [.d x1] ty1] [.d (ae.mk 0 m s ls args).d,.d (.v (.int .i64 d)),.cb 0 0] fun out ob'=>out=.ret (.d (F (.mk 0 m s ls args) d).d)∧ob'=[.cells [.d x1] ty1]):
 ∀(n:Nat) (k m:Int) (s:ByteArray) (ls:List aP) (args:List ae) (d:Int),(ae.mk k m s ls args).size≤n→pI B (.mk k m s ls args)→0≤d→d+(ae.mk k m s ls args).size≤1099511627776→
  et Tryz.prog gl 152 [.cells [.d x1] ty1] [.d (ae.mk k m s ls args).d,.d (.v (.int .i64 d)),.fn (.func f) [] [.cb 0 0]] fun out ob'=>out=.ret (.d (b0 F (.mk k m s ls args) d).d)∧ob'=[.cells [.d x1] ty1]:=by
 intro n
 induction n with
 |zero=>intro k m s ls args d h;simp[ae.size] at h
 |succ n ih=>
  intro k m s ls args d hsz hnum hd0 hd1;have hsz2:=hsz;simp only[ae.size] at hsz2 hd1;have hal:=aO args;have hsa:=br args;refine bS Tryz.func152 Tryz.ntmps152 1 ?_;refine gc 14 ?_;refine cj (fun h1=>?_) (fun h1=>?_)
  ·refine kc 1 [6,3,1,2] 0 ?_;obtain rfl:=h1;obtain⟨k1,m1,s1,l1,a1,hX⟩:=ae.case (F (.mk 0 m s ls args) d)
   have hv:=Cw hnum;have hcx:=hf m s ls args d hv.1 hv.2 hd0 (by omega);rw[hX] at hcx;refine gc 4 ?_;refine oc (wW hcf rfl rfl rfl rfl rfl rfl rfl rfl (hcx) ([0]) (bj .nil) rfl rfl rfl rfl (bo (an (an .nil))) (fun s ob' hq=>?_) (fun s ob' hq=>?_));rotate_left
   ·first|exact hq.elim|cases hq.1
   obtain⟨hq1,rfl⟩:=hq;cases hq1;refine⟨_,_,_,_,_,rfl,rfl,rfl,rfl,rfl,?_⟩;refine go 5 ?_;refine eo ((ae.mk k1 m1 s1 l1 a1).d) [0] [.cells [.d x1] ty1] ?_
   ·rw [b0,if_pos rfl,hX];exact⟨rfl,rfl⟩
  refine kc 3 [6,3,1,2] 8 ?_;refine cj (fun h3=>?_) (fun h3=>?_)
  ·refine kc 0 [6,3] 8 ?_;refine eo ((ae.mk k m s ls args).d) [0] [.cells [.d x1] ty1] ?_
   ·rw [b0,if_neg h1,show args=[] from List.length_eq_zero_iff.1 (by omega)];exact⟨rfl,rfl⟩
  refine kc 2 [6,3,1,2] 12 ?_;refine oc (T:=fun _=>False) (wU dE bw rfl rfl rfl rfl rfl (by simp only[List.length_cons,List.length_nil,Nat.reduceAdd];rfl) (by(simp only[maxLen];omega)) rfl ?_);refine ko 14 [32,31,30,7,6,3,1,2] 0 ?_;refine lp (ι:=Nat) (fun i=>[(32,int i)]) (fun i=>[.cells [.d x1] ty1,.cells [.d (.v (.int .i64 k)),.d (.v (.int .i64 m)),.d (.v (.string s)),.d (.sl 3 (bF ls)),.d (.sl 5 (aH args))] 39,.cells [.d (.v (.int .i64 0)),.d (.v (.int .i64 0)),.d (.v (.string .empty)),.d (.v (.slice none 0 0)),.d (.v (.slice none 0 0))] 39,.cells [.d (.v (.int .i64 k)),.d (.v (.int .i64 m)),.d (.v (.string s)),.d (.sl 3 (bF ls)),.arr 4 (aH args).length] 39,.buf 39 5 (uq (bQ F (decide (4≤k)) args d) i (aH args).length) none]) [31,30,7,6,3,1,2] (fun i=>i≤args.length) (fun i=>args.length-i) (0) ([0,1,2,3,4]) rfl ?I2 ?M2 ?H2
  case I2=>
   exact Nat.zero_le _
  case M2=>
   exact mz
  case H2=>
   rintro i hinv
   try dsimp only at hinv
   refine kc 0 [32,31,30,7,6,3,1,2] 6 ?_;refine cJ (fun h8=>?_) (fun h8=>?_)
   ·refine kc 5 [7,6] 2 ?_;obtain rfl:i=(aH args).length:=(by omega);rw[BW (by rw[fB];omega)];refine p8 4 rfl rfl rfl rfl ?_;refine go 5 ?_;refine eo ((ae.mk k m s ls (bQ F (decide (4≤k)) args d)).d) [0] [.cells [.d x1] ty1] ?_
    ·rw [b0,if_neg h1];exact⟨rfl,rfl⟩
   refine gc 5 ?_;obtain⟨k2,m2,s2,l2,a2,hget⟩:=bK (show i<args.length by omega);have hg1:=bG hget;have hg2:=n5 F (decide (4≤k)) d hget;obtain⟨k3,m3,s3,l3,a3,hY⟩:=ae.case (b0 F (.mk k2 m2 s2 l2 a2) (if decide (4≤k)=true∧i+1=args.length then d+1 else d));refine gc 2 ?_;refine o1 (cu bB bH ?_ (he:=by exact(bW hget)));refine ko 6 [8,9,32,31,30,7,6,3,1,2] 13 ?_
   refine' oa (yt:=47) (d:=41) 6 ?a1 ?b1 ?_
   case a1=>
    intro hc hK;refine go 4 ?_;refine gy ?_;refine o1 (iC ?_);refine go 1 ?_;exact hK [_,_,_,_,_,_] rfl rfl
   case b1=>
    intro _ hK;refine go 6 ?_;exact hK [_,_,_,_,_,_] rfl
   refine ko 2 [48,10,8,9,32,31,30,7,6,3,1,2] 0 ?_;refine xc (ι:=Unit) (fun _=>[(10,int (if decide (4≤k)=true∧i+1=args.length then d+1 else d))]) [8,9,32,31,30,7,6,3,1,2] (fun _=>True) rfl ?A3 ?B3
   case A3=>
    refine cJ (fun h11=>?_) (fun h11=>?_)
    ·refine gc 1 ?_;refine bi (()) rfl ?_ ?_
     ·trivial
     ·refine mo ?_ (ef rfl (by exact Fit.of_eq (by first|(rw[if_pos (by simp only[decide_eq_true_eq];omega)];rfl)|(rw[if_neg (by simp only[decide_eq_true_eq];omega)];rfl))) (aJ (aJ (aJ (aJ (aJ (aJ (aJ (aJ (aJ (aJ dC)))))))))))
      repeat (first|exact cH|refine bj ?_|refine ya ?_)
    refine gc 2 ?_;refine o1 (cG ?_);refine go 2 ?_;refine bi (()) rfl ?_ ?_
    ·trivial
    ·refine mo ?_ (ef rfl (by exact Fit.of_eq (by first|(rw[if_pos (by simp only[decide_eq_true_eq];omega)];rfl)|(rw[if_neg (by simp only[decide_eq_true_eq];omega)];rfl))) (aJ (aJ (aJ (aJ (aJ (aJ (aJ (aJ (aJ (aJ dC)))))))))))
     repeat (first|exact cH|refine bj ?_|refine ya ?_)
   case B3=>
    rintro _ hcut
    try dsimp only at hcut
    refine kp [10,8,9,32,31,30,7,6,3,1,2] ?_;have hihx:=ih k2 m2 s2 l2 a2 (if decide (4≤k)=true∧i+1=args.length then d+1 else d) (by omega) (Cx hnum h1 hget) (by split<;>omega) (by split<;>omega);rw[hY] at hihx hg2;have hset:(uq (bQ F (decide (4≤k)) args d) i (aH args).length).set i [.v (.int .i64 k3),.v (.int .i64 m3),.v (.string s3),.sl 3 (bF l3),.sl 5 (aH a3)]=uq (bQ F (decide (4≤k)) args d) (i+1) (aH args).length:=BU hg2 (by omega);refine gz [0,1,2,3,4,5] mixed ?_;refine A2 6 rfl (ck GG rfl rfl (hihx) [0] rfl (bj .nil) (bo (an (an .nil))) ?_);refine A1 7 rfl (dL bB bH rfl rfl rfl rfl rfl rfl (by omega) ⟨_,rfl,?_⟩);refine A2 8 rfl (fO bw rfl rfl rfl rfl rfl rfl rfl rfl rfl rfl rfl rfl ⟨rfl,by(rw[BV (by rw[fB];omega) (by omega)];omega)⟩ rfl ?_);refine aZ ?_;refine ke 2 [32,31,30,7,6,3,1,2] 1 ?_;refine o1 (cG ?_);refine go 2 ?_;simp only[Int.toNat_natCast];rw[hset];refine bk (i+1) rfl ?_ [0,1,2,3,4] mz;exact⟨by omega,by omega⟩
end
section
open Go Go.Vd Go.RowKit
attribute [local irreducible] bu bA di ak bL cU
variable {g gl:Nat→List D}
variable {m0 fr B:Int}
theorem Ew(h0:0≤m0∧m0≤1099511627776)(h1':0≤fr∧fr≤1099511627776)(hB:B≤1099511627776)(m:Int)(s:ByteArray)(ls:List aP)(args:List ae)(d:Int)(hm0:0≤m)(hmB:m≤B)(hd0:0≤d)(hd1:d≤1099511627776):
 et Tryz.prog gl 145 [.cells [.d (.v (.int .i64 fr))] 3,.cells [.d (.v (.int .i64 m0))] 3] [.d (ae.mk 0 m s ls args).d,.d (.v (.int .i64 d)),.cb 0 0,.cb 1 0] fun out ob'=>out=.ret (.d (dK m0 fr (.mk 0 m s ls args) d).d)∧ob'=[.cells [.d (.v (.int .i64 fr))] 3,.cells [.d (.v (.int .i64 m0))] 3]:=by
 refine bS Tryz.func145 Tryz.ntmps145 2 ?_;refine gc 13 ?_;refine o1 (cG ?_);refine go 3 ?_;refine cJ (fun h1=>?_) (fun h1=>?_)
 ·refine kc 2 [6,4] 7 ?_;refine eo ((ae.mk 0 m s ls args).d) [0,1] [.cells [.d (.v (.int .i64 fr))] 3,.cells [.d (.v (.int .i64 m0))] 3] ?_
  ·rw [dK,if_neg (by omega)];exact⟨rfl,rfl⟩
 refine kc 0 [6,4,3] 4 ?_;refine o1 (cG ?_);refine ko 4 [6,4] 7 ?_;refine eo ((ae.mk 0 (m+m0) s ls args).d) [0,1] [.cells [.d (.v (.int .i64 fr))] 3,.cells [.d (.v (.int .i64 m0))] 3] ?_
 ·rw [dK,if_pos (by omega)];exact⟨rfl,rfl⟩
variable {F:ae→Int→ae} {f:FuncId} {x1:D} {ty1:TypeId}
theorem Hs(hcf:ai Tryz.prog f=true){x2:D}{ty2:TypeId}
 (hf:∀(m:Int) (s:ByteArray) (ls:List aP) (args:List ae) (d:Int),0≤m→m≤B→0≤d→d≤1099511627776→et Tryz.prog gl f [.cells [.d x1] ty1,.cells [.d x2] ty2] [.d (ae.mk 0 m s ls args).d,.d (.v (.int .i64 d)),.cb 0 0,.cb 1 0] fun out ob'=>out=.ret (.d (F (.mk 0 m s ls args) d).d)∧ob'=[.cells [.d x1] ty1,.cells [.d x2] ty2])
 (k m:Int) (s:ByteArray) (ls:List aP) (args:List ae) (hnum:pI B (.mk k m s ls args)) (hsz:(ae.mk k m s ls args).size≤1099511627776):
  et Tryz.prog gl 134 [.cells [.d x1] ty1,.cells [.d x2] ty2] [.d (ae.mk k m s ls args).d,.fn (.func f) [] [.cb 0 0,.cb 1 0]] fun out ob'=>out=.ret (.d (b0 F (.mk k m s ls args) 0).d)∧ob'=[.cells [.d x1] ty1,.cells [.d x2] ty2]:=by
 have hw:=DQ (gl:=gl) hcf hf _ k m s ls args 0 (Nat.le_refl _) hnum (Int.le_refl _) (by omega);obtain⟨k1,m1,s1,l1,a1,hX⟩:=ae.case (b0 F (.mk k m s ls args) 0)
 rw[hX] at hw ⊢;refine bS Tryz.func134 Tryz.ntmps134 2 ?_;refine gc 10 ?_;refine oc (ck GG rfl rfl (hw) [0,1] rfl (bj (bj .nil)) (bo (an (an .nil))) ?_);refine go 4 ?_;refine sZ [0,1] [.cells [.d x1] ty1,.cells [.d x2] ty2] ?_
 ·exact ⟨rfl,rfl⟩
theorem zC(hcf:ai Tryz.prog f=true)
 (hf:∀(m:Int) (s:ByteArray) (ls:List aP) (args:List ae) (d:Int),0≤m→m≤B→0≤d→d≤1099511627776→et Tryz.prog gl f [.cells [.d x1] ty1] [.d (ae.mk 0 m s ls args).d,.d (.v (.int .i64 d)),.cb 0 0] fun out ob'=>out=.ret (.d (F (.mk 0 m s ls args) d).d)∧ob'=[.cells [.d x1] ty1])
 (k m:Int) (s:ByteArray) (ls:List aP) (args:List ae) (hnum:pI B (.mk k m s ls args)) (hsz:(ae.mk k m s ls args).size≤1099511627776):
  et Tryz.prog gl 134 [.cells [.d x1] ty1] [.d (ae.mk k m s ls args).d,.fn (.func f) [] [.cb 0 0]] fun out ob'=>out=.ret (.d (b0 F (.mk k m s ls args) 0).d)∧ob'=[.cells [.d x1] ty1]:=by
 have hw:=DR (gl:=gl) hcf hf _ k m s ls args 0 (Nat.le_refl _) hnum (Int.le_refl _) (by omega);obtain⟨k1,m1,s1,l1,a1,hX⟩:=ae.case (b0 F (.mk k m s ls args) 0)
 rw[hX] at hw ⊢;refine bS Tryz.func134 Tryz.ntmps134 1 ?_;refine gc 10 ?_;refine oc (ck GG rfl rfl (hw) [0] rfl (bj .nil) (bo (an (an .nil))) ?_);refine go 4 ?_;refine sZ [0] [.cells [.d x1] ty1] ?_
 ·exact ⟨rfl,rfl⟩
theorem qW(h0:0≤m0∧m0≤1099511627776)(hf0:0≤fr∧fr≤1099511627776)(hB:B≤1099511627776)(k m:Int)(s:ByteArray)(ls:List aP)(args:List ae)(hnum:pI B (.mk k m s ls args))(hsz:(ae.mk k m s ls args).size≤1099511627776):
 cD Tryz.prog gl 116 [(ae.mk k m s ls args).d,.v (.int .i64 m0),.v (.int .i64 fr)] (· =(dz (.mk k m s ls args) m0 fr).d):=by
 have hc:=Hs (gl:=gl) Qd (Ew h0 hf0 hB) k m s ls args hnum hsz;obtain⟨k1,m1,s1,l1,a1,hX⟩:=ae.case (b0 (dK m0 fr) (.mk k m s ls args) 0)
 rw[hX] at hc;refine bD Tryz.func116 Tryz.ntmps116 ?_;refine gc 15 ?_;refine cj (fun h1=>?_) (fun h1=>?_)
 ·refine kc 0 [6,3] 8 ?_;refine ed ((ae.mk k m s ls args).d) ?_;rw[dz,if_pos h1]
 refine kc 2 [6,5,4,3] 3 ?_;refine o1 (Be ?_);refine oc (ck KH rfl rfl (hc) [2,1] rfl (bj (bj .nil)) (bo (an .nil)) ?_);refine go 4 ?_;refine ed ((ae.mk k1 m1 s1 l1 a1).d) ?_;rw[dz,if_neg h1,hX]
theorem EK(hB:B≤1099511627776)(kv nv:Int)(sv:ByteArray)(lv:List aP)(av:List ae)(hnv:pI B (.mk kv nv sv lv av))(hsv:(ae.mk kv nv sv lv av).size≤1099511627776)(m:Int)(s:ByteArray)(ls:List aP)(args:List ae)(d:Int)(hm0:0≤m)(hmB:m≤B)(hd0:0≤d)(hd1:d≤1099511627776):
 et Tryz.prog gl 135 [.cells [.d (.sl 5 (aH [.mk kv nv sv lv av]))] 37] [.d (ae.mk 0 m s ls args).d,.d (.v (.int .i64 d)),.cb 0 0] fun out ob'=>out=.ret (.d (de (.mk kv nv sv lv av) (.mk 0 m s ls args) d).d)∧ob'=[.cells [.d (.sl 5 (aH [.mk kv nv sv lv av]))] 37]:=by
 have hl:=qW (gl:=gl) (m0:=d) (fr:=0) ⟨hd0,hd1⟩ ⟨by omega,by omega⟩ hB kv nv sv lv av hnv hsv;obtain⟨k1,m1,s1,l1,a1,hX⟩:=ae.case (dz (.mk kv nv sv lv av) d 0)
 rw[hX] at hl;have hlen:(aH [.mk kv nv sv lv av]).length=1:=rfl;refine bS Tryz.func135 Tryz.ntmps135 1 ?_;refine gc 12 ?_;refine o1 (iC ?_);refine ko 4 [6,5,3,1,2] 7 ?_;refine cj (fun h3=>?_) (fun h3=>?_)
 ·refine kc 3 [5,3] 7 ?_;refine eo ((ae.mk 0 m s ls args).d) [0] [.cells [.d (.sl 5 (aH [.mk kv nv sv lv av]))] 37] ?_
  ·rw [de,if_pos (by omega)];exact⟨rfl,rfl⟩
 refine gc 9 ?_;refine cJ (fun h4=>?_) (fun h4=>?_)
 ·refine kc 0 [5,3,2] 5 ?_;refine o1 (iC ?_);refine ko 5 [5,3] 7 ?_;refine eo ((ae.mk 0 (m-(aH [.mk kv nv sv lv av]).length) s ls args).d) [0] [.cells [.d (.sl 5 (aH [.mk kv nv sv lv av]))] 37] ?_
  ·rw [de,if_neg (by omega),if_neg (by omega)];exact⟨rfl,rfl⟩
 refine kc 0 [6,5,1,2] 5 ?_;refine o1 (iC ?_);refine go 1 ?_;refine o1 (iC ?_);refine o1 (cu bB bH ?_ (he:=by exact((by rw[hlen,show(((1:Nat):Int)-1-(m-d)).toNat=0 by omega];rfl))));refine go 2 ?_;refine oc (cv GI rfl rfl (hl) (bo (an (an .nil))) ?_);refine go 6 ?_;refine eo ((ae.mk k1 m1 s1 l1 a1).d) [0] [.cells [.d (.sl 5 (aH [.mk kv nv sv lv av]))] 37] ?_
 ·rw [de,if_neg (by omega),if_pos (by omega),hX];exact⟨rfl,rfl⟩
theorem DW(hB:B≤1099511627776)(kv nv:Int)(sv:ByteArray)(lv:List aP)(av:List ae)(hnv:pI B (.mk kv nv sv lv av))(hsv:(ae.mk kv nv sv lv av).size≤1099511627776)(k m:Int)(s:ByteArray)(ls:List aP)(args:List ae)(hnum:pI B (.mk k m s ls args))(hsz:(ae.mk k m s ls args).size≤1099511627776):
 cD Tryz.prog gl 110 [(ae.mk k m s ls args).d,(ae.mk kv nv sv lv av).d] (· =(dp (.mk k m s ls args) (.mk kv nv sv lv av)).d):=by
 have hc:=zC (gl:=gl) MX (EK hB kv nv sv lv av hnv hsv) k m s ls args hnum hsz;obtain⟨k1,m1,s1,l1,a1,hX⟩:=ae.case (b0 (de (.mk kv nv sv lv av)) (.mk k m s ls args) 0)
 rw[hX] at hc;have hi:cD Tryz.prog gl 109 [(ae.mk k m s ls args).d,.sl 5 (aH [.mk kv nv sv lv av])] (· =(ae.mk k1 m1 s1 l1 a1).d):=by
  refine bD Tryz.func109 Tryz.ntmps109 ?_;refine gc 15 ?_;refine cj (fun h1=>?_) (fun h1=>?_)
  ·exfalso;rw[aO] at h1;simp at h1
  refine kc 2 [4,3,2] 3 ?_;refine o1 (Be ?_);refine oc (ck KH rfl rfl (hc) [1] rfl (bj .nil) (bo (an .nil)) ?_);refine go 4 ?_;refine ez ?_;rfl
 rw[dp,hX];refine bD Tryz.func110 Tryz.ntmps110 ?_;refine gc 11 ?_;refine oc (gD dE [.tmp 6] bw ?_);refine oc (cv GK rfl rfl (hi) (bo (bo .nil)) ?_);refine go 4 ?_;refine ez ?_;rfl
end
section
open Go Go.Vd Go.RowKit
attribute [local irreducible] bu bA di ak bL cU
variable {g gl:Nat→List D}
variable {B:Int}
theorem CU(hB:B≤1099511627776)(vs:List ae)(hv:∀v∈vs,pI B v∧v.size≤1099511627776)(hvl:vs.length≤1099511627776)(m:Int)(s:ByteArray)(ls:List aP)(args:List ae)(d:Int)(hm0:0≤m)(hmB:m≤B)(hd0:0≤d)(hd1:d≤1099511627776):
 et Tryz.prog gl 135 [.cells [.d (.sl 5 (aH vs))] 37] [.d (ae.mk 0 m s ls args).d,.d (.v (.int .i64 d)),.cb 0 0] fun out ob'=>out=.ret (.d (gd vs (.mk 0 m s ls args) d).d)∧ob'=[.cells [.d (.sl 5 (aH vs))] 37]:=by
 have hlen:=aO vs;refine bS Tryz.func135 Tryz.ntmps135 1 ?_;refine gc 12 ?_;refine o1 (iC ?_);refine ko 4 [6,5,3,1,2] 7 ?_;refine cj (fun h3=>?_) (fun h3=>?_)
 ·refine kc 3 [5,3] 7 ?_;refine eo ((ae.mk 0 m s ls args).d) [0] [.cells [.d (.sl 5 (aH vs))] 37] ?_
  ·rw [gd,if_pos (by omega)];exact⟨rfl,rfl⟩
 refine gc 9 ?_;refine cJ (fun h4=>?_) (fun h4=>?_)
 ·refine kc 0 [5,3,2] 5 ?_;refine o1 (iC ?_);refine ko 5 [5,3] 7 ?_;refine eo ((ae.mk 0 (m-(aH vs).length) s ls args).d) [0] [.cells [.d (.sl 5 (aH vs))] 37] ?_
  ·rw [gd,if_neg (by omega),if_neg (by omega),hlen];exact⟨rfl,rfl⟩
 refine kc 1 [6,5,1,2] 0 ?_;obtain⟨k2,m2,s2,l2,a2,hget⟩:=bK (show vs.length-1-(m-d).toNat<vs.length by omega);have hv2:=hv _ (List.mem_of_getElem? hget);have hl:=qW (gl:=gl) (m0:=d) (fr:=0) ⟨hd0,hd1⟩ ⟨by omega,by omega⟩ hB k2 m2 s2 l2 a2 hv2.1 hv2.2;obtain⟨k1,m1,s1,l1,a1,hX⟩:=ae.case (dz (.mk k2 m2 s2 l2 a2) d 0)
 rw[hX] at hl;have hidx:(aH vs)[(((aH vs).length:Int)-1-(m-d)).toNat]? =some [.v (.int .i64 k2),.v (.int .i64 m2),.v (.string s2),.sl 3 (bF l2),.sl 5 (aH a2)]:=(by rw[show(((aH vs).length:Int)-1-(m-d)).toNat=vs.length-1-(m-d).toNat by omega,gY hget];rfl);refine gc 4 ?_;refine o1 (iC ?_);refine go 1 ?_;refine o1 (iC ?_);refine o1 (cu bB bH ?_ (he:=by exact(hidx)));refine go 2 ?_;refine oc (cv GI rfl rfl (hl) (bo (an (an .nil))) ?_);refine go 6 ?_;refine eo ((ae.mk k1 m1 s1 l1 a1).d) [0] [.cells [.d (.sl 5 (aH vs))] 37] ?_
 ·rw [gd,if_neg (by omega),if_pos (by omega),List.getD_eq_getElem?_getD,hget,Option.getD_some,hX];exact⟨rfl,rfl⟩
theorem zJ(hB:B≤1099511627776)(vs:List ae)(hv:∀v∈vs,pI B v∧v.size≤1099511627776)(hvl:vs.length≤1099511627776)(k m:Int)(s:ByteArray)(ls:List aP)(args:List ae)(hnum:pI B (.mk k m s ls args))(hsz:(ae.mk k m s ls args).size≤1099511627776):
 cD Tryz.prog gl 109 [(ae.mk k m s ls args).d,.sl 5 (aH vs)] (· =(eW (.mk k m s ls args) vs).d):=by
 have hc:=zC (gl:=gl) MX (CU hB vs hv hvl) k m s ls args hnum hsz;obtain⟨k1,m1,s1,l1,a1,hX⟩:=ae.case (b0 (gd vs) (.mk k m s ls args) 0)
 rw[hX] at hc;have hlen:=aO vs;refine bD Tryz.func109 Tryz.ntmps109 ?_;refine gc 15 ?_;refine cj (fun h1=>?_) (fun h1=>?_)
 ·refine kc 0 [4,2] 8 ?_;refine ed ((ae.mk k m s ls args).d) ?_;rw[List.eq_nil_of_length_eq_zero (show vs.length=0 by omega)];rfl
 refine kc 2 [4,3,2] 3 ?_;refine o1 (Be ?_);refine oc (ck KH rfl rfl (hc) [1] rfl (bj .nil) (bo (an .nil)) ?_);refine go 4 ?_;refine ed ((ae.mk k1 m1 s1 l1 a1).d) ?_;rw[ju,hX]
mutual
theorem BK{B:Int}:∀(t:ae) (d:Int),iD B t→yR (fun n _=>0≤n∧n≤B) t d
 | .mk k n s ls args,d,h=>by
  rw[yR];split
  ·rename_i hk;have:=pS h hk;exact⟨this.1,this.2.1⟩
  ·exact zd args _ d h.2.1
theorem zd{B:Int}:∀(l:List ae) (b:Bool) (d:Int),uk B l→Ai (fun n _=>0≤n∧n≤B) b l d
 |[],_,_,_=>trivial
 |t::r,b,d,h=>⟨BK t _ h.1,zd r b d h.2⟩
end
variable {t:ae}
theorem Lm(h:iD B t):pI B t:=BK t 0 h
theorem Wt.num{sg:Sg}{ps:List ByteArray}{c:Int}(h:Wt sg ps t c)(hB:c+t.size≤B+1):pI B t:=Lm (h.sh hB)
theorem Ez:∀(n:Nat) (k:Int) (s:ByteArray) (args:List aP) (m:Int),(aP.mk k s args).size≤n→((aP.mk k s args).size:Int)≤m→m≤1099511627776→
 cD Tryz.prog gl 157 [(aP.mk k s args).d,.v (.int .i64 m)] (· =.v (.int .i64 (m-(aP.mk k s args).size))):=by
 intro n
 induction n with
 |zero=>intro k s args m h;simp[aP.size] at h
 |succ n ih=>
  intro k s args m hn hm hb;have hlen:=bV args;have hsl:=iv args;simp only[aP.size] at hn hm;refine bD Tryz.func157 Tryz.ntmps157 ?_;refine gc 9 ?_;refine o1 (iC ?_);refine ko 13 [12,11,10,1] 0 ?_;refine lP (ι:=Nat) (fun i=>[(1,int (m-1-bh (args.take i))),(12,int i)]) [11,10] (fun i=>i≤args.length) (fun i=>args.length-i) (0) rfl ?I1 ?M1 ?H1
  case I1=>
   exact Nat.zero_le _
  case M1=>
   refine mo ?_ (ef rfl (by exact Fit.of_eq (by show SV.d (D.v (Value.int .i64 (m-1)))=_;simp[bh])) (aJ (aJ (aJ dC))))
   repeat (first|exact cH|refine bj ?_)
  case H1=>
   rintro i hinv
   try dsimp only at hinv
   refine kc 0 [1,12,11,10] 6 ?_;refine cJ (fun h3=>?_) (fun h3=>?_)
   ·refine kc 5 [1] 2 ?_;obtain rfl:i=args.length:=(by omega);have hfin:m-1-bh (args.take args.length)=m-(aP.mk k s args).size:=(by rw[List.take_length,aP.size];omega);rw[hfin];refine go 5 ?_;refine ed (.v (.int .i64 (m-(aP.mk k s args).size))) ?_;rfl
   refine gc 5 ?_;obtain⟨k',s',a',hget⟩:=dh (show i<args.length by omega);have hsz':=jE hget;have hst:=kJ hget;have hsl2:=gZ args i;have hsl3:=gZ args (i+1);have hih:=ih k' s' a' (m-1-bh (args.take i)) (by omega) (by omega) (by omega);refine gc 1 ?_;refine o1 (cu fo fH ?_ (he:=by exact(dD hget)));refine go 12 ?_;refine cj (fun h5=>?_) (fun h5=>?_)
   ·omega
   refine kc 2 [6,1,12,11,10] 3 ?_;refine oc (cv MT rfl rfl (hih) (bo (an .nil)) ?_);refine ko 4 [1,12,11,10] 1 ?_;refine o1 (cG ?_);refine go 2 ?_;refine bi (i+1) rfl ?_ ?_
   ·exact ⟨by omega,by omega⟩
   ·refine mo ?_ (ef rfl (by exact Fit.of_eq (by rw[kJ hget];show SV.d (D.v (Value.int .i64 _))=SV.d (D.v (Value.int .i64 _));congr 3;omega)) (aJ (aJ (aJ dC))))
    repeat (first|exact cH|refine bj ?_)
theorem Hu:∀(n:Nat) (k q:Int) (s:ByteArray) (ls:List aP) (args:List ae) (m:Int),(ae.mk k q s ls args).size≤n→((ae.mk k q s ls args).size:Int)≤m→m≤1099511627776→
 cD Tryz.prog gl 142 [(ae.mk k q s ls args).d,.v (.int .i64 m)] (· =.v (.int .i64 (m-(ae.mk k q s ls args).size))):=by
 intro n
 induction n with
 |zero=>intro k q s ls args m h;simp[ae.size] at h
 |succ n ih=>
  intro k q s ls args m hn hm hb;have hlen:=bV ls;have hsl:=iv ls;have hal:=aO args;have hsa:=br args;simp only[ae.size] at hn hm;refine bD Tryz.func142 Tryz.ntmps142 ?_;refine gc 9 ?_;refine o1 (iC ?_);refine ko 13 [14,13,12,1,2] 0 ?_;refine lP (ι:=Nat) (fun i=>[(1,int (m-1-bh (ls.take i))),(14,int i)]) [13,12,2] (fun i=>i≤ls.length) (fun i=>ls.length-i) (0) rfl ?I2 ?M2 ?H2
  case I2=>
   exact Nat.zero_le _
  case M2=>
   refine mo ?_ (ef rfl (by exact Fit.of_eq (by show SV.d (D.v (Value.int .i64 (m-1)))=_;simp[bh])) (aJ (aJ (aJ (aJ dC)))))
   repeat (first|exact cH|refine bj ?_)
  case H2=>
   rintro i hinv
   try dsimp only at hinv
   refine kc 0 [1,14,13,12,2] 6 ?_;refine cj (fun h3=>?_) (fun h3=>?_)
   ·refine gc 5 ?_;obtain⟨k',s',a',hget⟩:=dh (show i<ls.length by omega);have hsz':=jE hget;have hst:=kJ hget;have hsl2:=gZ ls i;have hsl3:=gZ ls (i+1);have hih:=Ez (gl:=gl) _ k' s' a' (m-1-bh (ls.take i)) (Nat.le_refl _) (by omega) (by omega);refine gc 1 ?_;refine o1 (cu fo fH ?_ (he:=by exact(dD hget)));refine go 8 ?_;refine oc (cv MT rfl rfl (hih) (bo (an .nil)) ?_);refine ko 4 [1,14,13,12,2] 1 ?_;refine o1 (cG ?_);refine go 2 ?_;refine bi (i+1) rfl ?_ ?_
    ·exact ⟨by omega,by omega⟩
    ·refine mo ?_ (ef rfl (by exact Fit.of_eq (by rw[kJ hget];show SV.d (D.v (Value.int .i64 _))=SV.d (D.v (Value.int .i64 _));congr 3;omega)) (aJ (aJ (aJ (aJ dC)))))
     repeat (first|exact cH|refine bj ?_)
   refine kc 7 [1,2] 0 ?_;obtain rfl:i=ls.length:=(by omega);have hfull:bh (ls.take ls.length)=bh ls:=(by rw[List.take_length]);refine kc 8 [25,24,23,1] 0 ?_;refine lP (ι:=Nat) (fun j=>[(1,int (m-1-bh ls-aj (args.take j))),(25,int j)]) [24,23] (fun j=>j≤args.length) (fun j=>args.length-j) (0) rfl ?I3 ?M3 ?H3
   case I3=>
    exact Nat.zero_le _
   case M3=>
    refine mo ?_ (ef rfl (by exact Fit.of_eq (by show SV.d (D.v (Value.int .i64 (m-1-bh (ls.take ls.length))))=_;rw[hfull];simp[aj])) (aJ (aJ (aJ dC))))
    repeat (first|exact cH|refine bj ?_)
   case H3=>
    rintro j hinv
    try dsimp only at hinv
    refine kc 0 [1,25,24,23] 6 ?_;refine cJ (fun h8=>?_) (fun h8=>?_)
    ·refine kc 5 [1] 2 ?_;obtain rfl:j=args.length:=(by omega);have hfin:m-1-bh ls-aj (args.take args.length)=m-(ae.mk k q s ls args).size:=(by rw[List.take_length,ae.size];omega);rw[hfin];refine go 5 ?_;refine ed (.v (.int .i64 (m-(ae.mk k q s ls args).size))) ?_;rfl
    refine gc 5 ?_;obtain⟨k1,m1,s1,l1,a1,hget⟩:=bK (show j<args.length by omega);have hg1:=bG hget;have hst:=fQ hget;have hsl2:=fZ args j;have hsl3:=fZ args (j+1);have hih:=ih k1 m1 s1 l1 a1 (m-1-bh ls-aj (args.take j)) (by omega) (by omega) (by omega);refine gc 1 ?_;refine o1 (cu bB bH ?_ (he:=by exact(bW hget)));refine go 12 ?_;refine cj (fun h10=>?_) (fun h10=>?_)
    ·omega
    refine kc 2 [8,1,25,24,23] 3 ?_;refine oc (cv MV rfl rfl (hih) (bo (an .nil)) ?_);refine ko 4 [1,25,24,23] 1 ?_;refine o1 (cG ?_);refine go 2 ?_;refine bi (j+1) rfl ?_ ?_
    ·exact ⟨by omega,by omega⟩
    ·refine mo ?_ (ef rfl (by exact Fit.of_eq (by rw[fQ hget];show SV.d (D.v (Value.int .i64 _))=SV.d (D.v (Value.int .i64 _));congr 3;omega)) (aJ (aJ (aJ dC))))
     repeat (first|exact cH|refine bj ?_)
theorem yU(k q:Int)(s:ByteArray)(ls:List aP)(args:List ae)(h:(ae.mk k q s ls args).size≤200000):cD Tryz.prog gl 113 [(ae.mk k q s ls args).d] (· =.v (.bool false)):=by
 have hl:=Hu (gl:=gl) _ k q s ls args 200000 (Nat.le_refl _) (by omega) (by omega);refine bD Tryz.func113 Tryz.ntmps113 ?_;refine gc 9 ?_;refine oc (cv MV rfl rfl (hl) (bo (an .nil)) ?_);refine go 5 ?_;refine ez ?_;rw[decide_eq_false (by omega)]
end
section
open Go Go.Vd Go.RowKit
attribute [local irreducible] bu bA di ak bL cU
variable {g gl:Nat→List D}
theorem DZ{G:ae→Int→Bool}{f:FuncId}(hcf:ai Tryz.prog f=true){x1:D}{ty1:TypeId}
 (hf:∀(k m:Int) (s:ByteArray) (ls:List aP) (args:List ae) (d:Int),0≤d→d≤1099511627776→et Tryz.prog gl f [.cells [.d x1] ty1] [.d (ae.mk k m s ls args).d,.d (.v (.int .i64 d)),.cb 0 0] fun out ob'=>out=.ret (.d (.v (.bool (G (.mk k m s ls args) d))))∧ob'=[.cells [.d x1] ty1]):
 ∀(n:Nat) (k m:Int) (s:ByteArray) (ls:List aP) (args:List ae) (d:Int),(ae.mk k m s ls args).size≤n→0≤d→d+(ae.mk k m s ls args).size≤1099511627776→
  et Tryz.prog gl 155 [.cells [.d x1] ty1] [.d (ae.mk k m s ls args).d,.d (.v (.int .i64 d)),.fn (.func f) [] [.cb 0 0]] fun out ob'=>out=.ret (.d (.v (.bool (eU G (.mk k m s ls args) d))))∧ob'=[.cells [.d x1] ty1]:=by
 intro n
 induction n with
 |zero=>intro k m s ls args d h;simp[ae.size] at h
 |succ n ih=>
  intro k m s ls args d hsz hd0 hd1;have hsz2:=hsz;simp only[ae.size] at hsz2 hd1;have hal:=aO args;have hsa:=br args;have hcx:=hf k m s ls args d hd0 (by omega);refine bS Tryz.func155 Tryz.ntmps155 1 ?_;refine gc 12 ?_;refine oc (wW hcf rfl rfl rfl rfl rfl rfl rfl rfl (hcx) ([0]) (bj .nil) rfl rfl rfl rfl (bo (an (an .nil))) (fun s ob' hq=>?_) (fun s ob' hq=>?_));rotate_left
  ·first|exact hq.elim|cases hq.1
  obtain⟨hq1,rfl⟩:=hq;cases hq1;refine⟨_,_,_,_,_,rfl,rfl,rfl,rfl,rfl,?_⟩;refine go 2 ?_;refine cj (fun h1=>?_) (fun h1=>?_)
  ·refine kc 0 [] 7 ?_;refine eo (.v (.bool true)) [0] [.cells [.d x1] ty1] ?_
   ·rw [eU,h1,Bool.true_or];exact⟨rfl,rfl⟩
  refine kc 12 [17,16,15,3,1,2] 0 ?_;refine lp (ι:=Nat) (fun i=>[(17,int i)]) (fun i=>[.cells [.d x1] ty1,.cells [.d (.v (.int .i64 k)),.d (.v (.int .i64 m)),.d (.v (.string s)),.d (.sl 3 (bF ls)),.d (.sl 5 (aH args))] 39]) [16,15,3,1,2] (fun i=>i≤args.length∧∀(j:Nat) t,j<i→args[j]? =some t→eU G t (if decide (4≤k)=true∧j+1=args.length then d+1 else d)=false) (fun i=>args.length-i) (0) ([0,1]) rfl ?I2 ?M2 ?H2
  case I2=>
   exact⟨Nat.zero_le _,fun j t h=>absurd h (Nat.not_lt_zero _)⟩
  case M2=>
   exact mz
  case H2=>
   rintro i hinv
   try dsimp only at hinv
   refine kc 0 [17,16,15,3,1,2] 6 ?_;refine cJ (fun h4=>?_) (fun h4=>?_)
   ·refine kc 5 [] 6 ?_;refine eo (.v (.bool false)) [0] [.cells [.d x1] ty1] ?_
    ·rw [eU,h1,Bool.false_or,oJ (fun j t ht=>hinv.2 j t (by have:=(List.getElem?_eq_some_iff.1 ht).1;omega) ht)];exact⟨rfl,rfl⟩
   refine gc 5 ?_;obtain⟨k2,m2,s2,l2,a2,hget⟩:=bK (show i<args.length by omega);have hg1:=bG hget;refine gc 2 ?_;refine o1 (cu bB bH ?_ (he:=by exact(bW hget)));refine ko 6 [7,8,17,16,15,3,1,2] 13 ?_;refine' oa (yt:=32) (d:=26) 6 ?a1 ?b1 ?_
   case a1=>
    intro hc hK;refine go 4 ?_;refine gy ?_;refine o1 (iC ?_);refine go 1 ?_;exact hK [_,_,_,_,_,_] rfl rfl
   case b1=>
    intro _ hK;refine go 6 ?_;exact hK [_,_,_,_,_,_] rfl
   refine ko 2 [33,9,8,17,16,15,3,1,2] 0 ?_;refine xc (ι:=Unit) (fun _=>[(9,int (if decide (4≤k)=true∧i+1=args.length then d+1 else d))]) [8,17,16,15,3,1,2] (fun _=>True) rfl ?A3 ?B3
   case A3=>
    refine cJ (fun h7=>?_) (fun h7=>?_)
    ·refine gc 1 ?_;refine bi (()) rfl ?_ ?_
     ·trivial
     ·refine mo ?_ (ef rfl (by exact Fit.of_eq (by first|(rw[if_pos (by simp only[decide_eq_true_eq];omega)];rfl)|(rw[if_neg (by simp only[decide_eq_true_eq];omega)];rfl))) (aJ (aJ (aJ (aJ (aJ (aJ (aJ dC))))))))
      repeat (first|exact cH|refine bj ?_)
    refine gc 2 ?_;refine o1 (cG ?_);refine go 2 ?_;refine bi (()) rfl ?_ ?_
    ·trivial
    ·refine mo ?_ (ef rfl (by exact Fit.of_eq (by first|(rw[if_pos (by simp only[decide_eq_true_eq];omega)];rfl)|(rw[if_neg (by simp only[decide_eq_true_eq];omega)];rfl))) (aJ (aJ (aJ (aJ (aJ (aJ (aJ dC))))))))
     repeat (first|exact cH|refine bj ?_)
   case B3=>
    rintro _ hcut
    try dsimp only at hcut
    refine kc 0 [9,8,17,16,15,3,1,2] 1 ?_;have hihx:=ih k2 m2 s2 l2 a2 (if decide (4≤k)=true∧i+1=args.length then d+1 else d) (by omega) (by split<;>omega) (by split<;>omega);refine gc 4 ?_;refine oc (ck MU rfl rfl (hihx) [0] rfl (bj .nil) (bo (an (an .nil))) ?_);refine go 2 ?_;refine cj (fun h9=>?_) (fun h9=>?_)
    ·refine kc 0 [] 11 ?_;refine eo (.v (.bool true)) [0] [.cells [.d x1] ty1] ?_
     ·rw [eU,pP hget (by simpa only[decide_eq_true_eq] using h9),Bool.or_true];exact⟨rfl,rfl⟩
    refine kc 3 [17,16,15,3,1,2] 1 ?_;refine o1 (cG ?_);refine go 2 ?_;refine bk (i+1) rfl ?_ ([0,1]) ?_
    ·exact ⟨⟨by omega,fun j t hj ht=>by
     rcases Nat.lt_or_ge j i with h|h
     ·exact hinv.2 j t h ht
     ·obtain rfl:j=i:=by omega
      rw[hget] at ht;cases ht
      simpa only[decide_eq_true_eq] using h9⟩,by omega⟩
    ·exact mz
end
section
open Go Go.Vd Go.RowKit
attribute [local irreducible] bu bA di ak bL
variable {gl:Nat→List D}
def CV(ps:List ByteArray)(s:ByteArray):Int:=match ps.findIdx? (· =s) with
 |some i=>i
 |none=> -1
variable {ps:List ByteArray} {s:ByteArray}
theorem Hz{i:Nat}(h:i<ps.length)(h1:s∉ps.take i)(h2:ps[i]=s):CV ps s=i:=by
 unfold CV;rw[o6 h h1 h2]
theorem zL(h:s∉ps):CV ps s= -1:=by
 unfold CV;rw[o7 h]
theorem zM(ps:List ByteArray)(s:ByteArray):(s∉ps∧CV ps s= -1)∨∃i,∃h:i<ps.length,s∉ps.take i∧ps[i]=s∧CV ps s=i:=by
 by_cases hm:s∈ps
 ·right;have h0:(ps.findIdx? (· =s)).isSome=true:=by rw[List.findIdx?_isSome];simpa using hm
  obtain⟨i,hi⟩:=Option.isSome_iff_exists.1 h0;obtain⟨h1,h2,h3⟩:=List.findIdx?_eq_some_iff_getElem.1 hi;refine⟨i,h1,fun hc=>?_,by simpa using h2,by unfold CV;rw[hi]⟩;obtain⟨j,hj,e⟩:=List.mem_iff_getElem.1 hc;simp only[List.length_take] at hj;have:=h3 j (by omega);simp only[List.getElem_take] at e;simp[e] at this
 ·exact .inl ⟨hm,zL hm⟩
theorem EL(ps:List ByteArray)(s:ByteArray)(hl:ps.length≤281474976710656):
 cD Tryz.prog gl 153 [eA ps,.v (.string s)] (· =.v (.int .i64 (CV ps s))):=by
 have hlp:=cQ ps;refine bD Tryz.func153 Tryz.ntmps153 ?_;refine kc 14 [8,7,0,1] 0 ?_;refine lP (ι:=Nat) (fun i=>[(8,int i)]) [7,0,1] (fun i=>i≤ps.length∧s∉ps.take i) (fun i=>ps.length-i) (0) rfl ?I1 ?M1 ?H1
 case I1=>
  exact⟨Nat.zero_le _,by simp⟩
 case M1=>
  exact mz
 case H1=>
  rintro i hinv
  try dsimp only at hinv
  refine kc 0 [8,7,0,1] 6 ?_;refine cJ (fun h2=>?_) (fun h2=>?_)
  ·refine kc 5 [] 6 ?_;refine ez ?_;have h:=hinv.2;rw[List.take_of_length_le (by omega)] at h;rw[zL h]
  refine gc 15 ?_;refine o1 (cu pN ue ?_ (he:=by exact(kj (by omega))));refine go 4 ?_;refine cj (fun h4=>?_) (fun h4=>?_)
  ·refine kc 0 [5] 12 ?_;refine ez ?_;rw[Hz (show i<ps.length by omega) hinv.2 h4.symm]
  refine kc 3 [8,7,0,1] 1 ?_;refine o1 (cG ?_);refine go 2 ?_;refine bi (i+1) rfl ?_ ?_
  ·exact ⟨⟨by omega,iM (by omega) hinv.2 (fun e=>h4 e.symm)⟩,by omega⟩
  ·exact mz
end
section
open Go Go.Vd Go.RowKit
attribute [local irreducible] bu bA di ak bL
variable {gl:Nat→List D}
theorem BZ(ps:List ByteArray)(ls:List aP)(hl:ps.length≤ls.length)(hl2:ps.length≤281474976710656):∀(n:Nat) (k:Int) (s:ByteArray) (args:List aP),(aP.mk k s args).size≤n→(aP.mk k s args).size≤1099511627776→
 cD Tryz.prog gl 136 [(aP.mk k s args).d,eA ps,.sl 3 (bF ls)] (· =((aP.mk k s args).subst ps ls).d):=by
 have hlp:=cQ ps;have hll:=bV ls;intro n
 induction n with
 |zero=>intro k s args h;simp[aP.size] at h
 |succ n ih=>
  intro k s args hn hb;have hsz:bh args≤n:=by simp[aP.size] at hn;omega
  have hlen:=bV args;have hlb:=iv args;simp only[aP.size] at hb;refine bD Tryz.func136 Tryz.ntmps136 ?_;refine gc 14 ?_;refine cj (fun h1=>?_) (fun h1=>?_)
  ·refine kc 1 [6,3,1,2] 5 ?_;refine oc (cv P8 rfl rfl (EL ps s hl2) (an (an .nil)) ?_);refine ko 3 [7,6,3,2] 6 ?_;refine cJ (fun h3=>?_) (fun h3=>?_)
   ·refine kc 2 [6,3] 8 ?_;refine ez ?_;have hk:k=4:=by omega
    rcases zM ps s with⟨hx,_⟩|⟨i,hi,hx1,hx2,hx⟩
    ·simp only[aP.subst,if_pos hk,o7 hx];rfl
    ·omega
   refine gc 4 ?_;rcases zM ps s with⟨_,hx⟩|⟨i,hi,hx1,hx2,hx⟩
   ·omega
   obtain⟨k',s',a',hget⟩:=dh (show i<ls.length by omega);rw[hx];refine o1 (cu fo fH ?_ (he:=by exact(dD hget)));refine go 7 ?_;refine ez ?_;have hk:k=4:=by omega
   have hf:=o6 hi hx1 hx2;simp only[aP.subst,if_pos hk,hf,List.getD_eq_getElem?_getD,hget,Option.getD_some];rfl
  refine kc 25 [30,29,28,8,6,1,2] 0 ?_;refine bz 121 3 rfl ?_;refine lp (ι:=Nat) (fun i=>[(30,int i)]) (fun i=>[.cells [.d (.v (.int .i64 k)),.d (.v (.string s)),.d (.sl 3 (bF args))] 121,.cells [.d (.v (.int .i64 0)),.d (.v (.string .empty)),.d (.v (.slice none 0 0))] 121,.cells [.d (.v (.int .i64 k)),.d (.v (.string s)),.own 3 3 (bF (dW ps ls (args.take i)))] 121,.row 121 3]) [29,28,8,6,1,2] (fun i=>i≤args.length) (fun i=>args.length-i) (0) ([0,1,2,3]) rfl ?I1 ?M1 ?H1
  case I1=>
   exact Nat.zero_le _
  case M1=>
   refine mo ?_ (aJ (aJ (aJ (aJ (aJ (aJ (aJ dC)))))))
   repeat (first|exact cH|exact yH|refine bj ?_|refine qx ?_|refine Bi ?_ ?_|refine an ?_|refine .cons (.nil rfl) ?_)
  case H1=>
   rintro i hinv
   try dsimp only at hinv
   refine kc 0 [30,29,28,8,6,1,2] 6 ?_;refine cJ (fun h9=>?_) (fun h9=>?_)
   ·refine kc 5 [8,6] 7 ?_;refine ez ?_;have hk:¬k=4:=by omega
    simp only[aP.subst,if_neg hk];rw[List.take_of_length_le (by omega)];rfl
   refine gc 5 ?_;obtain⟨k',s',a',hget⟩:=dh (show i<args.length by omega);obtain⟨k2,s2,a2,hs2⟩:=aP.case ((aP.mk k' s' a').subst ps ls)
   have hsz':=jE hget;have hlast:bF (dW ps ls (args.take i))++[[.v (.int .i64 k2),.v (.string s2),.sl 3 (bF a2)]]=bF (dW ps ls (args.take (i+1))):=by
    rw[u5 hget,qb,hs2];rfl
   have hll2:=bV (dW ps ls (args.take i));have hll3:=rP ps ls (args.take i);simp only[List.length_take] at hll3;refine gc 1 ?_;refine o1 (cu fo fH ?_ (he:=by exact(dD hget)));refine go 5 ?_;refine gz [0,1,2,3,4] mixed ?_;refine A2 (T:=fun _=>False) 5 rfl (bJ MW rfl rfl rfl rfl (ih k' s' a' (by omega) (by omega)) (bo (an (an .nil))) (fun d hd=>?_));rw[hs2] at hd;obtain rfl:=hd;refine A2 6 rfl (gD ji [.tmp 39] eL ?_);refine A2 7 rfl (px ji ?_);refine ga [8] ?_;refine A2 9 rfl (dN vH ?_);refine aZ ?_;refine ke 2 [30,29,28,8,6,1,2] 1 ?_;refine o1 (cG ?_);refine go 2 ?_;rw[hlast];refine bk (i+1) rfl ?_ [0,1,2,3] mz;exact⟨by omega,by omega⟩
end
section
open Go Go.Vd Go.RowKit
attribute [local irreducible] bu bA di ak bL cU
variable {g gl:Nat→List D}
theorem HE(nm:ByteArray)(k m:Int)(s:ByteArray)(ls:List aP)(args:List ae)(d:Int)(hd0:0≤d)(hd1:d≤1099511627776):
 et Tryz.prog gl 156 [.cells [.d (.v (.string nm))] 9] [.d (ae.mk k m s ls args).d,.d (.v (.int .i64 d)),.cb 0 0] fun out ob'=>out=.ret (.d (.v (.bool (jN nm (.mk k m s ls args) d))))∧ob'=[.cells [.d (.v (.string nm))] 9]:=by
 refine bS Tryz.func156 Tryz.ntmps156 1 ?_;refine gc 12 ?_;refine' oa (yt:=13) (d:=9) 4 ?a1 ?b1 ?_
 case a1=>
  intro hc hK;refine go 4 ?_;exact hK [_,_,_,_] rfl rfl
 case b1=>
  intro _ hK;refine go 4 ?_;exact hK [_,_,_,_] rfl
 refine go 4 ?_;refine sZ [0] [.cells [.d (.v (.string nm))] 9] ?_
 ·exact ⟨rfl,rfl⟩
theorem J2(nm:ByteArray)(k m:Int)(s:ByteArray)(ls:List aP)(args:List ae)(hsz:(ae.mk k m s ls args).size≤1099511627776):
 cD Tryz.prog gl 140 [(ae.mk k m s ls args).d,.v (.string nm)] (· =.v (.bool (eU (jN nm) (.mk k m s ls args) 0))):=by
 have hc:=DZ (gl:=gl) P6 (HE nm) _ k m s ls args 0 (Nat.le_refl _) (Int.le_refl _) (by omega);refine bD Tryz.func140 Tryz.ntmps140 ?_;refine gc 10 ?_;refine o1 (Be ?_);refine oc (ck MU rfl rfl (hc) [1] rfl (bj .nil) (bo (an (an .nil))) ?_);refine go 4 ?_;refine ez ?_;rfl
theorem AE(ps:List ByteArray)(us:List aP)(hp0:0<ps.length)(hl:ps.length≤us.length)(hl2:ps.length≤281474976710656):∀(n:Nat) (k m:Int) (s:ByteArray) (ls:List aP) (args:List ae),(ae.mk k m s ls args).size≤n→(ae.mk k m s ls args).size≤1099511627776→
 cD Tryz.prog gl 111 [(ae.mk k m s ls args).d,eA ps,.sl 3 (bF us)] (· =(ew ps us (.mk k m s ls args)).d):=by
 intro n
 induction n with
 |zero=>intro k m s ls args h;simp[ae.size] at h
 |succ n ih=>
  intro k m s ls args hsz hb;simp only[ae.size] at hsz hb;have hal:=aO args;have hsa:=br args;have hll:=bV ls;have hsl:=oL ls;have hpl:=cQ ps;have hml:=qK (ps:=ps) (us:=us) args;refine bD Tryz.func111 Tryz.ntmps111 ?_;refine gc 14 ?_;refine cj (fun h1=>?_) (fun h1=>?_)
  ·omega
  refine kc 27 [22,21,20,7,6,3,1,2] 0 ?_;refine bz 121 3 rfl ?_;refine lp (ι:=Nat) (fun i=>[(22,int i)]) (fun i=>[.cells [.d (.v (.int .i64 k)),.d (.v (.int .i64 m)),.d (.v (.string s)),.d (.sl 3 (bF ls)),.d (.sl 5 (aH args))] 39,.cells [.d (.v (.int .i64 0)),.d (.v (.int .i64 0)),.d (.v (.string .empty)),.d (.v (.slice none 0 0)),.d (.v (.slice none 0 0))] 39,.cells [.d (.v (.int .i64 k)),.d (.v (.int .i64 m)),.d (.v (.string s)),.own 3 3 (bF ((ls.map fun x=>x.subst ps us).take i)),.d (.v (.slice none 0 0))] 39,.row 121 3]) [21,20,7,6,3,1,2] (fun i=>i≤ls.length) (fun i=>ls.length-i) (0) ([0,1,2,3]) rfl ?I2 ?M2 ?H2
  case I2=>
   exact Nat.zero_le _
  case M2=>
   refine mo ?_ (aJ (aJ (aJ (aJ (aJ (aJ (aJ (aJ dC))))))))
   repeat (first|exact cH|exact yH|refine bj ?_|refine qx ?_|refine Bi ?_ ?_|refine an ?_|refine .cons (.nil rfl) ?_)
  case H2=>
   rintro i hinv
   try dsimp only at hinv
   refine kc 0 [22,21,20,7,6,3,1,2] 6 ?_;refine cj (fun h6=>?_) (fun h6=>?_)
   ·refine gc 5 ?_;obtain⟨k2,s2,a2,hget⟩:=dh (show i<ls.length by omega);have hg1:=rR hget;obtain⟨k3,s3,a3,hY⟩:=aP.case ((aP.mk k2 s2 a2).subst ps us)
    have hsu:=BZ (gl:=gl) ps us hl hl2 _ k2 s2 a2 (Nat.le_refl _) (by omega);rw[hY] at hsu;have hgm:(ls.map fun x=>x.subst ps us)[i]? =some (.mk k3 s3 a3):=(by rw[List.getElem?_map,hget,Option.map_some,hY]);have hnx:bF ((ls.map fun x=>x.subst ps us).take i)++[[.v (.int .i64 k3),.v (.string s3),.sl 3 (bF a3)]]=bF ((ls.map fun x=>x.subst ps us).take (i+1)):=xk hgm;have htl:=bV ((ls.map fun x=>x.subst ps us).take i);have htk:=List.length_take (i:=i) (l:=ls.map fun x=>x.subst ps us);refine gc 1 ?_;refine o1 (cu fo fH ?_ (he:=by exact(dD hget)));refine go 5 ?_;refine gz [0,1,2,3,4] mixed ?_;refine A2 5 rfl (cv MW rfl rfl (hsu) (bo (an (an .nil))) ?_);refine A2 6 rfl (gD ji [.tmp 31] eL ?_);refine A2 7 rfl (px ji ?_);refine ga [8] ?_;refine A2 9 rfl (dN vH ?_);refine aZ ?_;refine ke 2 [22,21,20,7,6,3,1,2] 1 ?_;refine o1 (cG ?_);refine go 2 ?_;rw[hnx];refine bk (i+1) rfl ?_ [0,1,2,3] mz;exact⟨by omega,by omega⟩
   refine kc 7 [7,6,3,1,2] 0 ?_;obtain rfl:i=ls.length:=(by omega);rw[List.take_of_length_le (by rw[List.length_map];omega)];refine kc 8 [39,38,37,7,6,1,2] 0 ?_;refine bz 39 5 rfl ?_;refine lp (ι:=Nat) (fun j=>[(39,int j)]) (fun j=>[.cells [.d (.v (.int .i64 k)),.d (.v (.int .i64 m)),.d (.v (.string s)),.d (.sl 3 (bF ls)),.d (.sl 5 (aH args))] 39,.cells [.d (.v (.int .i64 0)),.d (.v (.int .i64 0)),.d (.v (.string .empty)),.d (.v (.slice none 0 0)),.d (.v (.slice none 0 0))] 39,.cells [.d (.v (.int .i64 k)),.d (.v (.int .i64 m)),.d (.v (.string s)),.own 3 3 (bF (ls.map fun x=>x.subst ps us)),.own 4 5 (aH ((dw ps us args).take j))] 39,.row 121 3,.row 39 5]) [38,37,7,6,1,2] (fun j=>j≤args.length) (fun j=>args.length-j) (0) ([0,1,2,3,4]) rfl ?I3 ?M3 ?H3
   case I3=>
    exact Nat.zero_le _
   case M3=>
    refine mo ?_ (aJ (aJ (aJ (aJ (aJ (aJ (aJ dC)))))))
    repeat (first|exact cH|exact yH|refine bj ?_|refine cr ?_|refine qx ?_|refine Bi ?_ ?_|refine an ?_|refine .cons (.nil rfl) ?_)
   case H3=>
    rintro j hinv
    try dsimp only at hinv
    refine kc 0 [39,38,37,7,6,1,2] 6 ?_;refine cJ (fun h11=>?_) (fun h11=>?_)
    ·refine kc 6 [7,6] 0 ?_;obtain rfl:j=args.length:=(by omega);rw[List.take_of_length_le (by omega)];refine gc 6 ?_;refine ed ((ae.mk k m s (ls.map fun x=>x.subst ps us) (dw ps us args)).d) ?_;rw[ew]
    refine gc 5 ?_;obtain⟨k2,m2,s2,l2,a2,hget⟩:=bK (show j<args.length by omega);have hg1:=bG hget;obtain⟨k3,m3,s3,l3,a3,hY⟩:=ae.case (ew ps us (.mk k2 m2 s2 l2 a2))
    have hsu:=ih k2 m2 s2 l2 a2 (by omega) (by omega);have hgm:=uf (ps:=ps) (us:=us) hget;rw[hY] at hsu hgm;have hnx:aH ((dw ps us args).take j)++[[.v (.int .i64 k3),.v (.int .i64 m3),.v (.string s3),.sl 3 (bF l3),.sl 5 (aH a3)]]=aH ((dw ps us args).take (j+1)):=wj hgm;have htl:=aO ((dw ps us args).take j);have htk:=List.length_take (i:=j) (l:=dw ps us args);refine gc 1 ?_;refine o1 (cu bB bH ?_ (he:=by exact(bW hget)));refine go 5 ?_;refine gz [0,1,2,3,4] mixed ?_;refine A2 5 rfl (cv GJ rfl rfl (hsu) (bo (an (an .nil))) ?_);refine A2 6 rfl (gD dE [.tmp 48] bw ?_);refine A2 7 rfl (px dE ?_);refine ga [8] ?_;refine A2 9 rfl (dN Bz ?_);refine aZ ?_;refine ke 2 [39,38,37,7,6,1,2] 1 ?_;refine o1 (cG ?_);refine go 2 ?_;rw[hnx];refine bk (j+1) rfl ?_ [0,1,2,3,4] mz;exact⟨by omega,by omega⟩
end
section
open Go Go.Vd Go.RowKit
attribute [local irreducible] bu bA di ak bL cU
variable {g gl:Nat→List D}
def Al(es:List cy)(most:Nat)(pr:Int):qC→Out→List Ob→Prop
 | .ok u d',out,ob'=> ∃(k m:Int) (s:ByteArray) (ls:List aP) (args as1:List ae),bf u=(.mk k m s ls args,as1)∧out=.ret (.d (.bZ [(ae.mk k m s ls args).d,.sl 5 (aH as1)]))∧ob'=eQ es d' most pr
 | .cI,out,ob'=> ∃d',out=.pz (.d wq)∧ob'=eQ es d' most pr
def GV(gl:Nat→List D)(es:List cy)(ps:List ByteArray)(c:Int)(most n:Nat):Prop:=
 ∀(k m:Int) (s:ByteArray) (ls:List aP) (args:List ae) (d:Nat) (o:qC) (pr:Int),d≤most→RW es most n (.mk k m s ls args) d o→(ae.mk k m s ls args).size+30000*(most-d)≤1000000000000→Wt (eh es) ps (.mk k m s ls args) c→
  et Tryz.prog gl 68 (eQ es d most pr) [.cb 3 0,.d (ae.mk k m s ls args).d] (Al es most pr o)
def yh(es:List cy)(most:Nat)(pr:Int)(h:ae)(az:List ae):FL→Out→List Ob→Prop
 | .stuck d1,out,ob'=>out=.ret (.d (.bZ [h.d,.sl 5 (aH az),.v (.bool false)]))∧ob'=eQ es d1 most pr
 | .step u d1,out,ob'=> ∃(k m:Int) (s:ByteArray) (ls:List aP) (args ws:List ae),u=bt (.mk k m s ls args) ws∧out=.ret (.d (.bZ [(ae.mk k m s ls args).d,.sl 5 (aH ws),.v (.bool true)]))∧ob'=eQ es d1 most pr
 | .cI,out,ob'=> ∃d',out=.pz (.d wq)∧ob'=eQ es d' most pr
theorem Al.ret{es:List cy}{most:Nat}{pr:Int}{o:qC}{v:SV}{ob':List Ob}(h:Al es most pr o (.ret v) ob'):∃(u:ae) (d':Nat) (k m:Int) (s:ByteArray) (ls:List aP) (args as1:List ae),o=.ok u d'∧bf u=(.mk k m s ls args,as1)∧v=.d (.bZ [(ae.mk k m s ls args).d,.sl 5 (aH as1)])∧ob'=eQ es d' most pr:=by
 cases o with
 |ok u d'=>obtain⟨k,m,s,ls,args,as1,h1,h2,h3⟩:=h;cases h2;exact⟨u,d',k,m,s,ls,args,as1,rfl,h1,rfl,h3⟩
 |cI=>obtain⟨_,h1,_⟩:=h;cases h1
theorem Al.pz{es:List cy}{most:Nat}{pr:Int}{o:qC}{v:SV}{ob':List Ob}(h:Al es most pr o (.pz v) ob'):∃d',o=.cI∧v=.d wq∧ob'=eQ es d' most pr:=by
 cases o with
 |ok u d'=>obtain⟨_,_,_,_,_,_,_,h2,_⟩:=h;cases h2
 |cI=>obtain⟨d',h1,h2⟩:=h;cases h1;exact⟨d',rfl,rfl,h2⟩
theorem ki(l:List ae)(p:Nat):(aH l).drop ((p:Nat):Int).toNat=aH (l.drop p):=by
 rw[Int.toNat_natCast]
 induction l generalizing p with
 |nil=>simp[aH]
 |cons a r ih=>cases p with
  |zero=>simp[aH]
  |succ p=>simp only[aH,List.drop_succ_cons,ih]
variable {es:List cy}
theorem JN(hF:fX es)(nm:ByteArray):RF ((fL es nm).getD (.v (.pointer none))):=by
 rcases rZ hF nm with⟨h,_⟩|⟨_,_,_,_,_,_,_,_,h,_⟩<;>rw[h]
 ·exact .inl rfl
 ·exact .inr ⟨_,rfl⟩
variable {nm:ByteArray}
theorem tC(hF:fX es)(h:JX ((fL es nm).getD (.v (.pointer none)))=false):(bM nm es).1=0:=by
 rcases rZ hF nm with⟨_,h1⟩|⟨_,_,_,_,_,_,_,_,h1,_⟩
 ·exact h1
 ·rw [h1] at h;cases h
theorem CJ(hF:fX es)(h:JX ((fL es nm).getD (.v (.pointer none)))=true):∃(kg:Int) (sg:ByteArray) (pg:List ByteArray) (u1 v1:Int) (x1:ByteArray) (y1:List aP) (z1:List ae) (u2 v2:Int) (x2:ByteArray) (y2:List aP) (z2:List ae) (ag:Int) (cg:List (ByteArray×ae)) (rg:List ByteArray) (rt:ae) (j:Nat) (k:Int) (ps:List ByteArray) (kt nt:Int) (st:ByteArray) (lt:List aP) (at1:List ae) (num:Int),
 (fL es nm).getD (.v (.pointer none))=.cp [.v (.int .i64 (k-1)),.cp [.v (.int .i64 kg),.v (.string sg),.sl 1 (strs pg),.v (.int .i64 u1),.v (.int .i64 v1),.v (.string x1),.sl 3 (bF y1),.sl 5 (aH z1),.v (.int .i64 u2),.v (.int .i64 v2),.v (.string x2),.sl 3 (bF y2),.sl 5 (aH z2),.v (.int .i64 ag),.sl 6 (gM cg)],.sl 1 (strs ps),.v (.int .i64 kt),.v (.int .i64 nt),.v (.string st),.sl 3 (bF lt),.sl 5 (aH at1),.v (.int .i64 num)]∧
 bM nm es=(k,⟨.mk kg sg pg (.mk u1 v1 x1 y1 z1) (.mk u2 v2 x2 y2 z2) ag cg,rg,rt⟩,j)∧(k=2→ps=pg)∧(k=5→ps=rg)∧(k=4→ps=pg∧num=j∧∃nm',cg[j]? =some (nm',.mk kt nt st lt at1)):=by
 rcases rZ hF nm with⟨h1,_⟩|⟨w,d,ps,⟨kt,nt,st,lt,at1⟩,num,⟨⟨kg,sg,pg,⟨u1,v1,x1,y1,z1⟩,⟨u2,v2,x2,y2,z2⟩,ag,cg⟩,rg,rt⟩,j,k,h1,h2,rfl,rfl,h3,h4,h5⟩
 ·rw [h1] at h;cases h
 ·exact ⟨kg,sg,pg,u1,v1,x1,y1,z1,u2,v2,x2,y2,z2,ag,cg,rg,rt,j,k,ps,kt,nt,st,lt,at1,num,by rw[h1];rfl,h2,h3,h4,h5⟩
mutual
theorem CI(us:List aP):∀l:aP,l.subst [] us=l
 | .mk k s args=>by
  rw[aP.subst];split
  ·rfl
  ·rw [zD us args]
theorem zD(us:List aP):∀l:List aP,dW [] us l=l
 |[]=>by simp[dW]
 |a::r=>by rw[dW,CI us a,zD us r]
end
mutual
theorem BE(us:List aP):∀t:ae,ew [] us t=t
 | .mk k n s ls args=>by
  rw[ew,y0 us args]
  congr 1
  exact(List.map_congr_left fun x _=>CI us x).trans (List.map_id _)
theorem y0(us:List aP):∀l:List ae,dw [] us l=l
 |[]=>rfl
 |t::r=>by rw[dw,BE us t,y0 us r]
end
theorem rz(ps:List ByteArray)(us:List aP)(hl:ps.length≤us.length)(hl2:ps.length≤281474976710656)(k m:Int)(s:ByteArray)(ls:List aP)(args:List ae)(hz:(ae.mk k m s ls args).size≤1099511627776):
 cD Tryz.prog gl 111 [(ae.mk k m s ls args).d,eA ps,.sl 3 (bF us)] (· =(ew ps us (.mk k m s ls args)).d):=by
 rcases Nat.eq_zero_or_pos ps.length with h0|h0
 ·obtain rfl:=List.eq_nil_of_length_eq_zero h0;rw[BE];refine bD Tryz.func111 Tryz.ntmps111 ?_;refine gc 14 ?_;refine cJ (fun h1=>?_) (fun h1=>?_)
  ·contradiction
  refine kc 0 [6,3] 8 ?_;refine ed ((ae.mk k m s ls args).d) ?_;rfl
 ·exact AE ps us h0 hl hl2 _ k m s ls args (Nat.le_refl _) hz
end
section
open Go Go.Vd Go.RowKit
attribute [local irreducible] bu bA di ak bL cU
variable {g gl:Nat→List D}
theorem Ev(s:ByteArray)(us:List aP)(n:Int):dz (.mk 2 0 s us []) n 0=.mk 2 0 s us []:=by
 rw[dz];split
 ·rfl
 ·rw [b0,if_neg (by decide)];rfl
variable {es:List cy} {most n:Nat} {e:cy} {h:ae} {az:List ae}
theorem EF {d : Nat} {io : FL} (hRI : RI es most (RW es most n) e h az d io) :
    (az.length ≤ HA e → io = .stuck d) ∧ ∀ x, az[HA e]? = some x → ∃ o', RW es most n x d o' ∧ (o' = .cI → io = .cI) ∧ ∀ mj d1, o' = .ok mj d1 →
      ((∀ i cty us, ¬ lQ es e (bf mj).1 (bf mj).2 i cty us) → io = .stuck d1) ∧ (∀ i cty us, lQ es e (bf mj).1 (bf mj).2 i cty us → ∃ i cty us, lQ es e (bf mj).1 (bf mj).2 i cty us ∧ (most ≤ d1 → io = .cI) ∧
        (d1 < most → (ew e.d.ps us cty).size ≤ 20000 ∧ (n9 e h az (bf mj).2 i cty us).size ≤ 20000 ∧ io = .step (n9 e h az (bf mj).2 i cty us) (d1 + 1))) := by
  refine ⟨fun hl => ?_, fun x hx => ?_⟩
  · rcases hRI with ⟨_, h1⟩ | ⟨x, h1, _⟩
    · exact h1
    · have := (List.getElem?_eq_some_iff.1 h1).1; omega
  · rcases hRI with ⟨h1, _⟩ | ⟨x', h1, h2⟩
    · have := (List.getElem?_eq_some_iff.1 hx).1; omega
    · rw [hx] at h1; cases h1
      rcases h2 with ⟨h2, h3⟩ | ⟨mj, d1, h2, h3⟩
      · exact ⟨_, h2, fun _ => h3, fun _ _ h => (by cases h)⟩
      · refine ⟨_, h2, fun h => (by cases h), fun mj' d1' hm => ?_⟩
        cases hm
        rcases h3 with ⟨h3, h4⟩ | ⟨i, cty, us, h3, h4⟩
        · exact ⟨fun _ => h4, fun i cty us h => absurd h (h3 i cty us)⟩
        · refine ⟨fun h => absurd h3 (h i cty us), fun _ _ _ _ => ⟨i, cty, us, h3, fun hm => ?_, fun hm => ?_⟩⟩
          · rcases h4 with ⟨_, h5⟩ | ⟨h5, _⟩
            · exact h5
            · omega
          · rcases h4 with ⟨h5, _⟩ | ⟨_, h6⟩
            · omega
            · exact h6
theorem CX{nm:ByteArray}{h:ae}{f:List ae}{p:Nat}{pre X cs:List ae}{x:ae}:∀{j m:Nat},j≤m→x∈vY nm h f p pre X cs j→x∈vY nm h f p pre X cs m
 |j,0,hj,hx=>by
  obtain rfl:j=0:=by omega
  exact hx
 |j,m+1,hj,hx=>by
  by_cases e:j=m+1
  ·subst e;exact hx
  ·rw [vY];exact List.mem_append_left _ (CX (m:=m) (by omega) hx)
theorem EE{cs:List ae}{i:Nat}{cty:ae}{us:List aP}{x:ae}(hx:x∈vY e.d.nm h (az.take (e.d.ar.toNat+1+e.d.cs.length)) e.d.ar.toNat (az.take e.d.ar.toNat) (gh cs.length (ew e.d.ps us cty)) cs cs.length):x.size≤(n9 e h az cs i cty us).size:=by
 obtain⟨q,hq⟩:=List.getElem?_of_mem hx;have h1:=bG hq;unfold n9;rw[cB,cB];omega
set_option maxHeartbeats 3200000 in
theorem EG (hFE : fX es) {ps : List ByteArray} {c : Int} (hcc : 0 ≤ c ∧ c ≤ 1000000000) (hm : most ≤ 1000000) (hW : GV gl es ps c most n)
    (kd : Int) (sd : ByteArray) (pd : List ByteArray) (k1 n1 : Int) (s1 : ByteArray) (l1 : List aP) (a1 : List ae) (k2 n2 : Int) (s2 : ByteArray) (l2 : List aP) (a2 : List ae) (ad : Int) (cc : List (ByteArray × ae)) (rp : List ByteArray) (rt : ae) (kr nr : Int) (sr1 : ByteArray) (lr : List aP) (ar : List ae) (num : Int)
    (hem : (⟨.mk kd sd pd (.mk k1 n1 s1 l1 a1) (.mk k2 n2 s2 l2 a2) ad cc, rp, rt⟩ : cy) ∈ es) (hk : kd = 3) (hn : ByteArray) (hus : List aP) (az : List ae) (d : Nat) (pr : Int) (hdm : d ≤ most)
    (hh : Wt (eh es) ps (.mk 2 0 hn hus []) c) (hzh : (ae.mk 2 0 hn hus []).size ≤ 1000000000000) (ha : ∀ x ∈ az, Wt (eh es) ps x c) (hza : aj az ≤ 1000000000000) (hgas : ∀ x ∈ az, x.size + 30000 * (most - d) ≤ 1000000000000)
    (io : FL) (hRI : RI es most (RW es most n) ⟨.mk kd sd pd (.mk k1 n1 s1 l1 a1) (.mk k2 n2 s2 l2 a2) ad cc, rp, rt⟩ (.mk 2 0 hn hus []) az d io) :
    et Tryz.prog gl 112 (eQ es d most pr) [.cb 3 0, .d (ae.mk 2 0 hn hus []).d, .d (.sl 5 (aH az)), .d (.cp [.v (.int .i64 4), .cp [.v (.int .i64 kd), .v (.string sd), .sl 1 (strs pd), .v (.int .i64 k1), .v (.int .i64 n1), .v (.string s1), .sl 3 (bF l1), .sl 5 (aH a1), .v (.int .i64 k2), .v (.int .i64 n2), .v (.string s2), .sl 3 (bF l2), .sl 5 (aH a2), .v (.int .i64 ad), .sl 6 (gM cc)], .sl 1 (strs rp), .v (.int .i64 kr), .v (.int .i64 nr), .v (.string sr1), .sl 3 (bF lr), .sl 5 (aH ar), .v (.int .i64 num)])]
      (yh es most pr (.mk 2 0 hn hus []) az io) := by
  have hE := hFE.ok
  have hent := hE.xP _ hem
  obtain ⟨har0, har1⟩ := hent.ar hk
  obtain ⟨hty, htz⟩ := hent.ty
  have hcl0 := hent.cl
  have hpd := hent.ps
  simp only [dP.ar, dP.ty, dP.cs, dP.ps] at har0 har1 hty htz hcl0 hpd
  obtain ⟨P, rfl⟩ : ∃ P : Nat, ad = P := ⟨ad.toNat, by omega⟩
  have hpz := dT _ (.mk k1 n1 s1 l1 a1) (Nat.le_refl _)
  have hbd := pw (gl := gl) (B := 1099511627776) k1 n1 s1 l1 a1 (hty.sh (by omega)) (by omega)
  have hbl : (aH (gh (bg (.mk k1 n1 s1 l1 a1)) (.mk k1 n1 s1 l1 a1))).length = bg (.mk k1 n1 s1 l1 a1) := by rw [aO, dV _ _ (Nat.le_refl _)]
  obtain ⟨kE, mE, sE, lE, aE, hEnd⟩ := ae.case (er (bg (.mk k1 n1 s1 l1 a1)) (.mk k1 n1 s1 l1 a1))
  rw [hEnd] at hbd
  have hccl := iU cc
  have hal := aO az
  have hsa := br az
  generalize hE' : (⟨.mk kd sd pd (.mk k1 n1 s1 l1 a1) (.mk k2 n2 s2 l2 a2) (P : Int) cc, rp, rt⟩ : cy) = e at hRI
  have heA : HA e = P + 1 + cc.length + (bg (.mk k1 n1 s1 l1 a1) - P) := by rw [← hE']; unfold HA; simp only [dP.ar, dP.ty, dP.cs, Int.toNat_natCast]
  have heP : e.d.ar.toNat = P := by rw [← hE']; simp only [dP.ar, Int.toNat_natCast]
  have heC : e.d.cs = cc := by rw [← hE']; rfl
  have heN : e.d.nm = sd := by rw [← hE']; rfl
  have hePs : e.d.ps = pd := by rw [← hE']; rfl
  have heAr : e.d.ar = (P : Int) := by rw [← hE']; rfl
  have hek : e.d.k = 3 := by rw [← hE']; exact hk
  have hem' : e ∈ es := by rw [← hE']; exact hem
  have hent' := hE.xP _ hem'
  obtain ⟨hI1, hI2⟩ := EF hRI
  generalize hA : HA e = A at heA hI1 hI2
  have hAt : (P : Int) + 1 + ((gM cc).length : Int) + ((aH (gh (bg (.mk k1 n1 s1 l1 a1)) (.mk k1 n1 s1 l1 a1))).length : Int) - P = (A : Int) := by omega
  unfold eQ
  refine bS Tryz.func112 Tryz.ntmps112 4 ?_;refine kc 17 [11, 8, 5, 0, 2] 6 ?_;refine oc (cv x9 rfl rfl (hbd) (bo (an (an .nil))) ?_);refine ko 9 [12, 11, 8, 5, 0, 2] 0 ?_;refine gz [0, 1, 2, 3, 4, 5, 6, 7, 8, 9, 10] mixed ?_;refine aZ ?_;refine ke 1 [15, 14, 12, 11, 8, 5, 0, 2] 3 ?_;refine o1 (cG ?_);refine go 1 ?_;refine o1 (cG ?_);refine go 2 ?_;refine o1 (cG ?_);refine go 1 ?_;refine o1 (iC ?_);refine ko 5 [16, 15, 14, 11, 8, 5, 0, 2] 0 ?_
  rw [hAt]
  refine gc 7 ?_;refine cj (fun h5 => ?_) (fun h5 => ?_)
  · refine kc 0 [8, 5, 2] 11 ?_;refine eo (.bZ [(ae.mk 2 0 hn hus []).d, .sl 5 (aH az), .v (.bool false)]) [0, 1, 2, 3] (eQ es d most pr) ?_
    · rw [hI1 (by omega)]; exact ⟨rfl, rfl⟩
  refine kc 3 [16, 15, 14, 11, 8, 5, 0, 2] 0 ?_
  obtain ⟨kx, mx, sx, lx, ax, hgx⟩ := bK (show A < az.length by omega)
  have hwx := ha _ (List.mem_of_getElem? hgx)
  have hgg := hgas _ (List.mem_of_getElem? hgx)
  obtain ⟨o', hRx, hti, hoi⟩ := hI2 _ hgx
  have hWx := hW kx mx sx lx ax d o' pr hdm hRx hgg hwx
  refine gc 4 ?_;refine o1 (cu bB bH ?_ (he := by exact (bW hgx)));refine go 1 ?_;refine oc (aN PO rfl rfl rfl rfl (hWx) [0, 1, 2, 3] (bj (cr (.cons rfl .cV (bj .nil)))) rfl rfl rfl rfl (an (bo .nil)) (fun s ob' hq => ?_) (fun s ob' hq => ?_))
  rotate_left
  · obtain ⟨d', ho', hq1, rfl⟩ := hq.pz
    cases hq1; refine ⟨_, _, _, _, _, rfl, rfl, rfl, rfl, rfl, ?_⟩;refine jA ([0, 1, 2, 3]) (eQ es d' most pr) rfl rfl rfl (by repeat (first | exact cH | refine bj ?_ | refine cr ?_ | refine ia ?_)) ?_
    rw [hti ho']; exact ⟨d', rfl, rfl⟩
  obtain ⟨⟨kq, mq, sq, lq, aq⟩, d1, kh, mh, sh, lh, ah, cs, ho', hS, hq1, rfl⟩ := hq.ret; cases hq1; obtain ⟨hst, hct0⟩ := hoi _ _ ho'
  subst ho'
  rw [hS] at hst hct0
  obtain ⟨hj1, hj2, hj3, hj4⟩ := yd hE hcc.1 n hRx hdm hwx; obtain ⟨hqok, hqH, hqA, _⟩ := Wt.spine _ (Nat.le_refl _) hj1
  have hss := dQ _ (.mk kq mq sq lq aq) (Nat.le_refl _)
  rw [hS] at hss hqH hqA
  simp only at hss hqH hqA hst hct0
  have hcsl := aO cs
  have hcss := br cs
  refine ⟨_, _, _, _, _, rfl, rfl, rfl, rfl, rfl, ?_⟩;refine ko 9 [18, 17, 16, 15, 14, 11, 8, 5, 0, 2] 0 ?_;refine gz [0, 1, 2, 3, 4, 5, 6, 7, 8] mixed ?_;refine A2 (T := fun _ => False) 9 rfl (wV CB rfl rfl rfl rfl rfl rfl ?_);refine ga [10] ?_;refine aZ ?_;refine ke 3 [19, 18, 17, 16, 15, 14, 11, 8, 5, 0, 2] 0 ?_;refine gz [0, 1, 2, 3] mixed ?_;refine OZ 93 (fun hc => ?_) (fun hc => ?_)
  · (try simp only [du, Int.reduceEq, Int.reduceNe, Int.reduceLT, Int.reduceLE] at hc)
    refine A7 4 rfl ?_ (hlit := by exact (.inl rfl));refine A7 5 rfl ?_ (hlit := by exact (.inl rfl));refine A1 6 rfl (fF ⟨_, rfl, ?_⟩);refine ga [7] ?_;refine Fw 97 (fun hc => ?_) (fun hc => ?_)
    · simp only [du, Int.reduceEq, Int.reduceNe, Int.reduceLT, Int.reduceLE] at hc
    (try simp only [du, Int.reduceEq, Int.reduceNe, Int.reduceLT, Int.reduceLE] at hc); refine A7 8 rfl ?_ (hlit := by exact (.inl rfl));refine A7 9 rfl ?_ (hlit := by exact (.inl rfl));refine A7 10 rfl ?_ (hlit := by exact (.inl rfl));refine A7 11 rfl ?_ (hlit := by exact (.inl rfl));refine A7 12 rfl ?_ (hlit := by exact (.inl rfl));refine A1 13 rfl (fF ⟨_, rfl, ?_⟩);refine ga [14] ?_;refine Fw 104 (fun hc => ?_) (fun hc => ?_)
    · simp only [du, Int.reduceEq, Int.reduceNe, Int.reduceLT, Int.reduceLE] at hc
    (try simp only [du, Int.reduceEq, Int.reduceNe, Int.reduceLT, Int.reduceLE] at hc); refine A7 15 rfl ?_ (hlit := by exact (.inl rfl));refine A7 16 rfl ?_ (hlit := by exact (.inl rfl));refine A7 17 rfl ?_ (hlit := by exact (.inl rfl));refine A7 18 rfl ?_ (hlit := by exact (.inl rfl));refine A7 19 rfl ?_ (hlit := by exact (.inl rfl));refine A7 20 rfl ?_ (hlit := by exact (.inl rfl));refine A7 21 rfl ?_ (hlit := by exact (.inl rfl));refine A7 22 rfl ?_ (hlit := by exact (.inl rfl));refine A7 23 rfl ?_ (hlit := by exact (.inl rfl));refine A7 24 rfl ?_ (hlit := by exact (.inl rfl));refine A7 25 rfl ?_ (hlit := by exact (.inl rfl));refine A7 26 rfl ?_ (hlit := by exact (.inl rfl));refine A1 27 rfl (fF ⟨_, rfl, ?_⟩);refine aZ ?_;refine ge 1 ?_;refine ct ?_;refine kc 0 [8, 5, 2] 11 ?_;refine eo (.bZ [(ae.mk 2 0 hn hus []).d, .sl 5 (aH az), .v (.bool false)]) [0, 1, 2, 3] (eQ es d1 most pr) ?_
    · rw [hst fun i cty us h => ?_]
      · exact ⟨rfl, rfl⟩
      · obtain ⟨s', e2, nm', h3, h4, h5, h6, h7⟩ := h
        simp only [ae.mk.injEq] at h3
        obtain ⟨hq2, _, rfl, rfl, _⟩ := h3
        first
          | (rw [hF] at h4
             simp only [Prod.mk.injEq] at h4
             obtain ⟨h8, rfl, rfl⟩ := h4
             first
               | omega
               | (rw [heN] at h5; exact absurd (show sg' = sd from h5) (by assumption)))
          | (have h8 := tC hFE (nm := sh) (by assumption)
             rw [h4] at h8
             simp at h8)
          | omega
  (try simp only [du, Int.reduceEq, Int.reduceNe, Int.reduceLT, Int.reduceLE] at hc); refine A6 4 rfl (mv ⟨_, rfl, ?_⟩);refine A6 5 rfl (HK IP rfl rfl (JN hFE sh) ⟨_, rfl, ?_⟩);refine A1 6 rfl (jI ⟨_, rfl, ?_⟩);refine ga [7] ?_;refine OZ 97 (fun hc => ?_) (fun hc => ?_)
  · (try simp only [du, Int.reduceEq, Int.reduceNe, Int.reduceLT, Int.reduceLE] at hc)
    refine A7 8 rfl ?_ (hlit := by exact (.inl rfl));refine A7 9 rfl ?_ (hlit := by exact (.inl rfl));refine A7 10 rfl ?_ (hlit := by exact (.inl rfl));refine A7 11 rfl ?_ (hlit := by exact (.inl rfl));refine A7 12 rfl ?_ (hlit := by exact (.inl rfl));refine A1 13 rfl (fF ⟨_, rfl, ?_⟩);refine ga [14] ?_;refine Fw 104 (fun hc => ?_) (fun hc => ?_)
    · simp only [du, Int.reduceEq, Int.reduceNe, Int.reduceLT, Int.reduceLE] at hc
    (try simp only [du, Int.reduceEq, Int.reduceNe, Int.reduceLT, Int.reduceLE] at hc); refine A7 15 rfl ?_ (hlit := by exact (.inl rfl));refine A7 16 rfl ?_ (hlit := by exact (.inl rfl));refine A7 17 rfl ?_ (hlit := by exact (.inl rfl));refine A7 18 rfl ?_ (hlit := by exact (.inl rfl));refine A7 19 rfl ?_ (hlit := by exact (.inl rfl));refine A7 20 rfl ?_ (hlit := by exact (.inl rfl));refine A7 21 rfl ?_ (hlit := by exact (.inl rfl));refine A7 22 rfl ?_ (hlit := by exact (.inl rfl));refine A7 23 rfl ?_ (hlit := by exact (.inl rfl));refine A7 24 rfl ?_ (hlit := by exact (.inl rfl));refine A7 25 rfl ?_ (hlit := by exact (.inl rfl));refine A7 26 rfl ?_ (hlit := by exact (.inl rfl));refine A1 27 rfl (fF ⟨_, rfl, ?_⟩);refine aZ ?_;refine ge 1 ?_;refine ct ?_;refine kc 0 [8, 5, 2] 11 ?_;refine eo (.bZ [(ae.mk 2 0 hn hus []).d, .sl 5 (aH az), .v (.bool false)]) [0, 1, 2, 3] (eQ es d1 most pr) ?_
    · rw [hst fun i cty us h => ?_]
      · exact ⟨rfl, rfl⟩
      · obtain ⟨s', e2, nm', h3, h4, h5, h6, h7⟩ := h
        simp only [ae.mk.injEq] at h3
        obtain ⟨hq2, _, rfl, rfl, _⟩ := h3
        first
          | (rw [hF] at h4
             simp only [Prod.mk.injEq] at h4
             obtain ⟨h8, rfl, rfl⟩ := h4
             first
               | omega
               | (rw [heN] at h5; exact absurd (show sg' = sd from h5) (by assumption)))
          | (have h8 := tC hFE (nm := sh) (by assumption)
             rw [h4] at h8
             simp at h8)
          | omega
  (try simp only [du, Int.reduceEq, Int.reduceNe, Int.reduceLT, Int.reduceLE] at hc); refine A6 8 rfl (mv ⟨_, rfl, ?_⟩)
  obtain ⟨kg, sg', pg, u1, v1, x1, y1, z1, u2, v2, x2, y2, z2, ag, cg, rg, rt', jf, kf, pf, kK, mK, sK, lK, aK, nf, hm1, hF, _, _, hF4⟩ := CJ hFE (nm := sh) (by simpa using hc)
  rw [hm1]
  refine A6 9 rfl (LD ⟨_, rfl, ?_⟩);refine A6 10 rfl (K5 rv ⟨_, rfl, ?_⟩);refine A6 11 rfl (JR BA ⟨_, rfl, ?_⟩);refine A6 12 rfl (Rx ⟨_, rfl, ?_⟩);refine A1 13 rfl (jI ⟨_, rfl, ?_⟩);refine ga [14] ?_;refine OZ 104 (fun hc => ?_) (fun hc => ?_)
  · (try simp only [du, Int.reduceEq, Int.reduceNe, Int.reduceLT, Int.reduceLE] at hc)
    refine A7 15 rfl ?_ (hlit := by exact (.inl rfl));refine A7 16 rfl ?_ (hlit := by exact (.inl rfl));refine A7 17 rfl ?_ (hlit := by exact (.inl rfl));refine A7 18 rfl ?_ (hlit := by exact (.inl rfl));refine A7 19 rfl ?_ (hlit := by exact (.inl rfl));refine A7 20 rfl ?_ (hlit := by exact (.inl rfl));refine A7 21 rfl ?_ (hlit := by exact (.inl rfl));refine A7 22 rfl ?_ (hlit := by exact (.inl rfl));refine A7 23 rfl ?_ (hlit := by exact (.inl rfl));refine A7 24 rfl ?_ (hlit := by exact (.inl rfl));refine A7 25 rfl ?_ (hlit := by exact (.inl rfl));refine A7 26 rfl ?_ (hlit := by exact (.inl rfl));refine A1 27 rfl (fF ⟨_, rfl, ?_⟩);refine aZ ?_;refine ge 1 ?_;refine ct ?_;refine kc 0 [8, 5, 2] 11 ?_;refine eo (.bZ [(ae.mk 2 0 hn hus []).d, .sl 5 (aH az), .v (.bool false)]) [0, 1, 2, 3] (eQ es d1 most pr) ?_
    · rw [hst fun i cty us h => ?_]
      · exact ⟨rfl, rfl⟩
      · obtain ⟨s', e2, nm', h3, h4, h5, h6, h7⟩ := h
        simp only [ae.mk.injEq] at h3
        obtain ⟨hq2, _, rfl, rfl, _⟩ := h3
        first
          | (rw [hF] at h4
             simp only [Prod.mk.injEq] at h4
             obtain ⟨h8, rfl, rfl⟩ := h4
             first
               | omega
               | (rw [heN] at h5; exact absurd (show sg' = sd from h5) (by assumption)))
          | (have h8 := tC hFE (nm := sh) (by assumption)
             rw [h4] at h8
             simp at h8)
          | omega
  (try simp only [du, Int.reduceEq, Int.reduceNe, Int.reduceLT, Int.reduceLE] at hc); refine A6 15 rfl (mv ⟨_, rfl, ?_⟩);refine A6 16 rfl (LD ⟨_, rfl, ?_⟩);refine A6 17 rfl (K5 rv ⟨_, rfl, ?_⟩);refine A6 18 rfl (JR MB ⟨_, rfl, ?_⟩);refine A6 19 rfl (LD ⟨_, rfl, ?_⟩);refine A6 20 rfl (K5 G4 ⟨_, rfl, ?_⟩);refine A6 21 rfl (JR G3 ⟨_, rfl, ?_⟩);refine A6 22 rfl (mv ⟨_, rfl, ?_⟩);refine A6 23 rfl (LD ⟨_, rfl, ?_⟩);refine A6 24 rfl (K5 G4 ⟨_, rfl, ?_⟩);refine A6 25 rfl (JR G3 ⟨_, rfl, ?_⟩);refine A6 26 rfl (QP ⟨_, rfl, ?_⟩);refine A1 27 rfl (jI ⟨_, rfl, ?_⟩);refine aZ ?_;refine ge 1 ?_;refine cj (fun h9 => ?_) (fun h9 => ?_)
  · refine kc 0 [8, 5, 2] 11 ?_;refine eo (.bZ [(ae.mk 2 0 hn hus []).d, .sl 5 (aH az), .v (.bool false)]) [0, 1, 2, 3] (eQ es d1 most pr) ?_
    · rw [hst fun i cty us h => ?_]
      · exact ⟨rfl, rfl⟩
      · obtain ⟨s', e2, nm', h3, h4, h5, h6, h7⟩ := h
        simp only [ae.mk.injEq] at h3
        obtain ⟨hq2, _, rfl, rfl, _⟩ := h3
        first
          | (rw [hF] at h4
             simp only [Prod.mk.injEq] at h4
             obtain ⟨h8, rfl, rfl⟩ := h4
             first
               | omega
               | (rw [heN] at h5; exact absurd (show sg' = sd from h5) (by assumption)))
          | (have h8 := tC hFE (nm := sh) (by assumption)
             rw [h4] at h8
             simp at h8)
          | omega
  refine kc 3 [19, 18, 17, 16, 15, 14, 11, 8, 5, 0, 2] 0 ?_
  have hkh : kh = 2 := (by omega)
  subst hkh
  have hkf : kf = 4 := (by omega)
  subst hkf
  obtain ⟨rfl, rfl⟩ : mh = 0 ∧ ah = [] := (by
    rcases hqH.2.2 with h3 | h3 | h3 | h3 | h3
    · omega
    · omega
    · exact ⟨h3.2.1, List.eq_nil_of_length_eq_zero h3.2.2.2⟩
    · omega
    · omega)
  have hee := wG hE hem' (hZ hF (by decide)) (by rw [heN]; first | exact Eq.symm (by assumption) | exact (Decidable.not_not.mp (by assumption)).symm)
  have hF' : bM sh es = (4, e, jf) := (by rw [hF, ← hee])
  have hcg : cc = cg := (by rw [← heC, hee]; rfl)
  have hpg : pd = pg := (by rw [← hePs, hee]; rfl)
  obtain ⟨hpf, hnf, nm', hci⟩ := hF4 rfl
  rw [← hcg] at hci
  rw [← hpg] at hpf
  rw [hpf, hnf]
  clear hF
  have hct1 : ∀ xs : List ae, xs.length = bg (.mk kK mK sK lK aK) → lQ es e (.mk 2 0 sh lh []) xs jf (.mk kK mK sK lK aK) lh := (fun xs hl => ⟨sh, e, nm', rfl, hF', rfl, by rw [heC]; exact hci, hl⟩)
  have hno : ∀ i cty us, lQ es e (.mk 2 0 sh lh []) cs i cty us → jf = i ∧ ae.mk kK mK sK lK aK = cty ∧ lh = us ∧ cs.length = bg (.mk kK mK sK lK aK) := (fun i cty us h => by
    obtain ⟨s', e2, nm2, h3, h4, h5, h6, h7⟩ := h
    simp only [ae.mk.injEq] at h3
    obtain ⟨_, _, rfl, rfl, _⟩ := h3
    rw [hF'] at h4
    simp only [Prod.mk.injEq] at h4
    obtain ⟨_, rfl, rfl⟩ := h4
    rw [heC, hci] at h6
    simp only [Option.some.injEq, Prod.mk.injEq] at h6
    obtain ⟨_, rfl⟩ := h6; exact ⟨rfl, rfl, rfl, h7⟩)
  obtain ⟨hi1, hi2, hi3, hi4, hi5, _, hi7⟩ := re hE hem' hqH (hct1 (List.replicate (bg (.mk kK mK sK lK aK)) aQ) (List.length_replicate ..))
  rw [heC] at hi1
  rw [hePs] at hi3 hi4
  rw [heAr] at hi7
  have hlv := rz (gl := gl) pd lh (by omega) (by omega) kK mK sK lK aK (by omega)
  obtain ⟨k5, m5, s5, l5, a5, hTY⟩ := ae.case (ew pd lh (.mk kK mK sK lK aK))
  rw [hTY] at hlv
  have hpTY : bg (.mk k5 m5 s5 l5 a5) = bg (.mk kK mK sK lK aK) := (by rw [← hTY, tu])
  have hTW : Wt (eh es) ps (.mk k5 m5 s5 l5 a5) 0 := (by rw [← hTY]; exact hi4.IJ (by omega) hi2)
  have hpCT := dT _ (.mk kK mK sK lK aK) (Nat.le_refl _)
  have hb5 := pw (gl := gl) (B := ((ae.mk k5 m5 s5 l5 a5).size : Int)) k5 m5 s5 l5 a5 (hTW.sh (by omega)) (by omega)
  obtain ⟨kF, mF, sF, lF, aF, hEnd5⟩ := ae.case (er (bg (.mk k5 m5 s5 l5 a5)) (.mk k5 m5 s5 l5 a5))
  rw [hEnd5] at hb5
  have hXl := dV (bg (.mk k5 m5 s5 l5 a5)) (.mk k5 m5 s5 l5 a5) (Nat.le_refl _)
  have hXt := aO (gh (bg (.mk k5 m5 s5 l5 a5)) (.mk k5 m5 s5 l5 a5))
  have hXW := hTW.wN (bg (.mk k5 m5 s5 l5 a5)) (Nat.le_refl _)
  refine xo (ι := Unit) (fun _ => [(20, .d (.sl 5 (aH (gh (bg (.mk k5 m5 s5 l5 a5)) (.mk k5 m5 s5 l5 a5)))))]) (fun _ => [pE (es.map (·.d)), dR, .cV (fL es), mO d1 most pr, tO 2 0 hn hus [], zO, tO 2 0 sh lh []]) [19, 18, 16, 15, 14, 11, 8, 5, 0, 2] (fun _ => True) rfl ?A1 ?B1
  case A1 =>
    refine gz [0, 1, 2, 3, 4, 5, 6, 7, 8, 9] mixed ?_;refine cT (rs := [10, 15]) (by kernel_rfl) rfl ⟨?_, ?_, trivial⟩
    · skip
      refine A4 10 rfl (cv GJ rfl rfl (hlv) (bo (an (an .nil))) ?_);refine cT (rs := [11, 15]) (by kernel_rfl) rfl ⟨?_, ?_, trivial⟩
      · skip
        refine A4 11 rfl (cv x9 rfl rfl (hb5) (an (an (an .nil))) ?_);refine ga [12, 13, 14] ?_;refine A2 15 rfl (qB bw ?_);refine ga [16] ?_;refine A2 17 rfl (dN bw ?_);refine aZ ?_;refine bk () rfl ?_ [0, 1, 2, 3, 4, 5, 7] mz
        trivial
      · skip
        refine A4 15 rfl (qB bw ?_);refine A2 11 rfl (cv x9 rfl rfl (hb5) (an (an (an .nil))) ?_);refine ga [12, 13, 14, 16] ?_;refine A2 17 rfl (dN bw ?_);refine aZ ?_;refine bk () rfl ?_ [0, 1, 2, 3, 4, 5, 7] mz
        trivial
    · skip
      refine A4 15 rfl (qB bw ?_);refine A2 10 rfl (cv GJ rfl rfl (hlv) (bo (an (an .nil))) ?_);refine A2 11 rfl (cv x9 rfl rfl (hb5) (an (an (an .nil))) ?_);refine ga [12, 13, 14, 16] ?_;refine A2 17 rfl (dN bw ?_);refine aZ ?_;refine bk () rfl ?_ [0, 1, 2, 3, 4, 5, 7] mz
      trivial
  case B1 =>
    rintro _ hcut
    try dsimp only at hcut
    refine kc 0 [20, 19, 18, 16, 15, 14, 11, 8, 5, 0, 2] 10 ?_;refine cj (fun h12 => ?_) (fun h12 => ?_)
    · refine kc 0 [8, 5, 2] 11 ?_;refine eo (.bZ [(ae.mk 2 0 hn hus []).d, .sl 5 (aH az), .v (.bool false)]) [0, 1, 2, 3] (eQ es d1 most pr) ?_
      · rw [hst fun i cty us h => ?_]
        · exact ⟨rfl, rfl⟩
        · have := (hno i cty us h).2.2.2; omega
    refine kc 3 [20, 19, 18, 16, 15, 14, 11, 8, 5, 0, 2] 0 ?_
    have hpl : cs.length = bg (.mk kK mK sK lK aK) := (by omega)
    obtain ⟨i', cty', us', hct', htir, hstp⟩ := hct0 _ _ _ (hct1 cs hpl); obtain ⟨rfl, rfl, rfl, _⟩ := hno _ _ _ hct'; refine gc 2 ?_;refine oc (aN GM rfl rfl rfl rfl (oV es d1 most pr (by omega)) [0, 1, 2, 3] (bj (cr (.cons rfl .cV (bj .nil)))) rfl rfl rfl rfl (an .nil) (fun s ob' hq => ?_) (fun s ob' hq => ?_))
    rotate_left
    · rcases hq with ⟨_, hq1, _⟩ | ⟨hle, hq1, rfl⟩
      · cases hq1
      cases hq1; refine ⟨_, _, _, _, _, rfl, rfl, rfl, rfl, rfl, ?_⟩;refine jA ([0, 1, 2, 3]) (eQ es d1 most pr) rfl rfl rfl (by repeat (first | exact cH | refine bj ?_ | refine cr ?_ | refine ia ?_)) ?_
      rw [htir hle]; exact ⟨_, rfl, rfl⟩
    rcases hq with ⟨hlt, hq1, rfl⟩ | ⟨_, hq1, _⟩
    rotate_left
    · cases hq1
    cases hq1; obtain ⟨hz1, hz2, hio⟩ := hstp hlt
    rw [hePs, hTY] at hz1
    have hPc : P ≤ cs.length := (by omega)
    have htl : (az.take P).length = P := (by rw [List.length_take]; omega)
    have htl2 := aO (az.take P)
    have hdl : (cs.drop P).length = cs.length - P := List.length_drop
    have hdl2 := aO (cs.drop P)
    have hgl : (az.take P ++ cs.drop P).length = cs.length := (by rw [List.length_append]; omega)
    have hgl2 := aO (az.take P ++ cs.drop P)
    have hez := dH (bg (.mk k5 m5 s5 l5 a5)) (.mk k5 m5 s5 l5 a5)
    obtain ⟨HY, hHY⟩ : ∃ f : Nat → List ae, f = vY sd (.mk 2 0 hn hus []) (az.take (P + 1 + cc.length)) P (az.take P) (gh (bg (.mk k5 m5 s5 l5 a5)) (.mk k5 m5 s5 l5 a5)) cs := ⟨_, rfl⟩
    have hY0 : HY P = [] := (by rw [hHY]; exact Gc P (Nat.le_refl _))
    have hYl : ∀ j, (HY j).length ≤ j := (fun j => by rw [hHY]; exact Gd j)
    have hIT : n9 e (.mk 2 0 hn hus []) az cs jf (.mk kK mK sK lK aK) lh = bt (bt (bt (az.getD (P + 1 + jf) aQ) (cs.drop P)) (HY cs.length)) (az.drop (A + 1)) := (by
      rw [n9, heP, hePs, hTY, heN, heC, hA, hHY, hpTY, ← hpl])
    have hYz : ∀ j x, j ≤ cs.length → x ∈ HY j → x.size ≤ 20000 := (fun j x hj hx => by
      have h3 : x ∈ vY sd (.mk 2 0 hn hus []) (az.take (P + 1 + cc.length)) P (az.take P) (gh cs.length (.mk k5 m5 s5 l5 a5)) cs cs.length := (by
        rw [hHY, hpTY, ← hpl] at hx; exact CX hj hx)
      refine Nat.le_trans (EE (e := e) (h := .mk 2 0 hn hus []) (az := az) (i := jf) (cty := .mk kK mK sK lK aK) (us := lh) (cs := cs) ?_) hz2
      rw [heN, heP, heC, hePs, hTY]; exact h3)
    obtain ⟨km, mm, sm, lm, am, hgm⟩ := bK (show P + 1 + jf < az.length by omega)
    have hidx40 : (aH az)[((P : Int) + 1 + (jf : Int)).toNat]? = some [.v (.int .i64 km), .v (.int .i64 mm), .v (.string sm), .sl 3 (bF lm), .sl 5 (aH am)] := (by rw [show ((P : Int) + 1 + (jf : Int)).toNat = P + 1 + jf by omega, gY hgm]; rfl)
    have hcat := Dp (gl := gl) (az.take P) (cs.drop P) (by omega) (by omega)
    have hF1 : (P : Int) + 1 + ((gM cc).length : Int) = ((P + 1 + cc.length : Nat) : Int) := (by omega)
    have hft : (aH az).take ((P : Int) + 1 + ((gM cc).length : Int)).toNat = aH (az.take (P + 1 + cc.length)) := (by rw [hF1]; exact gr az _)
    have hfl : (az.take (P + 1 + cc.length)).length = P + 1 + cc.length := (by rw [List.length_take]; omega)
    have hfl2 := aO (az.take (P + 1 + cc.length))
    refine ⟨_, _, _, _, _, rfl, rfl, rfl, rfl, rfl, ?_⟩;refine go 3 ?_;refine gz [0, 1] mixed ?_;refine A1 2 rfl (fD bB bH rfl rfl rfl rfl rfl rfl (by omega) (gr az P) ⟨_, rfl, ?_⟩);refine ga [3, 4] ?_;refine A1 5 rfl (jH bB bH rfl rfl rfl rfl rfl rfl (by omega) (ki cs P) ⟨_, rfl, ?_⟩);refine A2 6 rfl (gD Pk [.tmp 146, .tmp 149] Bz ?_);refine A2 7 rfl (cv Qi rfl rfl (hcat) (bo .nil) ?_);refine ga [8] ?_;refine aZ ?_;refine ke 1 [22, 20, 19, 18, 16, 15, 14, 11, 8, 5, 2] 4 ?_;refine o1 (jH bB bH rfl rfl rfl rfl rfl rfl (by omega) (ki cs P) ?_);refine oc (ck Qh rfl rfl (BB (cs.drop P) (by omega)) [] rfl .nil (an .nil) ?_);refine ko 11 [24, 23, 22, 20, 19, 18, 16, 15, 14, 11, 8, 5, 2] 0 ?_;refine lp (ι := Nat) (fun j => [(24, int j), (23, .own 7 5 (aH (cs.drop P ++ HY j)))]) (fun j => [pE (es.map (·.d)), dR, .cV (fL es), mO (d1 + 1) most pr, tO 2 0 hn hus [], zO, tO 2 0 sh lh [], .row 39 5]) [22, 20, 19, 18, 16, 15, 14, 11, 8, 5, 2] (fun j => P ≤ j ∧ j ≤ cs.length) (fun j => cs.length - j) (P) ([0, 1, 2, 3, 4, 5, 6, 8]) rfl ?I2 ?M2 ?H2
    case I2 =>
      exact ⟨Nat.le_refl _, hPc⟩
    case M2 =>
      refine mo ?_ (aJ (ef rfl (by exact Fit.of_eq (by rw [hY0, List.append_nil]; rfl)) (aJ (aJ (aJ (aJ (aJ (aJ (aJ (aJ (aJ (aJ (aJ dC)))))))))))))
      repeat (first | exact cH | refine bj ?_ | refine cr ?_ | refine ia ?_)
    case H2 =>
      rintro j hinv
      try dsimp only at hinv
      refine kc 0 [24, 23, 22, 20, 19, 18, 16, 15, 14, 11, 8, 5, 2] 9 ?_;refine cJ (fun h18 => ?_) (fun h18 => ?_)
      · refine kc 6 [23, 19, 16, 14, 8, 2] 0 ?_; obtain rfl : j = cs.length := (by omega)
        have hol := aO (cs.drop P ++ HY cs.length)
        have hol2 := hYl cs.length
        rw [List.length_append] at hol
        have hdA : (aH az).drop ((A : Int) + 1).toNat = aH (az.drop (A + 1)) := (by rw [show ((A : Int) + 1).toNat = A + 1 by omega]; exact (ki az (A + 1)))
        have hdAl := aO (az.drop (A + 1))
        have hdAl2 : (az.drop (A + 1)).length = az.length - (A + 1) := List.length_drop
        refine gz [0, 1] mixed ?_;refine A1 2 rfl (cG ⟨_, rfl, ?_⟩);refine ga [3, 4, 5, 6] ?_;refine A1 7 rfl (cG ⟨_, rfl, ?_⟩);refine A1 8 rfl (cu bB bH ⟨_, rfl, ?_⟩ (he := by exact (hidx40)));refine ga [9, 10, 11, 12] ?_;refine A1 13 rfl (cG ⟨_, rfl, ?_⟩);refine A1 14 rfl (jH bB bH rfl rfl rfl rfl rfl rfl (by omega) (hdA) ⟨_, rfl, ?_⟩);refine A2 15 rfl (gg dE rfl rfl rfl (.inl rfl) rfl rfl rfl (.inl rfl) (by decide) (by (simp only [maxLen]; omega)) rfl rfl rfl ?_);refine A2 16 rfl (dN bw ?_);refine ga [17, 18] ?_;refine aZ ?_;refine ge 2 ?_;refine eo (.bZ [(ae.mk km mm sm lm am).d, .sl 5 (aH (cs.drop P ++ HY cs.length) ++ aH (az.drop (A + 1))), .v (.bool true)]) [0, 1, 2, 3] (eQ es (d1 + 1) most pr) ?_
        · rw [hio]
          refine ⟨km, mm, sm, lm, am, cs.drop P ++ HY cs.length ++ az.drop (A + 1), ?_, ?_, rfl⟩
          · rw [hIT, List.getD_eq_getElem?_getD, hgm, Option.getD_some, uU, uU]
          · rw [dj (cs.drop P ++ HY cs.length)]
      refine kc 6 [24, 23, 22, 20, 19, 18, 16, 15, 14, 11, 8, 5, 2] 0 ?_; obtain ⟨kA, mA, sA, lA, aA, hgA⟩ := bK (show j < (gh (bg (.mk k5 m5 s5 l5 a5)) (.mk k5 m5 s5 l5 a5)).length by omega)
      have hAz := bG hgA
      have hhas := J2 (gl := gl) sd kA mA sA lA aA (by omega)
      have hAj : (gh (bg (.mk k5 m5 s5 l5 a5)) (.mk k5 m5 s5 l5 a5)).getD j aQ = .mk kA mA sA lA aA := (by rw [List.getD_eq_getElem?_getD, hgA]; rfl)
      have hn1 : eU (jN sd) (.mk kA mA sA lA aA) 0 = false → HY (j + 1) = HY j := (fun h => by rw [hHY]; exact EN hAj (fun h2 => by rw [h] at h2; exact absurd h2.2 (by decide)))
      refine gz [0, 1] mixed ?_;refine A1 2 rfl (cu bB bH ⟨_, rfl, ?_⟩ (he := by exact (bW hgA)));refine ga [3, 4, 5, 6, 7] ?_;refine A2 8 rfl (cv Qg rfl rfl (hhas) (bo (an .nil)) ?_);refine ga [9] ?_;refine aZ ?_;refine ge 1 ?_;refine cj (fun h20 => ?_) (fun h20 => ?_)
      · refine kc 4 [24, 23, 22, 20, 19, 18, 16, 15, 14, 11, 8, 5, 2] 2 ?_;refine o1 (cG ?_);refine go 2 ?_;refine bk (j + 1) rfl ?_ ([0, 1, 2, 3, 4, 5, 6, 7]) ?_
        · exact ⟨⟨by omega, by omega⟩, by omega⟩
        · refine mo ?_ (aJ (ef rfl (by first | exact Fit.of_eq (by rw [hn1 (by simpa using h20)]; rfl) | exact Fit.of_eq (by rw [hnx]; rfl)) (aJ (aJ (aJ (aJ (aJ (aJ (aJ (aJ (aJ (aJ (aJ dC)))))))))))))
          repeat (first | exact cH | refine bj ?_ | refine cr ?_ | refine ia ?_)
      refine kc 3 [24, 23, 22, 20, 19, 18, 16, 15, 14, 11, 8, 5, 2] 0 ?_
      have hAh : eU (jN sd) (.mk kA mA sA lA aA) 0 = true := (by simpa using h20)
      obtain ⟨kC, mC, sC, lC, aC, hgC⟩ := bK (show j < cs.length by omega)
      have hCj : cs.getD j aQ = .mk kC mC sC lC aC := (by rw [List.getD_eq_getElem?_getD, hgC]; rfl)
      have hCw := hqA _ (List.mem_of_getElem? hgC)
      have hCz := bG hgC
      obtain ⟨gv, hgv⟩ : ∃ x, x = (az.take P ++ cs.drop P).take j := ⟨_, rfl⟩
      have hgv2 : gv = az.take P ++ (cs.drop P).take (j - P) := (by rw [hgv, List.take_append, htl, List.take_of_length_le (by omega)])
      have hgvl : gv.length = j := (by rw [hgv, List.length_take]; omega)
      have hgvw : ∀ x ∈ gv, Wt (eh es) ps x c ∧ x.size ≤ 1000000000000 := (fun x hx => by
        rw [hgv] at hx
        rcases List.mem_append.1 (List.mem_of_mem_take hx) with hx | hx
        · have hx := List.mem_of_mem_take hx
          have := hgas x hx
          exact ⟨ha x hx, by omega⟩
        · have hx := List.mem_of_mem_drop hx
          obtain ⟨q, hq⟩ := List.getElem?_of_mem hx
          have := bG hq
          exact ⟨hqA x hx, by omega⟩)
      have hAW := hXW.2 j _ hgA
      have hins := zJ (gl := gl) (B := 1099511627776) (Int.le_refl _) gv (fun v hv => ⟨(hgvw v hv).1.num (by have := (hgvw v hv).2; omega), by have := (hgvw v hv).2; omega⟩) (by omega) kA mA sA lA aA (hAW.num (by omega)) (by omega)
      have hW1 : Wt (eh es) ps (eW (.mk kA mA sA lA aA) gv) c := (by
        have h3 := Wt.gp hcc.1 (fun x hx => (hgvw x hx).1) gv.length (Nat.le_refl _) (hAW.up (show (0 : Int) + (j : Int) ≤ c + (gv.length : Int) by omega))
        rw [qm _ _ _ (Nat.le_refl _), List.take_length] at h3; exact h3)
      have hps1 := hFE.pos e hem' hek (nm', .mk kK mK sK lK aK) (by rw [heC]; exact List.mem_of_getElem? hci)
      rw [heN, heAr] at hps1
      dsimp only at hps1
      have hps2 := Jy hps1 (ps := pd) (us := lh) (j := j) (a := .mk kA mA sA lA aA) (by omega) (by rw [hTY, ← hpTY]; exact hgA) hAh gv
      have hypE : yE (.mk 2 0 hn hus []) (az.take (P + 1 + cc.length)) P (.mk kA mA sA lA aA) gv (.mk kC mC sC lC aC) = EM (.mk 2 0 hn hus []) (az.take (P + 1 + cc.length)) P (eW (.mk kA mA sA lA aA) gv) (.mk kC mC sC lC aC) := (by
        rw [yE, qm _ _ _ (Nat.le_refl _), List.take_length])
      obtain ⟨k6, m6, s6, l6, a6, hT1⟩ := ae.case (eW (.mk kA mA sA lA aA) gv)
      rw [hT1] at hins hW1 hps2 hypE
      have hpA := dT _ (.mk kA mA sA lA aA) (Nat.le_refl _)
      have hb6 := pw (gl := gl) (B := c + ((ae.mk k6 m6 s6 l6 a6).size : Int)) k6 m6 s6 l6 a6 (hW1.sh (by omega)) (by omega)
      have hx6 := dV (bg (.mk k6 m6 s6 l6 a6)) (.mk k6 m6 s6 l6 a6) (Nat.le_refl _)
      have hU6 := hW1.wN (bg (.mk k6 m6 s6 l6 a6)) (Nat.le_refl _)
      unfold EM at hypE
      obtain ⟨k7, m7, s7, l7, a7, hU⟩ := ae.case (er (bg (.mk k6 m6 s6 l6 a6)) (.mk k6 m6 s6 l6 a6))
      rw [hU] at hb6 hU6 hps2 hypE
      have hN1 : bg (.mk k6 m6 s6 l6 a6) ≤ 20000 := (by omega)
      generalize hN : bg (.mk k6 m6 s6 l6 a6) = N at hb6 hx6 hU6 hypE hN1
      generalize hxs : gh N (.mk k6 m6 s6 l6 a6) = xs6 at hb6 hx6 hypE
      have hx6t := aO xs6
      have hjt : (aH (az.take P ++ cs.drop P)).take ((j : Nat) : Int).toNat = aH gv := (by rw [hgv]; exact gr _ j)
      refine xo (ι := Unit) (fun _ => [(25, .d (.sl 5 (aH xs6))), (26, .cb 8 0)]) (fun _ => [pE (es.map (·.d)), dR, .cV (fL es), mO (d1 + 1) most pr, tO 2 0 hn hus [], zO, tO 2 0 sh lh [], .row 39 5, tO k7 m7 s7 l7 a7]) [24, 23, 22, 20, 19, 18, 16, 15, 14, 11, 8, 5, 2] (fun _ => True) rfl ?A3 ?B3
      case A3 =>
        refine gz [0, 1] mixed ?_;refine A1 2 rfl (cu bB bH ⟨_, rfl, ?_⟩ (he := by exact (bW hgA)));refine ga [3, 4, 5] ?_;refine A1 6 rfl (fD bB bH rfl rfl rfl rfl rfl rfl (by omega) (hjt) ⟨_, rfl, ?_⟩);refine cT (rs := [7, 12]) (by kernel_rfl) rfl ⟨?_, ?_, trivial⟩
        · skip
          refine A4 7 rfl (cv GK rfl rfl (hins) (bo (an .nil)) ?_);refine cT (rs := [8, 12]) (by kernel_rfl) rfl ⟨?_, ?_, trivial⟩
          · skip
            refine A4 8 rfl (cv x9 rfl rfl (hb6) (an (an (an .nil))) ?_);refine ga [9, 10, 11] ?_;refine A2 12 rfl (qB bw ?_);refine ga [13] ?_;refine A2 14 rfl (dN bw ?_);refine aZ ?_;refine bk () rfl ?_ [0, 1, 2, 3, 4, 5, 6, 7, 8] mz
            trivial
          · skip
            refine A4 12 rfl (qB bw ?_);refine A2 8 rfl (cv x9 rfl rfl (hb6) (an (an (an .nil))) ?_);refine ga [9, 10, 11, 13] ?_;refine A2 14 rfl (dN bw ?_);refine aZ ?_;refine bk () rfl ?_ [0, 1, 2, 3, 4, 5, 6, 7, 8] mz
            trivial
        · skip
          refine A4 12 rfl (qB bw ?_);refine A2 7 rfl (cv GK rfl rfl (hins) (bo (an .nil)) ?_);refine A2 8 rfl (cv x9 rfl rfl (hb6) (an (an (an .nil))) ?_);refine ga [9, 10, 11, 13] ?_;refine A2 14 rfl (dN bw ?_);refine aZ ?_;refine bk () rfl ?_ [0, 1, 2, 3, 4, 5, 6, 7, 8] mz
          trivial
      case B3 =>
        rintro _ hcut
        try dsimp only at hcut
        refine kc 0 [25, 26, 24, 23, 22, 20, 19, 18, 16, 15, 14, 11, 8, 5, 2] 8 ?_
        rw [show ((aH xs6).length : Int) = (N : Int) by omega]
        obtain ⟨hok7, _, _, _⟩ := Wt.spine _ (Nat.le_refl _) hU6.1
        have hsp := u9 (gl := gl) k7 m7 s7 l7 a7 hok7 (by omega)
        rcases hS7 : bf (.mk k7 m7 s7 l7 a7) with ⟨⟨k8, m8, s8, l8, a8⟩, us⟩
        rw [hS7] at hsp hps2 hypE
        dsimp only at hsp hps2 hypE
        have husl := aO us
        refine gc 2 ?_;refine oc (cv KJ rfl rfl (hsp) (bo .nil) ?_);refine ko 8 [29, 27, 25, 24, 23, 22, 20, 19, 18, 16, 15, 14, 11, 8, 5, 2] 12 ?_;refine o1 (cG ?_);refine go 1 ?_;refine o1 (cG ?_);refine o1 (fD bB bH rfl rfl rfl rfl rfl rfl (by omega) (hft) ?_);refine ko 5 [200, 199, 198, 30, 29, 27, 25, 24, 23, 22, 20, 19, 18, 16, 15, 14, 11, 8, 5, 2] 0 ?_;refine lp (ι := Nat × Int × Int × ByteArray × List aP × List ae) (fun ⟨q, k9, m9, s9, l9, a9⟩ => [(200, int q)]) (fun ⟨q, k9, m9, s9, l9, a9⟩ => [pE (es.map (·.d)), dR, .cV (fL es), mO (d1 + 1) most pr, tO 2 0 hn hus [], zO, tO 2 0 sh lh [], .row 39 5, tO k7 m7 s7 l7 a7, tO k8 m8 s8 l8 a8, tO k9 m9 s9 l9 a9]) [199, 198, 30, 29, 27, 25, 24, 23, 22, 20, 19, 18, 16, 15, 14, 11, 8, 5, 2] (fun ⟨q, k9, m9, s9, l9, a9⟩ => q ≤ P + 1 + cc.length ∧ bt (.mk 2 0 hn hus []) (((az.take (P + 1 + cc.length)).map fun x => dz x (N : Int) 0).take q) = .mk k9 m9 s9 l9 a9) (fun ⟨q, k9, m9, s9, l9, a9⟩ => P + 1 + cc.length - q) ((0, 2, 0, hn, hus, [])) ([0, 1, 2, 3, 4, 5, 6, 7, 8, 9, 10]) rfl ?I4 ?M4 ?H4
        case I4 =>
          exact ⟨Nat.zero_le _, rfl⟩
        case M4 =>
          exact mz
        case H4 =>
          rintro ⟨q, k9, m9, s9, l9, a9⟩ hinv
          try dsimp only at hinv
          refine kc 0 [200, 199, 198, 30, 29, 27, 25, 24, 23, 22, 20, 19, 18, 16, 15, 14, 11, 8, 5, 2] 6 ?_;refine cj (fun h26 => ?_) (fun h26 => ?_)
          · refine gc 5 ?_; obtain ⟨kb, mb, sb, lb, ab, hgb⟩ := bK (show q < (az.take (P + 1 + cc.length)).length by omega)
            have hbm := List.mem_of_mem_take (List.mem_of_getElem? hgb)
            have hbw := ha _ hbm
            have hbz := hgas _ hbm
            have hlb := qW (gl := gl) (m0 := (N : Int)) (fr := 0) (B := 1099511627776) ⟨by omega, by omega⟩ ⟨by omega, by omega⟩ (Int.le_refl _) kb mb sb lb ab (hbw.num (by omega)) (by omega)
            obtain ⟨kc, mc, sc, lc, ac, hlc⟩ := ae.case (dz (.mk kb mb sb lb ab) (N : Int) 0)
            rw [hlc] at hlb
            have hgm2 : ((az.take (P + 1 + cc.length)).map fun x => dz x (N : Int) 0)[q]? = some (.mk kc mc sc lc ac) := (by rw [List.getElem?_map, hgb, Option.map_some, hlc])
            have hnw := jY (gl := gl) 3 [.mk k9 m9 s9 l9 a9, .mk kc mc sc lc ac]
            refine gc 1 ?_;refine o1 (cu bB bH ?_ (he := by exact (bW hgb)));refine go 5 ?_;refine gz [0, 1, 2] mixed ?_;refine A2 3 rfl (cv GI rfl rfl (hlb) (bo (an (an .nil))) ?_);refine A2 4 rfl (gD dE [.tmp 204, .tmp 207] bw ?_);refine A2 5 rfl (cv It rfl rfl (hnw) (an (bo .nil)) ?_);refine A2 6 rfl (dN bw ?_);refine aZ ?_;refine ke 2 [200, 199, 198, 30, 29, 27, 25, 24, 23, 22, 20, 19, 18, 16, 15, 14, 11, 8, 5, 2] 1 ?_;refine o1 (cG ?_);refine go 2 ?_;refine bk (q + 1, 3, 0, .empty, [], [.mk k9 m9 s9 l9 a9, .mk kc mc sc lc ac]) rfl ?_ [0, 1, 2, 3, 4, 5, 6, 7, 8, 9, 10] mz
            exact ⟨⟨by omega, by rw [fg hgm2, hinv.2]⟩, show P + 1 + cc.length - (q + 1) < P + 1 + cc.length - q by omega⟩
          refine kc 6 [30, 29, 27, 25, 24, 23, 22, 20, 19, 18, 16, 15, 14, 11, 8, 5, 2] 0 ?_; obtain rfl : q = P + 1 + cc.length := (by omega)
          have hFF := hinv.2
          rw [List.take_of_length_le (by rw [List.length_map]; omega)] at hFF
          rw [Ev, hFF] at hypE
          have hlC := qW (gl := gl) (m0 := (N : Int)) (fr := 0) (B := 1099511627776) ⟨by omega, by omega⟩ ⟨by omega, by omega⟩ (Int.le_refl _) kC mC sC lC aC (hCw.num (by omega)) (by omega)
          obtain ⟨kV, mV, sV, lV, aV, hV⟩ := ae.case (dz (.mk kC mC sC lC aC) (N : Int) 0)
          rw [hV] at hlC hypE
          refine gc 3 ?_;refine o1 (cu bB bH ?_ (he := by exact (bW hgC)));refine go 2 ?_;refine oc (cv GI rfl rfl (hlC) (bo (an (an .nil))) ?_);refine ko 5 [33, 30, 29, 27, 25, 24, 23, 22, 20, 19, 18, 16, 15, 14, 11, 8, 5, 2] 7 ?_;refine lp (ι := Nat × Int × Int × ByteArray × List aP × List ae) (fun ⟨i, kv, mv', sv, lv, av⟩ => [(218, int i)]) (fun ⟨i, kv, mv', sv, lv, av⟩ => [pE (es.map (·.d)), dR, .cV (fL es), mO (d1 + 1) most pr, tO 2 0 hn hus [], zO, tO 2 0 sh lh [], .row 39 5, tO k7 m7 s7 l7 a7, tO k8 m8 s8 l8 a8, tO k9 m9 s9 l9 a9, tO kv mv' sv lv av]) [217, 33, 30, 29, 27, 25, 24, 23, 22, 20, 19, 18, 16, 15, 14, 11, 8, 5, 2] (fun ⟨i, kv, mv', sv, lv, av⟩ => i ≤ N ∧ fh N (.mk kV mV sV lV aV) = fh (N - i) (.mk kv mv' sv lv av)) (fun ⟨i, kv, mv', sv, lv, av⟩ => N - i) ((0, kV, mV, sV, lV, aV)) ([0, 1, 2, 3, 4, 5, 6, 7, 8, 9, 10, 11]) rfl ?I5 ?M5 ?H5
          case I5 =>
            exact ⟨Nat.zero_le _, rfl⟩
          case M5 =>
            exact mz
          case H5 =>
            rintro ⟨i, kv, mv', sv, lv, av⟩ hinv
            try dsimp only at hinv
            refine kc 0 [218, 217, 33, 30, 29, 27, 25, 24, 23, 22, 20, 19, 18, 16, 15, 14, 11, 8, 5, 2] 6 ?_;refine cj (fun h32 => ?_) (fun h32 => ?_)
            · refine gc 10 ?_;refine gz [0, 1] mixed ?_;refine A1 2 rfl (iC ⟨_, rfl, ?_⟩);refine ga [3] ?_;refine A1 4 rfl (iC ⟨_, rfl, ?_⟩);refine A2 5 rfl (cv Ql rfl rfl (Nq ((N : Int) - 1 - i)) (an .nil) ?_);refine A2 6 rfl (gD dE [.tmp 221, .tmp 226] bw ?_);refine A2 7 rfl (cv It rfl rfl (jY 3 [.mk kv mv' sv lv av, .mk 0 ((N : Int) - 1 - i) .empty [] []]) (an (bo .nil)) ?_);refine A2 8 rfl (dN bw ?_);refine aZ ?_;refine ke 2 [218, 217, 33, 30, 29, 27, 25, 24, 23, 22, 20, 19, 18, 16, 15, 14, 11, 8, 5, 2] 1 ?_;refine o1 (cG ?_);refine go 2 ?_;refine bk (i + 1, 3, 0, .empty, [], [.mk kv mv' sv lv av, .mk 0 ((N : Int) - 1 - i) .empty [] []]) rfl ?_ [0, 1, 2, 3, 4, 5, 6, 7, 8, 9, 10, 11] mz
              · refine ⟨⟨by omega, ?_⟩, show N - (i + 1) < N - i by omega⟩
                rw [hinv.2, show N - i = (N - (i + 1)) + 1 by omega, fh, show (((N - (i + 1) : Nat) : Int)) = (N : Int) - 1 - i by omega]
            refine kc 6 [33, 30, 29, 25, 24, 23, 22, 20, 19, 18, 16, 15, 14, 11, 8, 5, 2] 0 ?_; obtain rfl : i = N := (by omega)
            have hBB := hinv.2
            rw [Nat.sub_self, fh] at hBB
            rw [hBB] at hypE
            have hap := FC (gl := gl) k9 m9 s9 l9 a9 (us.drop P) (by rw [List.length_drop]; omega)
            obtain ⟨kw, mw, sw, lw, aw, hAp⟩ := ae.case (bt (.mk k9 m9 s9 l9 a9) (us.drop P))
            rw [hAp] at hap hypE
            have hyes := AT (nm := sd) (h := .mk 2 0 hn hus []) (f := az.take (P + 1 + cc.length)) (p := P) (pre := az.take P) (X := gh (bg (.mk k5 m5 s5 l5 a5)) (.mk k5 m5 s5 l5 a5)) (cs := cs) (j := j) (by omega) hAj hCj hAh
            rw [← hgv2, hypE, ← hHY] at hyes
            have hszY := hYz (j + 1) (iR xs6 (.mk 3 0 .empty [] [.mk kw mw sw lw aw, .mk kv mv' sv lv av])) (by omega) (by rw [hyes]; simp)
            have hszL := zF xs6 (.mk 3 0 .empty [] [.mk kw mw sw lw aw, .mk kv mv' sv lv av])
            have hwd := yU (gl := gl) 3 0 .empty [] [.mk kw mw sw lw aw, .mk kv mv' sv lv av] (by omega)
            have hbi := IA (gl := gl) 3 0 .empty [] [.mk kw mw sw lw aw, .mk kv mv' sv lv av] xs6 (by omega)
            obtain ⟨kz, mz', sz, lz, az', hLm⟩ := ae.case (iR xs6 (.mk 3 0 .empty [] [.mk kw mw sw lw aw, .mk kv mv' sv lv av]))
            rw [hLm] at hbi hyes
            have hnx : aH (cs.drop P ++ HY j) ++ [[.v (.int .i64 kz), .v (.int .i64 mz'), .v (.string sz), .sl 3 (bF lz), .sl 5 (aH az')]] = aH (cs.drop P ++ HY (j + 1)) := (by rw [hyes, ← List.append_assoc, dj (cs.drop P ++ HY j)]; rfl)
            have hol := aO (cs.drop P ++ HY j)
            have hol2 := hYl j
            rw [List.length_append] at hol
            refine gz [0, 1, 2] mixed ?_;refine A1 3 rfl (jH bB bH rfl rfl rfl rfl rfl rfl (by omega) (ki us P) ⟨_, rfl, ?_⟩);refine ga [5] ?_;refine A2 4 rfl (cv Rd rfl rfl (hap) (bo (an .nil)) ?_);refine A2 6 rfl (gD dE [.tmp 234, .tmp 235] bw ?_);refine A2 7 rfl (cv It rfl rfl (jY 3 [.mk kw mw sw lw aw, .mk kv mv' sv lv av]) (an (bo .nil)) ?_);refine A2 8 rfl (dN bw ?_);refine aZ ?_;refine ke 2 [30, 25, 24, 23, 22, 20, 19, 18, 16, 15, 14, 11, 8, 5, 2] 3 ?_;refine oc (cv Nf rfl rfl (hwd) (bo .nil) ?_);refine go 2 ?_;refine cf ?_;refine gc 6 ?_;refine oc (cv Qe rfl rfl (hbi) (an (an (bo .nil))) ?_);refine oc (gD dE [.tmp 245] bw ?_);refine oc (px dE ?_);refine ko 4 [23, 24, 22, 20, 19, 18, 16, 15, 14, 11, 8, 5, 2] 2 ?_;refine o1 (cG ?_);refine go 2 ?_;refine bk (j + 1) rfl ?_ ([0, 1, 2, 3, 4, 5, 6, 7]) ?_
            · exact ⟨⟨by omega, by omega⟩, by omega⟩
            · refine mo ?_ (aJ (ef rfl (by first | exact Fit.of_eq (by rw [hn1 (by simpa using h20)]; rfl) | exact Fit.of_eq (by rw [hnx]; rfl)) (aJ (aJ (aJ (aJ (aJ (aJ (aJ (aJ (aJ (aJ (aJ dC)))))))))))))
              repeat (first | exact cH | refine bj ?_ | refine cr ?_ | refine ia ?_)
end
section
open Go Go.Vd Go.RowKit
attribute [local irreducible] bu bA di ak bL cU
variable {g gl:Nat→List D}
structure sQ (es:List cy) (ps:List ByteArray) (c:Int) (most N:Nat) (o:qC) (q d:Nat) (h:ae) (az:List ae):Prop where
 qn:q≤N
 dm:d≤most
 rw:RW es most q (bt h az) d o
 hw:Wt (eh es) ps h c
 aw:∀x∈az,Wt (eh es) ps x c
 sz:(bt h az).size+30000*(most-d)≤1000000000000
variable {es:List cy} {ps:List ByteArray} {c:Int} {most N q d:Nat} {o:qC} {h:ae} {az:List ae}
theorem sQ.part(H:sQ es ps c most N o q d h az):h.size+aj az+az.length≤1000000000000∧∀x∈az,x.size+30000*(most-d)≤1000000000000:=by
 have h1:=cB h az;have h2:=H.sz;refine⟨by omega,fun x hx=>?_⟩;obtain⟨i,hi⟩:=List.getElem?_of_mem hx;have:=bG hi;omega
variable {h':ae}
theorem sQ.step{q':Nat}{az':List ae}(H:sQ es ps c most N o q d h az)(hq:q'<q)(hd:d<most)(hz:h'.size≤20000)(hrw:RW es most q' (bt h' az') (d+1) o)(hw:Wt (eh es) ps h' c)(ha:∀x∈az',x∈az)(hl:aj az'+az'.length≤aj az+az.length):
 sQ es ps c most N o q' (d+1) h' az':=by
 have h1:=cB h az;have h2:=cB h' az';have h3:=H.sz;have h4:=H.qn;exact⟨by omega,by omega,hrw,hw,fun x hx=>H.aw x (ha x hx),by omega⟩
theorem sQ.spine{es:List cy}{ps:List ByteArray}{c:Int}{most N q d:Nat}{o:qC}{h:ae}{az:List ae}(H:sQ es ps c most N o q d h az):sQ es ps c most N o q d (bf h).1 ((bf h).2++az)∧rh h:=by
 obtain⟨h1,h2,h3,h4⟩:=Wt.spine _ (Nat.le_refl _) H.hw;have e:bt (bf h).1 ((bf h).2++az)=bt h az:=by rw[uU,h4]
 exact⟨⟨H.qn,H.dm,by rw[e];exact H.rw,h2,fun x hx=>by rcases List.mem_append.1 hx with hx|hx;exact h3 x hx;exact H.aw x hx,by rw[e];exact H.sz⟩,h1⟩
structure Mt (es:List cy) (ps:List ByteArray) (c:Int) (most N:Nat) (o:qC) (q0:Nat) (h0:ae) (az:List ae) (i q d:Nat) (h:ae):Prop where
 il:i≤az.length
 st:sQ es ps c most N o q d (eW h (az.take i)) (az.drop i)
 ha:∀x∈az,Wt (eh es) ps x c
 hw:Wt (eh es) ps h (c+i)
 hz:h.size≤h0.size
 ez:i=0→ae.kd h=4∧0<az.length∧q=q0
 nz:0<i→(eW h (az.take i)).size≤20000∧q<q0
theorem JY(A b:ae)(vs:List ae):eW (.mk 4 0 .empty [] [A,b]) vs=.mk 4 0 .empty [] [b0 (gd vs) A 0,b0 (gd vs) b 1]:=by
 rw[ju,b0,if_neg (by decide)];rfl
variable {n:Int} {s:ByteArray} {args:List ae}
theorem Mt.next(hc:0≤c){q0 i:Nat}{h0:ae}{ls:List aP}(L:Mt es ps c most N o q0 h0 az i q d (.mk 4 n s ls args))(hi:i<az.length):
 ∃(k' n':Int) (s':ByteArray) (l':List aP) (a':List ae) (A:ae) (q':Nat),args=[A,.mk k' n' s' l' a']∧q=q'+1∧(most≤d→o=.cI)∧(d<most→Mt es ps c most N o q0 h0 az (i+1) q' (d+1) (.mk k' n' s' l' a')):=by
 obtain⟨A,⟨k',n',s',l',a'⟩,rfl,rfl,rfl,rfl,hA,hB⟩:=L.hw.two (.inr (.inl rfl));rw[if_neg (by decide)] at hB;have hget:az[i]? =some az[i]:=List.getElem?_eq_getElem hi;have hdr:az.drop i=az[i]::az.drop (i+1):=List.drop_eq_getElem_cons hi;have hR:=L.st.rw;rw[JY,hdr] at hR;obtain⟨q',rfl,h3⟩:=OI hR (u7 (by simp[ae.kd]) _);have hsub:dp (b0 (gd (az.take i)) (.mk k' n' s' l' a') 1) az[i]=eW (.mk k' n' s' l' a') (az.take (i+1)):=by
  rw[List.take_add_one,hget,Option.toList_some,←CT];rfl
 rw[hsub] at h3;refine⟨k',n',s',l',a',A,q',rfl,rfl,fun hm=>?_,fun hm=>?_⟩
 ·rcases h3 with⟨_,h4⟩|⟨h4,_⟩
  ·exact h4
  ·omega
 ·rcases h3 with⟨h4,_⟩|⟨_,h4,h5⟩
  ·omega
  ·have hx:Wt (eh es) ps (.mk k' n' s' l' a') (c+((i+1:Nat):Int)):=by rw[show c+((i+1:Nat):Int)=c+(i:Int)+1 by omega];exact hB
   have hwI:Wt (eh es) ps (eW (.mk k' n' s' l' a') (az.take (i+1))) c:=by
    have h6:=Wt.gp hc (fun x hx=>L.ha x (List.mem_of_mem_take hx)) (given:=az.take (i+1)) (az.take (i+1)).length (Nat.le_refl _) (t:=.mk k' n' s' l' a') (by rw[List.length_take,Nat.min_eq_left (by omega)];exact hx);rw[qm _ _ _ (Nat.le_refl _),List.take_length] at h6;exact h6
   have hsz:aj (az.drop i)=az[i].size+aj (az.drop (i+1)):=by rw[hdr,aj]
   have hL:=L.st.step (q':=q') (h':=eW (.mk k' n' s' l' a') (az.take (i+1))) (az':=az.drop (i+1)) (by omega) hm h4 h5 hwI (fun x hx=>by rw[hdr];exact List.mem_cons_of_mem _ hx) (by rw[List.length_drop,List.length_drop];omega);have h7:=L.hz;simp only[ae.size,aj] at h7;refine⟨hi,hL,L.ha,hx,by simp only[ae.size];omega,fun h=>by omega,fun _=>⟨h4,?_⟩⟩;rcases Nat.eq_zero_or_pos i with h8|h8
   ·have:=(L.ez h8).2.2;omega
   ·have:=(L.nz h8).2;omega
theorem Wt.wy{sg:Sg}:∀(n:Nat) {t:ae} {c:Int},t.size≤n→Wt sg ps t c→¬ae.kd (bf t).1=3:=by
 intro n
 induction n with
 |zero=>intro t c h;obtain⟨k,m,s,ls,args,rfl⟩:=ae.case t;simp[ae.size] at h
 |succ n ih=>
  intro t c h hw;obtain⟨k,m,s,ls,args,rfl⟩:=ae.case t
  by_cases hk:k=3
  ·subst hk;obtain⟨a,b,rfl,_,_,_,ha,hb⟩:=hw.two (.inl rfl);simp only[ae.size,aj] at h;rw[jh];exact ih (by omega) ha
  ·rw [kH hk];exact hk
theorem LG(hF:fX es){us:List aP}(hw:Wt (eh es) ps (.mk 2 n s us args) c):n=0∧args=[]∧JX ((fL es s).getD (.v (.pointer none)))=true∧∀k e j,bM s es=(k,e,j)→(k=2→e.d.ps.length=us.length)∧(k=5→e.rp.length=us.length):=by
 rcases hw.2.2 with h|h|h|h|h
 ·omega
 ·omega
 ·obtain ⟨_,h1,h2,h3⟩:=h;refine⟨h1,List.eq_nil_of_length_eq_zero h3,?_,fun k e j hf=>?_⟩
  ·cases hc:JX ((fL es s).getD (.v (.pointer none))) with
   |true=>rfl
   |false=>
    have h4:=tC hF hc;unfold eh ir at h2;simp only[h4,if_true,Option.map_none] at h2;cases h2
  ·unfold eh ir at h2;rw[hf] at h2;simp only at h2;refine⟨fun hk=>?_,fun hk=>?_⟩
   ·subst hk;rw[if_neg (by decide),if_neg (by decide),if_neg (by decide)] at h2
    simpa using h2
   ·subst hk;rw[if_neg (by decide),if_neg (by decide),if_pos rfl] at h2
    simpa using h2
 ·omega
 ·omega
theorem yh.ret{es:List cy}{most:Nat}{pr:Int}{k1 m1:Int}{s1:ByteArray}{l1:List aP}{a1 az:List ae}{io:FL}{v:SV}{ob':List Ob}(h:yh es most pr (.mk k1 m1 s1 l1 a1) az io (.ret v) ob'):∃(k m:Int) (s:ByteArray) (ls:List aP) (args ws:List ae) (b:Bool) (d2:Nat),v=.d (.bZ [(ae.mk k m s ls args).d,.sl 5 (aH ws),.v (.bool b)])∧ob'=eQ es d2 most pr∧
 (b=false→io=.stuck d2∧ae.mk k m s ls args=.mk k1 m1 s1 l1 a1∧ws=az)∧(b=true→io=.step (bt (.mk k m s ls args) ws) d2):=by
 cases io with
 |step u d1=>obtain⟨k,m,s,ls,args,ws,rfl,h2,h3⟩:=h;cases h2;exact⟨k,m,s,ls,args,ws,true,d1,rfl,h3,fun h=>(by cases h),fun _=>rfl⟩
 |stuck d1=>obtain⟨h2,h3⟩:=h;cases h2;exact⟨k1,m1,s1,l1,a1,az,false,d1,rfl,h3,fun _=>⟨rfl,rfl,rfl⟩,fun h=>by cases h⟩
 |cI=>obtain⟨_,h1,_⟩:=h;cases h1
theorem yh.pz{es:List cy}{most:Nat}{pr:Int}{h0:ae}{az:List ae}{io:FL}{v:SV}{ob':List Ob}(h:yh es most pr h0 az io (.pz v) ob'):∃d',io=.cI∧v=.d wq∧ob'=eQ es d' most pr:=by
 cases io with
 |step u d1=>obtain⟨_,_,_,_,_,_,_,h2,_⟩:=h;cases h2
 |stuck d1=>obtain⟨h2,_⟩:=h;cases h2
 |cI=>obtain⟨d',h1,h2⟩:=h;cases h1;exact⟨d',rfl,rfl,h2⟩
theorem sQ.iota(hE:dg es)(hc:0≤c){d2:Nat}(hm:most≤1000000){e:cy}(H:sQ es ps c most N o (q+1) d h az)(he:e∈es)(hk:e.d.k=3){ws:List ae}(hRI:RI es most (RW es most q) e h az d (.step (bt h' ws) d2))(hr:RW es most q (bt h' ws) d2 o):
 sQ es ps c most N o q d2 h' ws∧h'.size≤20000:=by
 obtain⟨h1,h2,h3,h4⟩:=KU hE hc he hk H.hw H.aw H.dm hRI;obtain⟨h5,h6⟩:=h1.FQ;have h7:=cB h' ws;have h8:=H.qn;exact⟨⟨by omega,h3,hr,h5,h6,by omega⟩,by omega⟩
set_option maxHeartbeats 3200000 in
theorem HB(hFE:fX es)(hcc:0≤c∧c≤1000000000)(hm:most≤1000000)(ih:∀n,n<N→GV gl es ps c most n):GV gl es ps c most N:=by
 intro k m s ls args d0 o pr hdm0 hR0 hz0 hw0;have hE:=hFE.ok;obtain⟨hok0,hH0,hA0,hsp0⟩:=Wt.spine _ (Nat.le_refl _) hw0;have hsz0:=dQ _ (.mk k m s ls args) (Nat.le_refl _);have hkd0:=Wt.wy _ (Nat.le_refl _) hw0;rcases hS0:bf (.mk k m s ls args) with⟨⟨k0,m0,s0,l0,a0⟩,az0⟩;have hl0:=br az0;rw[hS0] at hH0 hA0 hsp0 hsz0 hkd0;dsimp only at hH0 hA0 hsp0 hsz0;have hspn:=u9 (gl:=gl) k m s ls args hok0 (by rw[hS0];dsimp only;omega);rw[hS0] at hspn;dsimp only at hspn;have hI0:sQ es ps c most N o N d0 (.mk k0 m0 s0 l0 a0) az0:=⟨Nat.le_refl _,hdm0,by rw[hsp0];exact hR0,hH0,hA0,by rw[hsp0];exact hz0⟩;unfold eQ;refine bS Tryz.func68 Tryz.ntmps68 4 ?_;refine gc 10 ?_;refine oc (cv KJ rfl rfl (hspn) (bo .nil) ?_);refine ko 9 [7,6,4,0] 0 ?_;refine lp (ι:=Nat×Nat×Int×Int×ByteArray×List aP×List ae×List ae) (fun⟨q,d1,k1,m1,s1,l1,a1,az⟩=>[(7,.d (.sl 5 (aH az)))]) (fun⟨q,d1,k1,m1,s1,l1,a1,az⟩=>[pE (es.map (·.d)),dR,.cV (fL es),mO d1 most pr,tO k m s ls args,zO,tO k1 m1 s1 l1 a1]) [6,4,0] (fun⟨q,d1,k1,m1,s1,l1,a1,az⟩=>sQ es ps c most N o q d1 (.mk k1 m1 s1 l1 a1) az∧¬k1=3) (fun⟨q,d1,k1,m1,s1,l1,a1,az⟩=>q) ((N,d0,k0,m0,s0,l0,a0,az0)) ([0,1,2,3,4,5,6]) rfl ?I3 ?M3 ?H3
 case I3=>
  exact⟨hI0,hkd0⟩
 case M3=>
  exact mz
 case H3=>
  rintro⟨q,d1,k1,m1,s1,l1,a1,az⟩ hinv
  try dsimp only at hinv
  obtain⟨hI,hk3⟩:=hinv;have hal:=aO az;have hll:=bV l1;obtain⟨hpt,hpe⟩:=hI.part;have hazl:=br az;have hsp1:=u7 (h:=.mk k1 m1 s1 l1 a1) hk3 az;have hdm1:=hI.dm;have hend:o=.ok (bt (.mk k1 m1 s1 l1 a1) az) d1→Al es most pr o (.ret (.d (.bZ [(ae.mk k1 m1 s1 l1 a1).d,.sl 5 (aH az)]))) (eQ es d1 most pr):=fun h=>by rw[h];exact⟨_,_,_,_,_,_,hsp1,rfl,rfl⟩
  refine kc 0 [7,6,4,0] 2 ?_;refine xo (ι:=Nat×Nat×Int×Int×ByteArray×List aP×List ae×List ae) (fun⟨q2,d2,k2,m2,s2,l2,a2,ws⟩=>[(7,.d (.sl 5 (aH ws)))]) (fun⟨q2,d2,k2,m2,s2,l2,a2,ws⟩=>[pE (es.map (·.d)),dR,.cV (fL es),mO d2 most pr,tO k m s ls args,zO,tO k2 m2 s2 l2 a2]) [6,4,0] (fun⟨q2,d2,k2,m2,s2,l2,a2,ws⟩=>sQ es ps c most N o q2 d2 (.mk k2 m2 s2 l2 a2) ws∧(ae.mk k2 m2 s2 l2 a2).size≤20000∧q2<q) rfl ?A4 ?B4
  case A4=>
   refine gc 7 ?_;refine' oa (yt:=27) (d:=24) 3 ?a1 ?b1 ?_
   case a1=>
    intro hc hK;refine go 3 ?_;exact hK [_,_,_] rfl rfl
   case b1=>
    intro _ hK;refine go 3 ?_;exact hK [_,_,_] rfl
   refine go 3 ?_;refine cj (fun h3=>?_) (fun h3=>?_)
   ·refine kc 1 [7,6,4,0] 0 ?_;have hk4:k1=4:=(by omega);have haz:0<az.length:=(by omega);subst hk4;refine gc 6 ?_;refine lp (ι:=Nat×Nat×Nat×Int×Int×ByteArray×List aP×List ae) (fun⟨i,q1,d2,kL,mL,sL,lL,aL⟩=>[(8,int i)]) (fun⟨i,q1,d2,kL,mL,sL,lL,aL⟩=>[pE (es.map (·.d)),dR,.cV (fL es),mO d2 most pr,tO k m s ls args,zO,tO kL mL sL lL aL]) [7,6,4,0] (fun⟨i,q1,d2,kL,mL,sL,lL,aL⟩=>Mt es ps c most N o q (.mk 4 m1 s1 l1 a1) az i q1 d2 (.mk kL mL sL lL aL)) (fun⟨i,q1,d2,kL,mL,sL,lL,aL⟩=>az.length-i) ((0,q,d1,4,m1,s1,l1,a1)) ([0,1,2,3,4,5,6]) rfl ?I5 ?M5 ?H5
    case I5=>
     exact⟨Nat.zero_le _,by rw[List.take_zero];exact hI,hI.aw,by simpa using hI.hw,Nat.le_refl _,fun _=>⟨rfl,haz,rfl⟩,fun h=>absurd h (Nat.lt_irrefl 0)⟩
    case M5=>
     exact mz
    case H5=>
     rintro⟨i,q1,d2,kL,mL,sL,lL,aL⟩ hinv
     try dsimp only at hinv
     refine kc 0 [8,7,6,4,0] 7 ?_;refine' oa (yt:=36) (d:=32) 4 ?a2 ?b2 ?_
     case a2=>
      intro hc hK;refine go 4 ?_;exact hK [_,_,_,_] rfl rfl
     case b2=>
      intro _ hK;refine go 4 ?_;exact hK [_,_,_,_] rfl
     refine go 2 ?_;refine cj (fun h5=>?_) (fun h5=>?_)
     ·refine kc 4 [8,7,6,4,0] 0 ?_;have hkL:kL=4:=(by omega);have hil:i<az.length:=(by omega);subst hkL;obtain⟨kb,mb,sb,lb,ab,A,q',rfl,rfl,ht,hok⟩:=hinv.next hcc.1 hil;refine gc 2 ?_;refine oc (aN GM rfl rfl rfl rfl (oV es d2 most pr (by omega)) [0,1,2,3] (bj (cr (.cons rfl .cV (bj .nil)))) rfl rfl rfl rfl (an .nil) (fun s ob' hq=>?_) (fun s ob' hq=>?_))
      rotate_left
      ·rcases hq with⟨_,hq1,_⟩|⟨hle,hq1,rfl⟩
       ·cases hq1
       cases hq1;refine⟨_,_,_,_,_,rfl,rfl,rfl,rfl,rfl,?_⟩;refine jA ([0,1,2,3]) (eQ es d2 most pr) rfl rfl rfl (by repeat (first|exact cH|refine bj ?_|refine cr ?_|refine ia ?_)) ?_;rw[ht hle];exact⟨_,rfl,rfl⟩
      rcases hq with⟨hlt,hq1,rfl⟩|⟨_,hq1,_⟩;rotate_left
      ·cases hq1
      cases hq1;refine⟨_,_,_,_,_,rfl,rfl,rfl,rfl,rfl,?_⟩;refine go 6 ?_;refine o1 (cu bB bH ?_ (he:=by exact(rfl)));refine ko 4 [8,7,6,4,0] 2 ?_;refine o1 (cG ?_);refine go 3 ?_;refine bk (i+1,q',d2+1,kb,mb,sb,lb,ab) rfl ?_ [0,1,2,3,4,5,6] mz;exact⟨hok hlt,show az.length-(i+1)<az.length-i by omega⟩
     refine kc 6 [8,7,6,4,0] 0 ?_;have hL:=hinv;have hi0:0<i:=(by
      rcases Nat.eq_zero_or_pos i with h|h
      ·have h9:=hL.ez h;have h10:kL=4:=h9.1;omega
      ·exact h)
     have hil:=hL.il;have htl:(az.take i).length=i:=(by rw[List.length_take];omega);have hhz:=hL.hz;have hins:=zJ (gl:=gl) (B:=1099511627776) (Int.le_refl _) (az.take i) (fun v hv=>⟨(hI.aw v (List.mem_of_mem_take hv)).num (by have:=hpe v (List.mem_of_mem_take hv);omega),by have:=hpe v (List.mem_of_mem_take hv);omega⟩) (by omega) kL mL sL lL aL (hL.hw.num (by omega)) (by omega);obtain⟨kI,mI,sI,lI,aI,hT1⟩:=ae.case (eW (.mk kL mL sL lL aL) (az.take i))
     rw[hT1] at hins;refine gz [0,1,2] mixed ?_;refine A1 3 rfl (fD bB bH rfl rfl rfl rfl rfl rfl (by omega) (gr az i) ⟨_,rfl,?_⟩);refine A2 4 rfl (cv GK rfl rfl (hins) (bo (an .nil)) ?_);refine A2 5 rfl (dN bw ?_);refine aZ ?_;refine ke 1 [8,7,6,4,0] 3 ?_;refine o1 (jH bB bH rfl rfl rfl rfl rfl rfl (by omega) (ki az i) ?_);refine go 3 ?_;refine bk (q1,d2,kI,mI,sI,lI,aI,az.drop i) rfl ?_ [0,1,2,3,4,5,6] mz;exact⟨by rw[← hT1];exact hL.st,by rw[← hT1];exact(hL.nz hi0).1,(hL.nz hi0).2⟩
   refine kc 0 [7,6,4,0] 8 ?_;refine cj (fun h11=>?_) (fun h11=>?_)
   ·refine kc 1 [7,6,4,0] 0 ?_;have hk6:k1=6:=(by omega);subst hk6;obtain⟨A,⟨kv,nv,sv,lv,av⟩,⟨kb,nb,sb,lb,ab⟩,rfl,rfl,rfl,rfl,hA,hV,hB⟩:=hI.hw.three rfl;obtain⟨q',rfl,hst⟩:=OH hI.rw hsp1;simp only[ae.size,aj] at hpt;have hsu:=DW (gl:=gl) (B:=1099511627776) (Int.le_refl _) kv nv sv lv av (hV.num (by simp only[ae.size];omega)) (by simp only[ae.size];omega) kb nb sb lb ab (hB.num (by simp only[ae.size];omega)) (by simp only[ae.size];omega);obtain⟨kI,mI,sI,lI,aI,hT1⟩:=ae.case (dp (.mk kb nb sb lb ab) (.mk kv nv sv lv av))
    rw[hT1] at hsu hst;refine gc 2 ?_;refine oc (aN GM rfl rfl rfl rfl (oV es d1 most pr (by omega)) [0,1,2,3] (bj (cr (.cons rfl .cV (bj .nil)))) rfl rfl rfl rfl (an .nil) (fun s ob' hq=>?_) (fun s ob' hq=>?_));rotate_left
    ·rcases hq with⟨_,hq1,_⟩|⟨hle,hq1,rfl⟩
     ·cases hq1
     cases hq1;refine⟨_,_,_,_,_,rfl,rfl,rfl,rfl,rfl,?_⟩;refine jA ([0,1,2,3]) (eQ es d1 most pr) rfl rfl rfl (by repeat (first|exact cH|refine bj ?_|refine cr ?_|refine ia ?_)) ?_;rcases hst with⟨_,h9⟩|⟨h9,_⟩;rw[h9];exact⟨_,rfl,rfl⟩;omega
    rcases hq with⟨hlt,hq1,rfl⟩|⟨_,hq1,_⟩;rotate_left
    ·cases hq1
    cases hq1;obtain⟨hq4,hq5⟩:=(show(ae.mk kI mI sI lI aI).size≤20000∧RW es most q' (bt (.mk kI mI sI lI aI) az) (d1+1) o from by rcases hst with⟨h9,_⟩|⟨_,h9,h10⟩;omega;exact⟨h9,h10⟩);refine⟨_,_,_,_,_,rfl,rfl,rfl,rfl,rfl,?_⟩;refine go 2 ?_;refine gz [0,1] mixed ?_;refine A1 2 rfl (cu bB bH ⟨_,rfl,?_⟩ (he:=by exact(rfl)));refine ga [3,4,5] ?_;refine A1 6 rfl (cu bB bH ⟨_,rfl,?_⟩ (he:=by exact(rfl)));refine ga [7] ?_;refine A2 8 rfl (cv Qn rfl rfl (hsu) (bo (bo .nil)) ?_);refine A2 9 rfl (dN bw ?_);refine aZ ?_;refine ge 1 ?_;refine bk (q',d1+1,kI,mI,sI,lI,aI,az) rfl ?_ [0,1,2,3,4,5,6] mz;exact⟨hI.step (by omega) hlt hq4 hq5 (by rw[← hT1];exact Wt.sub hcc.1 hB hV) (fun x hx=>hx) (Nat.le_refl _),hq4,by omega⟩
   refine kc 0 [7,6,4,0] 8 ?_;refine cJ (fun h14=>?_) (fun h14=>?_)
   ·refine kc 0 [7,6,4] 14 ?_;refine eo (.bZ [(ae.mk k1 m1 s1 l1 a1).d,.sl 5 (aH az)]) [0,1,2,3] (eQ es d1 most pr) ?_
    ·refine hend (DG hI.rw hsp1 ⟨fun h=>?_,fun h=>?_,fun s us h=>?_⟩)
     ·have h9:k1=4:=h.1;have h10:0<az.length:=List.length_pos_iff.2 h.2;omega
     ·have h9:k1=6:=h;omega
     ·simp only[ae.mk.injEq] at h;omega
   refine kc 1 [7,6,4,0] 0 ?_;have hk2:k1=2:=(by omega);subst hk2;obtain⟨rfl,rfl,hcp,hlens⟩:=LG hFE hI.hw;obtain⟨kg,sg',pg,u1,v1,x1,y1,z1,u2,v2,x2,y2,z2,ag,cg,rg,rt',jf,kf,pf,kK,mK,sK,lK,aK,nf,hm1,hF,hF2,hF5,_⟩:=CJ hFE hcp;obtain⟨hle2,hle5⟩:=hlens _ _ _ hF;have hpl:=cQ pf;have hdef:kf-1=1→(strs pf).length=(bF l1).length:=(fun h=>by
    have h9:kf=2:=(by omega);rw[hpl,hll,hF2 h9];exact hle2 h9)
   have hrec:kf-1=4→(strs pf).length=(bF l1).length:=(fun h=>by
    have h9:kf=5:=(by omega);rw[hpl,hll,hF5 h9];exact hle5 h9)
   refine gz [0,1,2,3,4,5,6,7,8] mixed ?_;refine A2 (T:=fun _=>False) 9 rfl (wV CB rfl rfl rfl rfl rfl rfl ?_);rw[hm1];refine ga [10] ?_;refine aZ ?_;refine ke 3 [9,7,6,4,0] 0 ?_;refine xo (ι:=Bool) (fun b=>[(85,.d (.v (.bool b)))]) (fun b=>[pE (es.map (·.d)),dR,.cV (fL es),mO d1 most pr,tO k m s ls args,zO,tO 2 0 s1 l1 []]) [9,7,6,4,0] (fun b=>(b=true↔kf=2)) rfl ?A6 ?B6
   case A6=>
    refine gz [0] mixed ?_;refine A1 1 rfl (xI IP rfl rfl ⟨_,rfl,?_⟩);refine ga [2] ?_;refine Fw 88 (fun hc=>?_) (fun hc=>?_)
    ·simp only[du,Int.reduceEq,Int.reduceNe,Int.reduceLT,Int.reduceLE] at hc
    (try simp only[du,Int.reduceEq,Int.reduceNe,Int.reduceLT,Int.reduceLE] at hc);refine A6 3 rfl (mv ⟨_,rfl,?_⟩);refine A6 4 rfl (LD ⟨_,rfl,?_⟩);refine A6 5 rfl (K5 rv ⟨_,rfl,?_⟩);refine A6 6 rfl (JR BA ⟨_,rfl,?_⟩);refine A6 7 rfl (PA ⟨_,rfl,?_⟩);refine A1 8 rfl (fF ⟨_,rfl,?_⟩);refine ga [9] ?_;refine Fw 95 (fun hc=>?_) (fun hc=>?_)
    ·(try simp only[du,Int.reduceEq,Int.reduceNe,Int.reduceLT,Int.reduceLE] at hc)
     refine A7 10 rfl ?_ (hlit:=by exact(.inl rfl));refine A7 11 rfl ?_ (hlit:=by exact(.inl rfl));refine A7 12 rfl ?_ (hlit:=by exact(.inl rfl));refine A7 13 rfl ?_ (hlit:=by exact(.inl rfl));refine A7 14 rfl ?_ (hlit:=by exact(.inl rfl));refine A7 15 rfl ?_ (hlit:=by exact(.inl rfl));refine A7 16 rfl ?_ (hlit:=by exact(.inl rfl));refine A7 17 rfl ?_ (hlit:=by exact(.inl rfl));refine A7 18 rfl ?_ (hlit:=by exact(.inl rfl));refine A1 19 rfl (jI ⟨_,rfl,?_⟩);refine ga [20] ?_;refine aZ ?_;refine bk (false) rfl ?_ ([0,1,2,3,4,5,6]) ?_
     ·exact ⟨fun h=>(by cases h),fun h=>(by omega)⟩
     ·refine mo ?_ (ef rfl (by first|exact .refl _|exact Fit.of_eq (by rw[decide_eq_true (by have:=hdef (by omega);omega)];rfl)) (aJ (aJ (aJ (aJ (aJ dC))))))
      repeat (first|exact cH|refine bj ?_|refine cr ?_|refine ia ?_)
    (try simp only[du,Int.reduceEq,Int.reduceNe,Int.reduceLT,Int.reduceLE] at hc);refine A6 10 rfl (mv ⟨_,rfl,?_⟩);refine A6 11 rfl (LD ⟨_,rfl,?_⟩);refine A6 12 rfl (K5 rv ⟨_,rfl,?_⟩);refine A6 13 rfl (JR G5 ⟨_,rfl,?_⟩);refine A6 14 rfl (Pu pN ⟨_,rfl,?_⟩);refine A6 15 rfl (OX bw ⟨_,rfl,?_⟩);refine A6 16 rfl (DJ vH ⟨_,rfl,?_⟩);refine A6 17 rfl (Pu fo ⟨_,rfl,?_⟩);refine A6 18 rfl (PA ⟨_,rfl,?_⟩);refine A1 19 rfl (fF ⟨_,rfl,?_⟩);refine ga [20] ?_;refine aZ ?_;refine bk (true) rfl ?_ ([0,1,2,3,4,5,6]) ?_
    ·exact ⟨fun _=>(by omega),fun _=>rfl⟩
    ·refine mo ?_ (ef rfl (by first|exact .refl _|exact Fit.of_eq (by rw[decide_eq_true (by have:=hdef (by omega);omega)];rfl)) (aJ (aJ (aJ (aJ (aJ dC))))))
     repeat (first|exact cH|refine bj ?_|refine cr ?_|refine ia ?_)
   case B6=>
    rintro b hcut
    try dsimp only at hcut
    have hcut17:=hcut;refine kp [85,9,7,6,4,0] ?_;refine cj (fun h17=>?_) (fun h17=>?_)
    ·refine gc 1 ?_;have hk2:kf=2:=hcut.1 h17;subst hk2;have hpf:pf=pg:=hF2 rfl;rw[hpf];have hle2':pg.length=l1.length:=hle2 rfl;have hem:=hZ hF (by decide);have hent:=hE.xP _ hem;have hvl:=hent.vl (show kg=2 from by
      rcases gJ hF (by decide) with h9|h9|h9
      ·exact h9.symm
      ·omega
      ·omega)
     simp only[dP.ps,dP.vl] at hvl;have hps6:=hent.ps;simp only[dP.ps] at hps6;obtain⟨q',rfl,hst⟩:=OJ hI.rw hsp1 hF hle2';simp only[dP.ps,dP.vl] at hst;have hlv:=rz (gl:=gl) pg l1 (by omega) (by omega) u2 v2 x2 y2 z2 (by omega);obtain⟨kI,mI,sI,lI,aI,hT1⟩:=ae.case (ew pg l1 (.mk u2 v2 x2 y2 z2))
     rw[hT1] at hlv hst;refine gc 2 ?_;refine oc (aN GM rfl rfl rfl rfl (oV es d1 most pr (by omega)) [0,1,2,3] (bj (cr (.cons rfl .cV (bj .nil)))) rfl rfl rfl rfl (an .nil) (fun s ob' hq=>?_) (fun s ob' hq=>?_));rotate_left
     ·rcases hq with⟨_,hq1,_⟩|⟨hle,hq1,rfl⟩
      ·cases hq1
      cases hq1;refine⟨_,_,_,_,_,rfl,rfl,rfl,rfl,rfl,?_⟩;refine jA ([0,1,2,3]) (eQ es d1 most pr) rfl rfl rfl (by repeat (first|exact cH|refine bj ?_|refine cr ?_|refine ia ?_)) ?_;rcases hst with⟨_,h9⟩|⟨h9,_⟩;rw[h9];exact⟨_,rfl,rfl⟩;omega
     rcases hq with⟨hlt,hq1,rfl⟩|⟨_,hq1,_⟩;rotate_left
     ·cases hq1
     cases hq1;obtain⟨hq4,hq5⟩:=(show(ae.mk kI mI sI lI aI).size≤20000∧RW es most q' (bt (.mk kI mI sI lI aI) az) (d1+1) o from by rcases hst with⟨h9,_⟩|⟨_,h9,h10⟩;omega;exact⟨h9,h10⟩);refine⟨_,_,_,_,_,rfl,rfl,rfl,rfl,rfl,?_⟩;refine go 2 ?_;refine gz [0,1,2,3,4,5,6,7,8,9,10,11,12] mixed ?_;refine A2 13 rfl (cv GJ rfl rfl (hlv) (bo (an (an .nil))) ?_);refine A2 14 rfl (dN bw ?_);refine aZ ?_;refine ge 2 ?_;refine bk (q',d1+1,kI,mI,sI,lI,aI,az) rfl ?_ [0,1,2,3,4,5,6] mz;exact⟨hI.step (by omega) hlt hq4 hq5 (by rw[← hT1];exact(hvl.1.IJ (by omega) hI.hw.1).up hcc.1) (fun x hx=>hx) (Nat.le_refl _),hq4,by omega⟩
    refine kc 1 [9,7,6,4,0] 0 ?_;refine xo (ι:=Bool) (fun b=>[(122,.d (.v (.bool b)))]) (fun b=>[pE (es.map (·.d)),dR,.cV (fL es),mO d1 most pr,tO k m s ls args,zO,tO 2 0 s1 l1 []]) [9,7,6,4,0] (fun b=>(b=true↔kf=5)) rfl ?A7 ?B7
    case A7=>
     refine gz [0] mixed ?_;refine A1 1 rfl (xI IP rfl rfl ⟨_,rfl,?_⟩);refine ga [2] ?_;refine Fw 125 (fun hc=>?_) (fun hc=>?_)
     ·simp only[du,Int.reduceEq,Int.reduceNe,Int.reduceLT,Int.reduceLE] at hc
     (try simp only[du,Int.reduceEq,Int.reduceNe,Int.reduceLT,Int.reduceLE] at hc);refine A6 3 rfl (mv ⟨_,rfl,?_⟩);refine A6 4 rfl (LD ⟨_,rfl,?_⟩);refine A6 5 rfl (K5 rv ⟨_,rfl,?_⟩);refine A6 6 rfl (JR BA ⟨_,rfl,?_⟩);refine A6 7 rfl (PA ⟨_,rfl,?_⟩);refine A1 8 rfl (fF ⟨_,rfl,?_⟩);refine ga [9] ?_;refine Fw 132 (fun hc=>?_) (fun hc=>?_)
     ·(try simp only[du,Int.reduceEq,Int.reduceNe,Int.reduceLT,Int.reduceLE] at hc)
      refine A7 10 rfl ?_ (hlit:=by exact(.inl rfl));refine A7 11 rfl ?_ (hlit:=by exact(.inl rfl));refine A7 12 rfl ?_ (hlit:=by exact(.inl rfl));refine A7 13 rfl ?_ (hlit:=by exact(.inl rfl));refine A7 14 rfl ?_ (hlit:=by exact(.inl rfl));refine A7 15 rfl ?_ (hlit:=by exact(.inl rfl));refine A7 16 rfl ?_ (hlit:=by exact(.inl rfl));refine A7 17 rfl ?_ (hlit:=by exact(.inl rfl));refine A7 18 rfl ?_ (hlit:=by exact(.inl rfl));refine A1 19 rfl (jI ⟨_,rfl,?_⟩);refine ga [20] ?_;refine aZ ?_;refine bk (false) rfl ?_ ([0,1,2,3,4,5,6]) ?_
      ·exact ⟨fun h=>(by cases h),fun h=>(by omega)⟩
      ·refine mo ?_ (ef rfl (by first|exact .refl _|exact Fit.of_eq (by rw[decide_eq_true (by have:=hrec (by omega);omega)];rfl)) (aJ (aJ (aJ (aJ (aJ dC))))))
       repeat (first|exact cH|refine bj ?_|refine cr ?_|refine ia ?_)
     (try simp only[du,Int.reduceEq,Int.reduceNe,Int.reduceLT,Int.reduceLE] at hc);refine A6 10 rfl (mv ⟨_,rfl,?_⟩);refine A6 11 rfl (LD ⟨_,rfl,?_⟩);refine A6 12 rfl (K5 rv ⟨_,rfl,?_⟩);refine A6 13 rfl (JR G5 ⟨_,rfl,?_⟩);refine A6 14 rfl (Pu pN ⟨_,rfl,?_⟩);refine A6 15 rfl (OX bw ⟨_,rfl,?_⟩);refine A6 16 rfl (DJ vH ⟨_,rfl,?_⟩);refine A6 17 rfl (Pu fo ⟨_,rfl,?_⟩);refine A6 18 rfl (PA ⟨_,rfl,?_⟩);refine A1 19 rfl (fF ⟨_,rfl,?_⟩);refine ga [20] ?_;refine aZ ?_;refine bk (true) rfl ?_ ([0,1,2,3,4,5,6]) ?_
     ·exact ⟨fun _=>(by omega),fun _=>rfl⟩
     ·refine mo ?_ (ef rfl (by first|exact .refl _|exact Fit.of_eq (by rw[decide_eq_true (by have:=hrec (by omega);omega)];rfl)) (aJ (aJ (aJ (aJ (aJ dC))))))
      repeat (first|exact cH|refine bj ?_|refine cr ?_|refine ia ?_)
    case B7=>
     rintro b hcut
     try dsimp only at hcut
     refine kp [122,9,7,6,4,0] ?_;refine cJ (fun h20=>?_) (fun h20=>?_)
     ·refine gc 15 ?_;refine eo (.bZ [(ae.mk 2 0 s1 l1 []).d,.sl 5 (aH az)]) [0,1,2,3] (eQ es d1 most pr) ?_
      ·refine hend (DG hI.rw hsp1 ⟨fun h=>absurd h.1 (by show ¬(2:Int)=4;decide),by show ¬(2:Int)=6;decide,fun s us h=>?_⟩);simp only[ae.mk.injEq] at h;obtain⟨_,_,rfl,rfl,_⟩:=h;rw[hF];exact⟨fun h=>absurd h.1 (fun h9=>by have h10:=hcut17.2 h9;rw[h17] at h10;cases h10),fun h=>absurd h.1 (fun h9=>by have h10:=hcut.2 h9;rw[h20] at h10;cases h10)⟩
     refine gc 6 ?_;have hk5:kf=5:=hcut.1 h20;subst hk5;have hpf:pf=rg:=hF5 rfl;rw[hpf];have hem:=hZ hF (by decide);have hkg:kg=3:=(by
      rcases gJ hF (by decide) with h9|h9|h9
      ·have hk9:(5:Int)=kg:=h9;rcases(hE.xP _ hem).k with h10|h10|h10<;>(have h11:kg=_:=h10;omega)
      ·omega
      ·exact h9.2)
     obtain⟨q',io,rfl,hRI,hendW⟩:=OG hI.rw hsp1 hF (hle5 rfl);have hio:=EG (gl:=gl) hFE (ps:=ps) (c:=c) hcc (n:=q') hm (ih q' (by have:=hI.qn;omega)) kg sg' pg u1 v1 x1 y1 z1 u2 v2 x2 y2 z2 ag cg rg rt' kK mK sK lK aK nf hem hkg s1 l1 az d1 pr hdm1 hI.hw (by omega) hI.aw (by omega) hpe io hRI;rw[show(5:Int)-1=4 from rfl];refine gc 5 ?_;refine oc (aN Qm rfl rfl rfl rfl (hio) [0,1,2,3] (bj (cr (.cons rfl .cV (bj .nil)))) rfl rfl rfl rfl (an (bo (an (an .nil)))) (fun s ob' hq=>?_) (fun s ob' hq=>?_));rotate_left
     ·obtain ⟨d',hio',hq1,rfl⟩:=hq.pz;cases hq1;rw[hio'] at hendW;refine⟨_,_,_,_,_,rfl,rfl,rfl,rfl,rfl,?_⟩;refine jA ([0,1,2,3]) (eQ es d' most pr) rfl rfl rfl (by repeat (first|exact cH|refine bj ?_|refine cr ?_|refine ia ?_)) ?_;rw[show o=.cI from hendW];exact⟨_,rfl,rfl⟩
     obtain⟨kI,mI,sI,lI,aI,ws,bI,d2,hq1,rfl,hbf,hbt⟩:=hq.ret;cases hq1;refine⟨_,_,_,_,_,rfl,rfl,rfl,rfl,rfl,?_⟩;refine ko 9 [10,7,6,4,0] 6 ?_;refine cJ (fun h23=>?_) (fun h23=>?_)
     ·refine gc 3 ?_;refine bk (q',d2,kI,mI,sI,lI,aI,ws) rfl ?_ [0,1,2,3,4,5,6] mz
      ·have h9:=hbt (by simpa using h23);rw[h9] at hRI hendW;have hIo:=hI.iota hE hcc.1 hm hem hkg hRI hendW;exact⟨hIo.1,hIo.2,by omega⟩
     refine kc 0 [7,6,4] 15 ?_;refine eo (.bZ [(ae.mk kI mI sI lI aI).d,.sl 5 (aH ws)]) [0,1,2,3] (eQ es d2 most pr) ?_
     ·obtain ⟨h9,h10,rfl⟩:=hbf (by simpa using h23);rw[h9] at hendW;rw[show o=.ok (bt (.mk 2 0 s1 l1 []) ws) d2 from hendW];exact⟨kI,mI,sI,lI,aI,ws,by rw[hsp1,h10],rfl,rfl⟩
  case B4=>
   rintro⟨q2,d2,k2,m2,s2,l2,a2,ws⟩ hcut
   try dsimp only at hcut
   refine kc 0 [7,6,4,0] 2 ?_;obtain⟨hI2,hz2,hq2⟩:=hcut;have hwd:=yU (gl:=gl) k2 m2 s2 l2 a2 (by omega);obtain⟨hsp3,hok3⟩:=hI2.spine;have hkd3:=Wt.wy _ (Nat.le_refl _) hI2.hw;have hss3:=dQ _ (.mk k2 m2 s2 l2 a2) (Nat.le_refl _);have hspO:=BG (gl:=gl) k2 m2 s2 l2 a2 hok3;rcases hS3:bf (.mk k2 m2 s2 l2 a2) with⟨⟨k3,m3,s3,l3,a3⟩,fs⟩;rw[hS3] at hspO hsp3 hkd3 hss3;dsimp only at hspO hsp3 hss3;have hfl:=br fs;have hfl2:=aO fs;have hwl:=aO ws;have hpt2:=hI2.part.1;have hwl2:=br ws;have hspO2:=hspO (by omega);refine gc 1 ?_
   skip
   refine go 1 ?_;refine oc (cv Nf rfl rfl (hwd) (bo .nil) ?_);refine go 2 ?_;refine cf ?_;refine kc 10 [11,7,6,4,0] 3 ?_;refine oc (ck KJ rfl rfl (hspO2) [] rfl .nil (bo .nil) ?_);refine ko 7 [12,11,7,6,4,0] 0 ?_;refine gz [0,1,2] mixed ?_;refine A2 3 rfl (gg dE rfl rfl rfl (.inl rfl) rfl rfl rfl (.inl rfl) (by decide) (by(simp only[maxLen];omega)) rfl rfl rfl ?_);refine A2 4 rfl (dN bw ?_);refine ga [5] ?_;refine aZ ?_;refine ge 1 ?_;refine bk ((q2,d2,k3,m3,s3,l3,a3,fs++ws)) rfl ?_ ([0,1,2,3,4,5,6]) ?_
   ·exact ⟨⟨hsp3,hkd3⟩,hq2⟩
   ·refine mo ?_ (ef rfl (by exact Fit.gW (by show some (D.sl 5 (aH fs++aH ws))=_;rw[dj])) (aJ (aJ (aJ dC))))
    repeat (first|exact cH|refine bj ?_|refine cr ?_|refine ia ?_)
theorem HC(hFE:fX es)(hcc:0≤c∧c≤1000000000)(hm:most≤1000000)(N:Nat):GV gl es ps c most N:=by
 induction N using Nat.strongRecOn with
 |_ N ih=>exact HB hFE hcc hm ih
end
end Go.Proofs.YtndbnldjidciiaaGreatDoor
