/-
  What is proved here: ReduceNormal: whatever script it is called on that is of bulk at most 1048576, it answers true, and the script reads as it did; on condition that the listed package variables start as the text lays them, which the card ties.
-/
import Derived.Test.YtndbnldjidciiaaGreatDoorQ5
import Derived.Test.YtndbnldjidciiaaGreatDoorTie
import Derived.Test.YtndbnldjidciiaaGreatDoorCards
import Derived.SevenTiedAt
import Derived.LaidHandle
import Derived.Deep.DeepHandedRow
import Derived.Deep.DeepWitnessRowRef
set_option linter.unusedSimpArgs false
set_option linter.unusedVariables false
set_option linter.unusedSectionVars false
namespace Go.Proofs.YtndbnldjidciiaaGreatDoor
section
open Go Go.Vd Go.RowKit
attribute [local irreducible] bu bA di ak bL cU
variable {g gl:Nat→List D}
def OP(N:Nat)(out:Out)(ob':List Ob):Prop:=
 ∃(es:List cy) (w:Bool) (n code at':Int),out=.ret (.bZ [.cb 0 0,.d (.v (.int .i64 n)),.agg [.d (.v (.int .i64 code)),.d (.v (.int .i64 at'))]])∧ob'=[bc es w,ba]∧fX es∧es.length≤N
theorem C9(ds:List dP)(hds:∀d∈ds,∃x:RD,d=x.dec∧DH x)(hl:ds.length≤200002){most:Nat}(hm:most≤1000000):
 et Tryz.prog gl 79 [] [.d (.sl 15 (lN ds)),.d (.v (.int .i64 most))] (OP 200002):=by
 have hdl:=xT ds;refine bS Tryz.func79 Tryz.ntmps79 0 ?_;refine kc 16 [7,6,0,1] 0 ?_;refine bz 63 21 rfl ?_;refine gc 5 ?_;refine lp (ι:=Nat×Bool×List cy) (fun⟨i,w,es⟩=>[(8,int i)]) (fun⟨i,w,es⟩=>[.cells [.d (.v (.int .i64 0)),.d (.v (.int .i64 0))] 78,HX 2 es w,ba]) [7,6,0,1] (fun⟨i,w,es⟩=>i≤ds.length∧fX es∧es.length≤i) (fun⟨i,w,es⟩=>ds.length-i) ((0,false,[])) ([0,1,2]) rfl ?I1 ?M1 ?H1
 case I1=>
  exact⟨Nat.zero_le _,fX.nil,Nat.zero_le _⟩
 case M1=>
  refine mo ?_ (aJ (aJ (aJ (aJ (aJ dC)))))
  repeat (first|exact cH|exact yH|refine bj ?_|refine qx ?_|refine Bi ?_ ?_|refine an ?_|refine .cons (.nil rfl) ?_)
 case H1=>
  rintro⟨i,w,es⟩ hinv
  try dsimp only at hinv
  refine kc 0 [8,7,6,0,1] 9 ?_;refine cJ (fun h3=>?_) (fun h3=>?_)
  ·refine kc 5 [7,6,0] 12 ?_;refine fR ?_;refine iw ⟨_,_,rfl,rfl,⟨_,_,rfl,rfl,⟨_,_,rfl,(dZ rfl rfl wu rfl rfl rfl rfl),rfl⟩⟩⟩ [1,2] (.bZ [.cb 0 0,.d (.v (.int .i64 (lN ds).length)),.agg [.d (.v (.int .i64 0)),.d (.v (.int .i64 0))]]) ([bc es w,ba]) rfl rfl rfl ?_ rfl ?_ ?_
   ·repeat (first|exact cH|refine bj ?_|refine cr ?_)
   ·exact .refl _
   ·exact ⟨es,w,_,0,0,rfl,rfl,hinv.2.1,by omega⟩
  refine kc 5 [8,7,6,0,1] 0 ?_;have hi:i<ds.length:=(by omega);obtain⟨x,hx1,hx2⟩:=hds _ (List.getElem_mem hi);have hget:ds[i]? =some x.dec:=(by rw[List.getElem?_eq_getElem hi,hx1]);have hadd:=KN (gl:=gl) hinv.2.1 (by omega) x hx2 hm w;refine gc 4 ?_;refine o1 (cu O4 QN ?_ (he:=by exact(Ol hget)));refine go 2 ?_;refine oc (aN Qj rfl rfl rfl rfl (hadd) [1,2] (bj (cr .nil)) rfl rfl rfl rfl (an (bo (an .nil))) (fun s ob' hq=>?_) (fun s ob' hq=>?_));rotate_left
  ·obtain ⟨_,_,_,hq1,_⟩:=hq;cases hq1
  obtain⟨code,w2,es2,hq1,rfl,hq3,hq4,hq5⟩:=hq;cases hq1;refine⟨_,_,_,_,_,rfl,rfl,rfl,rfl,rfl,?_⟩;refine ko 3 [9,8,7,6,0,1] 6 ?_;refine cJ (fun h6=>?_) (fun h6=>?_)
  ·refine gc 5 ?_;refine o1 (cG ?_);refine go 2 ?_;refine bk (i+1,w2,es2) rfl ?_ [0,1,2] mz
   ·refine ⟨⟨by omega,hq4,?_⟩,show _-(i+1)<_-i by omega⟩;rcases hq5 with⟨_,rp,rt,rfl⟩|⟨h,_⟩
    ·rw [List.length_append];simp only[List.length_cons,List.length_nil];omega
    ·omega
  refine kc 0 [9,8,7,6] 18 ?_;refine fR ?_;refine iw ⟨_,_,rfl,rfl,⟨_,_,rfl,rfl,⟨_,_,rfl,(dZ rfl rfl wu rfl rfl rfl rfl),rfl⟩⟩⟩ [1,2] (.bZ [.cb 0 0,.d (.v (.int .i64 i)),.agg [.d (.v (.int .i64 code)),.d (.v (.int .i64 i))]]) ([bc es2 w2,ba]) rfl rfl rfl ?_ rfl ?_ ?_
  ·repeat (first|exact cH|refine bj ?_|refine cr ?_)
  ·exact .refl _
  ·refine ⟨es2,w2,i,code,i,rfl,rfl,hq4,?_⟩;rcases hq5 with⟨_,rp,rt,rfl⟩|⟨_,rfl⟩
   ·rw [List.length_append];simp only[List.length_cons,List.length_nil];omega
   ·omega
end
section
open Go Go.Vd Go.RowKit
attribute [local irreducible] bu bA di ak bL cU
variable {g gl:Nat→List D}
def iX(es:List cy)(w:Bool):List Ob:=[pE (es.map (·.d)),dR,.cV (fL es),HX 4 es w,ba]
def F1(x:Step)(e m:SV):SV:=.agg [.d (.v (.int .i64 x.k)),.d (.v (.string x.s)),.d (.v (.string x.t)),.d (.v (.string x.u)),.d (.v (.int .i64 x.a)),.d (.v (.int .i64 x.b)),e,m]
def JA(x:Step)(e m:SV):Ob:=.cells [.d (.v (.int .i64 x.k)),.d (.v (.string x.s)),.d (.v (.string x.t)),.d (.v (.string x.u)),.d (.v (.int .i64 x.a)),.d (.v (.int .i64 x.b)),e,m] 34
end
section
open Go Go.Vd Go.RowKit
attribute [local irreducible] bu bA di ak bL cU
variable {g gl:Nat→List D}
def QU(i j:Nat)(ds:List dP):Ob:=.cells [.own i 15 (lN ds),.map j] 98
def wO(a b:SV):Ob:=.cells [a,b] 32
theorem Fv:cD Tryz.prog gl 8 [] (· =.v (.bool true)):=by
 refine bD Tryz.func8 Tryz.ntmps8 ?_;refine gc 7 ?_;refine oc (ck PZ rfl rfl (Cz) [] rfl .nil .nil ?_);refine go 6 ?_;refine o1 (C3 O8 rfl rfl ?_);refine go 4 ?_;refine ez ?_;rfl
set_option maxHeartbeats 1600000 in
theorem vy{es:List cy}(hF:fX es)(w:Bool):
 et Tryz.prog gl 46 [bc es w,ba] [.cb 0 0] fun out ob'=>out=.ret (.agg [.cb 2 0,.cb 0 0])∧ob'=[bc es w,ba,QU 3 4 (es.map (·.d)),dR,.cV (fL es)]:=by
 have hel:=hF.ok.len;have hel2:=tK es;refine bS Tryz.func46 Tryz.ntmps46 2 ?_;refine gc 7 ?_;refine oc (ck PZ rfl rfl (Cz) [] rfl .nil .nil ?_);refine go 7 ?_;refine o1 (xN O8 ?_);refine go 2 ?_;refine cf ?_;refine kc 9 [4,3,2,0] 0 ?_;refine lp (ι:=Nat) (fun i=>[(4,int i)]) (fun i=>[bc es w,ba,wO (.d (.v (.pointer none))) (.d (.v (.pointer none))),QU 4 5 ((es.take i).map (·.d)),dR,.cV (fL (es.take i))]) [3,2,0] (fun i=>i≤es.length) (fun i=>es.length-i) (0) ([0,1,2,3,4,5]) rfl ?I1 ?M1 ?H1
 case I1=>
  exact Nat.zero_le _
 case M1=>
  exact mz
 case H1=>
  rintro i hinv
  try dsimp only at hinv
  refine kc 0 [4,3,2,0] 12 ?_;refine cJ (fun h5=>?_) (fun h5=>?_)
  ·refine kc 6 [3,2,0] 0 ?_;obtain rfl:i=es.length:=(by omega);rw[List.take_length];refine gc 8 ?_;refine fR ?_;refine iw ⟨_,_,rfl,(dZ rfl rfl Lg rfl rfl rfl rfl),rfl⟩ [0,1,3,4,5] (.agg [.cb 2 0,.cb 0 0]) ([bc es w,ba,QU 3 4 (es.map (·.d)),dR,.cV (fL es)]) rfl rfl rfl ?_ rfl ?_ ?_
   ·repeat (first|exact cH|refine bj ?_|refine cr ?_|refine ia ?_)
   ·exact .refl _
   ·exact ⟨rfl,rfl⟩
  refine kc 4 [4,3,2,0] 0 ?_;obtain⟨kd,sd,pd,k1,n1,s1,l1,a1,k2,n2,s2,l2',a2,ad,cd',rpd,k3,n3,s3,l3,a3,hget⟩:=Gv (show i<es.length by omega);have heo:=hF.ok.xP _ (List.mem_of_getElem? hget);have htk:es.take (i+1)=es.take i++[⟨.mk kd sd pd (.mk k1 n1 s1 l1 a1) (.mk k2 n2 s2 l2' a2) ad cd',rpd,.mk k3 n3 s3 l3 a3⟩]:=(by rw[List.take_add_one,hget];rfl);have htl:((es.take i).map (·.d)).length≤1000000:=(by rw[List.length_map,List.length_take];omega);have hput:=Hg (gl:=gl) ((es.take i).map (·.d)) (fL (es.take i)) ⟨kd,sd,pd,k1,n1,s1,l1,a1,k2,n2,s2,l2',a2,ad,cd'⟩ heo.k heo.nm htl heo.cl rpd k3 n3 s3 l3 a3;have hmp:(es.take (i+1)).map (·.d)=(es.take i).map (·.d)++[RD.dec ⟨kd,sd,pd,k1,n1,s1,l1,a1,k2,n2,s2,l2',a2,ad,cd'⟩]:=(by rw[htk,List.map_append];rfl);have hmf:fL (es.take (i+1))=wL (fL (es.take i)) ⟨RD.dec ⟨kd,sd,pd,k1,n1,s1,l1,a1,k2,n2,s2,l2',a2,ad,cd'⟩,rpd,.mk k3 n3 s3 l3 a3⟩:=(by rw[htk,CE];rfl);rw[← hmp,←hmf] at hput;refine gz [0,1,2,3,4,5] mixed ?_;refine A1 6 rfl (F9 Bw DV ⟨_,rfl,?_⟩ (he:=by exact(sN hget)));refine ga [7,8,9,10,11,12,13] ?_;refine A1 14 rfl (F9 Bw DV ⟨_,rfl,?_⟩ (he:=by exact(sN hget)));refine ga [15,16,17,18,19,20,21] ?_;refine A1 22 rfl (F9 Bw DV ⟨_,rfl,?_⟩ (he:=by exact(sN hget)));refine ga [23,24] ?_;refine A2 25 rfl (ck Ra rfl rfl (hput) [3,4,5] rfl (bj (cr (.cons rfl .cV .nil))) (an (bo (an (bo .nil)))) ?_);refine aZ ?_;refine ke 2 [4,3,2,0] 2 ?_;refine o1 (cG ?_);refine go 2 ?_;refine bk (i+1) rfl ?_ [0,1,2,3,4,5] mz;exact⟨by omega,by omega⟩
variable {most:Nat}
theorem Kk(s:ByteArray)(hm:most≤1000000)(h0:¬(fT s).2.1=0):
 et Tryz.prog (uG g) 45 [] [.d (.v (.string s)),.d (.v (.int .i64 most))] fun out ob'=> ∃n c a:Int,out=.ret (.bZ [.d (.v (.pointer none)),.d (.v (.int .i64 n)),.agg [.d (.v (.int .i64 c)),.d (.v (.int .i64 a))]])∧ob'=[]:=by
 have hpf:=p5 (g:=g) s;rcases hP:fT s with⟨ds,c1,c2⟩;rw[hP] at hpf h0;simp only at hpf h0;refine bS Tryz.func45 Tryz.ntmps45 0 ?_;refine gc 10 ?_;refine oc (cv PN rfl rfl (hpf) (an .nil) ?_);refine ko 9 [7,8,6,1] 7 ?_;refine cJ (fun h2=>?_) (fun h2=>?_)
 ·contradiction
 refine kc 1 [8,6] 0 ?_;refine gz [0,1,2] mixed ?_;refine A2 3 rfl (dN wu ?_);refine aZ ?_;refine ge 3 ?_;refine fR ?_;refine iw ⟨_,_,rfl,rfl,⟨_,_,rfl,rfl,⟨_,_,rfl,(dZ rfl rfl wu rfl rfl rfl rfl),rfl⟩⟩⟩ [] (.bZ [.d (.v (.pointer none)),.d (.v (.int .i64 0)),.agg [.d (.v (.int .i64 c1)),.d (.v (.int .i64 c2))]]) ([]) rfl rfl rfl ?_ rfl ?_ ?_
 ·exact cH
 ·exact .refl _
 ·exact ⟨_,_,_,rfl,rfl⟩
theorem HR(s:ByteArray)(hm:most≤1000000)(h0:(fT s).2.1=0):
 et Tryz.prog (uG g) 45 [] [.d (.v (.string s)),.d (.v (.int .i64 most))] fun out ob'=> ∃(es:List cy) (w:Bool) (n c a:Int),out=.ret (.bZ [.cb 0 0,.d (.v (.int .i64 n)),.agg [.d (.v (.int .i64 c)),.d (.v (.int .i64 a))]])∧ob'=[bc es w,ba]∧fX es∧es.length≤200002:=by
 have hpf:=p5 (g:=g) s;have hpre:=@El s h0;rcases hP:fT s with⟨ds,c1,c2⟩;rw[hP] at hpf hpre h0;simp only at hpf hpre h0;have hfo:=C9 (gl:=uG g) ds hpre.2 hpre.1 hm;refine bS Tryz.func45 Tryz.ntmps45 0 ?_;refine gc 10 ?_;refine oc (cv PN rfl rfl (hpf) (an .nil) ?_);refine ko 9 [7,8,6,1] 7 ?_;refine cj (fun h2=>?_) (fun h2=>?_)
 ·contradiction
 refine kc 2 [7,6,1] 4 ?_;refine oc (aN Rb rfl rfl rfl rfl (hfo) [] .nil rfl rfl rfl rfl (an (an .nil)) (fun s ob' hq=>?_) (fun s ob' hq=>?_));rotate_left
 ·obtain ⟨_,_,_,_,_,hq1,_⟩:=hq;cases hq1
 obtain⟨es,w,n,code,at',hq1,rfl,hq3,hq4⟩:=hq;cases hq1;refine⟨_,_,_,_,_,rfl,rfl,rfl,rfl,rfl,?_⟩;refine go 9 ?_;refine fR ?_;refine iw ⟨_,_,rfl,rfl,⟨_,_,rfl,rfl,⟨_,_,rfl,(dZ rfl rfl wu rfl rfl rfl rfl),rfl⟩⟩⟩ [2,3] (.bZ [.cb 0 0,.d (.v (.int .i64 n)),.agg [.d (.v (.int .i64 code)),.d (.v (.int .i64 at'))]]) ([bc es w,ba]) rfl rfl rfl ?_ rfl ?_ ?_
 ·repeat (first|exact cH|refine bj ?_|refine cr ?_)
 ·exact .refl _
 ·exact ⟨es,w,n,_,_,rfl,rfl,hq3,hq4⟩
def FG(out:Out)(ob':List Ob):Prop:= ∃(es:List cy) (w:Bool),fX es∧out=.ret (.agg [.cb 0 0,.cb 3 0])∧ob'=iX es w
theorem DN(s:ByteArray)(h0:(fT s).2.1=0):et Tryz.prog (uG g) 22 [] [.d (.v (.string s))] FG:=by
 have hfi:=HR (g:=g) s (most:=3000) (by decide) h0;refine bS Tryz.func22 Tryz.ntmps22 0 ?_;refine gc 8 ?_;refine oc (aN PS rfl rfl rfl rfl (hfi) [] .nil rfl rfl rfl rfl (an (an .nil)) (fun s ob' hq=>?_) (fun s ob' hq=>?_));rotate_left
 ·obtain ⟨_,_,_,_,_,hq1,_⟩:=hq;cases hq1
 obtain⟨es,w,n,c,a,hq1,rfl,hF,hl⟩:=hq;cases hq1;have hfl:=vy (gl:=uG g) hF w;refine⟨_,_,_,_,_,rfl,rfl,rfl,rfl,rfl,?_⟩;refine ko 11 [3,2] 3 ?_;refine o1 (xN O7 ?_);refine go 2 ?_;refine cf ?_;refine gc 5 ?_;refine oc (ck PR rfl rfl (hfl) [1,2] rfl (bj (cr .nil)) (an .nil) ?_);refine go 4 ?_;refine fR ?_;refine iw ⟨_,_,rfl,(dZ rfl rfl Lg rfl rfl rfl rfl),rfl⟩ [4,5,6,1,2] (.agg [.cb 0 0,.cb 3 0]) (iX es w) rfl rfl rfl ?_ rfl ?_ ?_
 ·repeat (first|exact cH|refine bj ?_|refine cr ?_|refine ia ?_)
 ·exact .refl _
 ·exact ⟨es,w,hF,rfl,rfl⟩
theorem GW(s:ByteArray)(h0:¬(fT s).2.1=0):et Tryz.prog (uG g) 22 [] [.d (.v (.string s))] FG:=by
 have hfi:=Kk (g:=g) s (most:=3000) (by decide) h0;have hfl:=vy (gl:=uG g) fX.nil false;refine bS Tryz.func22 Tryz.ntmps22 0 ?_;refine gc 8 ?_;refine oc (aN PS rfl rfl rfl rfl (hfi) [] .nil rfl rfl rfl rfl (an (an .nil)) (fun s ob' hq=>?_) (fun s ob' hq=>?_));rotate_left
 ·obtain ⟨_,_,_,hq1,_⟩:=hq;cases hq1
 obtain⟨n,c,a,hq1,rfl⟩:=hq;cases hq1;refine⟨_,_,_,_,_,rfl,rfl,rfl,rfl,rfl,?_⟩;refine ko 11 [3,2] 3 ?_;refine o1 (E6 O7 ?_);refine go 2 ?_;refine ct ?_;refine kc 7 [3,2] 0 ?_;refine bz 63 21 rfl ?_;refine gc 2 ?_;refine oc (ck PR rfl rfl (hfl) [2,3] rfl (.cons rfl (.cells rfl (by repeat (first|exact yH|refine an ?_|refine .cons (.nil rfl) ?_))) (qx .nil)) (an .nil) ?_);refine go 4 ?_;refine fR ?_;refine iw ⟨_,_,rfl,(dZ rfl rfl Lg rfl rfl rfl rfl),rfl⟩ [4,5,6,2,3] (.agg [.cb 0 0,.cb 3 0]) (iX [] false) rfl rfl rfl ?_ rfl ?_ ?_
 ·repeat (first|exact cH|refine bj ?_|refine cr ?_|refine ia ?_)
 ·exact .refl _
 ·exact ⟨[],false,fX.nil,rfl,rfl⟩
theorem wc(s:ByteArray):et Tryz.prog (uG g) 22 [] [.d (.v (.string s))] FG:=by
 by_cases h:(fT s).2.1=0
 ·exact DN s h
 ·exact GW s h
end
section
open Go Go.Vd Go.RowKit
attribute [local irreducible] bu bA di ak bL cU
variable {g gl:Nat→List D}
def yq(b:Nat):D:=.v (.pointer (some ⟨b,0,none⟩))
def nE(eD:List pM)(b1 b2:Nat):Prop:= ∃(k:Nat) (iJ:List Pl) (es:List cy) (w:Bool),eD[k]? =some ⟨iX es w,iJ⟩∧fX es∧iJ[0]? =some (.loc b1)∧iJ[3]? =some (.loc b2)
variable {eD:List pM} {b1 b2:Nat}
theorem nE.more{its':List pM}(h:nE eD b1 b2)(hm:∀(k:Nat) x,eD[k]? =some x→its'[k]? =some x):nE its' b1 b2:=by
 obtain⟨k,iJ,es,w,h1,h2⟩:=h;exact⟨k,iJ,es,w,hm _ _ h1,h2⟩
structure ye where
 x:Step
 b1:Nat
 b2:Nat
def ye.cells(e:ye):List D:=[.v (.int .i64 e.x.k),.v (.string e.x.s),.v (.string e.x.t),.v (.string e.x.u),.v (.int .i64 e.x.a),.v (.int .i64 e.x.b),yq e.b1,yq e.b2]
def pZ(l:List ye):List (List D):=l.map ye.cells
theorem zq(l:List ye):(pZ l).length=l.length:=by simp[pZ]
theorem zu(l:List ye)(e:ye):pZ l++[e.cells]=pZ (l++[e]):=by simp[pZ]
def QT:Ob:=.row 34 8
theorem Jt(eD:List pM)(x:pM):∀(k:Nat) y,eD[k]? =some y→(eD++[x])[k]? =some y:=fun k y h=>by
 rw[List.getElem?_append_left (List.getElem?_eq_some_iff.1 h).1];exact h
variable {es:List cy} {w:Bool} {iJ:List Pl}
theorem BY(hF:fX es)(h1:iJ[0]? =some (.loc b1))(h2:iJ[3]? =some (.loc b2)):nE (eD++[⟨iX es w,iJ⟩]) b1 b2:=
 ⟨eD.length,iJ,es,w,by simp,hF,h1,h2⟩
set_option maxHeartbeats 1600000 in
theorem Cc(l:List Step)(hl:l.length≤1048576):
 et Tryz.prog (uG g) 9 [] [.d (.sl 6 (steps l)),.d (.v (.int .i64 5))] fun out ob'=> ∃(eD:List pM) (els:List ye),out=.ret (.d (.sl 8 (pZ els)))∧ob'=[dG eD]∧els.length≤l.length∧∀e∈els,nE eD e.b1 e.b2∧e.x∈l:=by
 have hsl:=ug l;refine bS Tryz.func9 Tryz.ntmps9 0 ?_;refine gc 11 ?_;refine D9 rfl ?_;refine gc 1 ?_;refine oc (aN PY rfl rfl rfl rfl (wc (g:=g) .empty) [] .nil rfl rfl rfl rfl (an .nil) (fun s ob' hq=>?_) (fun s ob' hq=>?_));rotate_left
 ·obtain ⟨_,_,_,hq1,_⟩:=hq;cases hq1
 obtain⟨es,w,hF,hq1,rfl⟩:=hq;cases hq1;refine⟨_,_,_,_,_,rfl,rfl,rfl,rfl,rfl,?_⟩;refine F5 (t:=8) (pi:=0) (eD:=[]) (ix:=[1,2,3,4,5]) (k1:=0) (k2:=3) (iX es w) rfl (.cons rfl (.cells rfl (ic.rfl _)) (.cons rfl .row (.cons rfl .cV (.cons rfl (.cells rfl (ic.rfl _)) (.cons rfl .row .nil))))) rfl rfl rfl rfl rfl (fun x=>rfl) rfl rfl rfl ?_;intro iJ b1 b2 hpl hb1 hb2;refine ko 11 [7,6,5,0,1] 0 ?_;refine bz 34 8 rfl ?_;refine lp (ι:=Nat×List pM×List ye×Nat×Nat) (fun⟨i,eD,els,c1,c2⟩=>[(7,int i),(5,.own 2 8 (pZ els)),(6,.cb 1 0)]) (fun⟨i,eD,els,c1,c2⟩=>[dG eD,wO (.d (yq c1)) (.d (yq c2)),QT]) [0,1] (fun⟨i,eD,els,c1,c2⟩=>i≤l.length∧els.length≤i∧nE eD c1 c2∧∀e∈els,nE eD e.b1 e.b2∧e.x∈l) (fun⟨i,eD,els,c1,c2⟩=>l.length-i) ((0,[]++[⟨iX es w,iJ⟩],[],b1,b2)) ([0,6,7]) rfl ?I2 ?M2 ?H2
 case I2=>
  exact⟨Nat.zero_le _,Nat.zero_le _,BY hF hb1 hb2,fun e he=>by cases he⟩
 case M2=>
  refine mo ?_ (aJ (ef rfl (by exact Fit.nil rfl) (aJ (aJ (aJ dC)))))
  repeat (first|exact cH|refine bj ?_|refine Ft ?_|refine qx ?_)
 case H2=>
  rintro⟨i,eD,els,c1,c2⟩ hinv
  try dsimp only at hinv
  refine kc 0 [7,5,6,0,1] 8 ?_;refine' oa (yt:=15) (d:=13) 2 ?a1 ?b1 ?_
  case a1=>
   intro hc hK;refine go 2 ?_;exact hK [_,_] rfl rfl
  case b1=>
   intro _ hK;refine go 2 ?_;exact hK [_,_] rfl
  refine go 2 ?_;refine cJ (fun h4=>?_) (fun h4=>?_)
  ·refine kc 5 [5] 7 ?_;refine eo (.sl 8 (pZ els)) [0] [dG eD] ?_
   ·exact ⟨eD,els,rfl,rfl,by omega,hinv.2.2.2⟩
  refine kc 3 [7,5,6,0,1] 0 ?_;refine xo (ι:=List pM×Nat×Nat×List ye) (fun⟨its2,c3,c4,els2⟩=>[(5,.own 2 8 (pZ els2))]) (fun⟨its2,c3,c4,els2⟩=>[dG its2,wO (.d (yq c3)) (.d (yq c4)),QT]) [7,6,0,1] (fun⟨its2,c3,c4,els2⟩=>nE its2 c3 c4∧els2.length≤i+1∧∀e∈els2,nE its2 e.b1 e.b2∧e.x∈l) rfl ?A3 ?B3
  case A3=>
   refine gc 3 ?_;have hi:i<l.length:=(by omega);have hmem:l[i]∈l:=List.getElem_mem hi;obtain⟨hi1,hi2,hi3,hi4⟩:=hinv;refine gc 3 ?_;refine o1 (cu DS Lh ?_ (he:=by exact(vS hi)));refine ko 5 [24,7,5,6,0,1] 0 ?_;refine xo (ι:=List pM×Nat×Nat) (fun⟨its2,c3,c4⟩=>[]) (fun⟨its2,c3,c4⟩=>[dG its2,wO (.d (yq c3)) (.d (yq c4)),QT]) [7,5,6,0,1] (fun⟨its2,c3,c4⟩=>nE its2 c3 c4∧∀(k:Nat) x,eD[k]? =some x→its2[k]? =some x) rfl ?A4 ?B4
   case A4=>
    refine cJ (fun h6=>?_) (fun h6=>?_)
    ·refine gc 1 ?_;refine bk (eD,c1,c2) rfl ?_ [0,1,2] mz;exact⟨hi3,fun _ _ h=>h⟩
    refine gc 3 ?_;refine o1 (cu DS Lh ?_ (he:=by exact(vS hi)));refine go 2 ?_;refine oc (aN PY rfl rfl rfl rfl (wc (g:=g) l[i].s) [] .nil rfl rfl rfl rfl (an .nil) (fun s ob' hq=>?_) (fun s ob' hq=>?_));rotate_left
    ·obtain ⟨_,_,_,hq1,_⟩:=hq;cases hq1
    obtain⟨es2,w2,hF2,hq1,rfl⟩:=hq;cases hq1;refine⟨_,_,_,_,_,rfl,rfl,rfl,rfl,rfl,?_⟩;refine F5 (t:=30) (pi:=0) (eD:=eD) (ix:=[3,4,5,6,7]) (k1:=0) (k2:=3) (iX es2 w2) rfl (.cons rfl (.cells rfl (ic.rfl _)) (.cons rfl .row (.cons rfl .cV (.cons rfl (.cells rfl (ic.rfl _)) (.cons rfl .row .nil))))) rfl rfl rfl rfl rfl (fun x=>rfl) rfl rfl rfl ?_;intro pls2 d1 d2 hpl2 hd1 hd2;refine go 2 ?_;refine bk (eD++[⟨iX es2 w2,pls2⟩],d1,d2) rfl ?_ [0,1,2] mz;exact⟨BY hF2 hd1 hd2,Jt _ _⟩
   case B4=>
    rintro⟨its2,c3,c4⟩ hcut
    try dsimp only at hcut
    refine kc 0 [7,5,6,0,1] 1 ?_;obtain⟨hg2,hmore⟩:=hcut;have hpl9:=zq els;have hold:∀e∈els,nE its2 e.b1 e.b2∧e.x∈l:=fun e he=>⟨(hi4 e he).1.more hmore,(hi4 e he).2⟩
    refine gc 3 ?_;refine o1 (cu DS Lh ?_ (he:=by exact(vS hi)));refine go 6 ?_;refine cJ (fun h8=>?_) (fun h8=>?_)
    ·refine gc 2 ?_;refine bk ((its2,c3,c4,els)) rfl ?_ ([0,1,2]) ?_
     ·exact ⟨hg2,by omega,hold⟩
     ·refine mo ?_ (ef rfl (by first|exact Fit.of_eq rfl|exact Fit.of_eq (by rw[← zu];rfl)) (aJ (aJ (aJ (aJ dC)))))
      repeat (first|exact cH|refine bj ?_|refine cr ?_|refine Ft ?_)
    refine kp [7,5,6,0,1] ?_;refine gz [0,1,2] mixed ?_;refine A1 3 rfl (cu DS Lh ⟨_,rfl,?_⟩ (he:=by exact(vS hi)));refine ga [4,5,6] ?_;refine A2 7 rfl (gD Pj [.tmp 44] Pc ?_);refine A2 8 rfl (px Pj ?_);refine ga [9] ?_;refine aZ ?_;refine ge 1 ?_;refine bk ((its2,c3,c4,els++[⟨l[i],c3,c4⟩])) rfl ?_ ([0,1,2]) ?_
    ·refine ⟨hg2,by rw[List.length_append];simp only[List.length_cons,List.length_nil];omega,fun e he=>?_⟩;rcases List.mem_append.1 he with he|he
     ·exact hold e he
     ·simp only[List.mem_singleton] at he;subst he;exact⟨hg2,hmem⟩
    ·refine mo ?_ (ef rfl (by first|exact Fit.of_eq rfl|exact Fit.of_eq (by rw[← zu];rfl)) (aJ (aJ (aJ (aJ dC)))))
     repeat (first|exact cH|refine bj ?_|refine cr ?_|refine Ft ?_)
  case B3=>
   rintro⟨its2,c3,c4,els2⟩ hcut
   try dsimp only at hcut
   refine kc 0 [5,7,6,0,1] 2 ?_;refine o1 (cG ?_);refine go 2 ?_;refine bk (i+1,its2,els2,c3,c4) rfl ?_ [0,1,2] mz;exact⟨⟨by omega,hcut.2.1,hcut.1,hcut.2.2⟩,show _-(i+1)<_-i by omega⟩
theorem Hh{x:Step}(h1:iJ[0]? =some (.loc b1))(h2:iJ[3]? =some (.loc b2))(m:Mem)(gs:List Pl)(vs:List Value)(h:bC ⟨m,gs⟩ [F1 x (.d (yq b1)) (.d (yq b2))] vs):bC ⟨m,iJ⟩ [F1 x (.cb 0 0) (.cb 3 0)] vs:=by
 obtain⟨v,_,rfl,⟨us,rfl,x1,_,rfl,e1,x2,_,rfl,e2,x3,_,rfl,e3,x4,_,rfl,e4,x5,_,rfl,e5,x6,_,rfl,e6,x7,_,rfl,e7,x8,_,rfl,e8,e9⟩,rfl⟩:=h;exact⟨_,_,rfl,⟨_,rfl,x1,_,rfl,e1,x2,_,rfl,e2,x3,_,rfl,e3,x4,_,rfl,e4,x5,_,rfl,e5,x6,_,rfl,e6,x7,_,rfl,⟨b1,h1,e7⟩,x8,_,rfl,⟨b2,h2,e8⟩,e9⟩,rfl⟩
theorem J4{k:Nat}{w':Bool}{pls':List Pl}(hk:eD[k]? =some ⟨iX es w,iJ⟩)(hF:fX es)(hp:∀(j b:Nat),j<(iX es w).length→iJ[j]? =some (.loc b)→pls'[j]? =some (.loc b))(h:nE eD b1 b2):nE (eD.set k ⟨iX es w',pls'⟩) b1 b2:=by
 obtain⟨k2,pls2,es2,w2,h1,h2,h3,h4⟩:=h;by_cases he:k2=k
 ·subst he;rw[hk] at h1;have h5:iJ=pls2:=(pM.mk.inj (Option.some.inj h1)).2;subst h5;exact⟨k2,pls',es,w',List.getElem?_set_self (List.getElem?_eq_some_iff.1 hk).1,hF,hp 0 b1 (by simp[iX]) h3,hp 3 b2 (by simp[iX]) h4⟩
 ·exact ⟨k2,pls2,es2,w2,by rw[List.getElem?_set_ne (Ne.symm he)];exact h1,h2,h3,h4⟩
theorem Lr{l:List ye}{i:Nat}(h:i<l.length):(pZ l)[((i:Nat):Int).toNat]? =some (l[i].cells):=by simp[pZ,h]
end
section
open Go Go.Vd Go.RowKit
attribute [local irreducible] bu bA di ak bL cU
variable {g gl:Nat→List D}
def Ci(s:ByteArray):Nat→Nat→ByteArray→List ByteArray→List ByteArray
 |0,_,_,l=>l
 |n+1,i,w,l=>if i<s.size∧¬bq s i=32 then Ci s n (i+1) (w++s.extract i (i+1)) l else if ¬w=.empty then Ci s n (i+1) .empty (l++[w]) else Ci s n (i+1) .empty l
def yv(s:ByteArray):List ByteArray:=Ci s (s.size+1) 0 .empty []
theorem EA(s:ByteArray)(hs:s.size≤1099511627776):
 et Tryz.prog gl 23 [] [.d (.v (.string s))] fun out ob'=>out=.ret (.own 0 1 (strs (yv s)))∧ob'=[sR]:=by
 refine bS Tryz.func23 Tryz.ntmps23 0 ?_;refine kc 22 [5,4,3,0] 0 ?_;refine bz 9 1 rfl ?_;refine lp (ι:=Nat×ByteArray×List ByteArray) (fun⟨i,wd,l⟩=>[(5,int i),(4,.d (.v (.string wd))),(3,.own 0 1 (strs l))]) (fun⟨i,wd,l⟩=>[sR]) [0] (fun⟨i,wd,l⟩=>i≤s.size+1∧wd.size≤i∧l.length≤i∧yv s=Ci s (s.size+1-i) i wd l) (fun⟨i,wd,l⟩=>s.size+1-i) ((0,.empty,[])) ([0]) rfl ?I2 ?M2 ?H2
 case I2=>
  exact⟨Nat.zero_le _,Nat.le_refl _,Nat.le_refl _,rfl⟩
 case M2=>
  refine mo ?_ (aJ (aJ (ef rfl (by exact Fit.nil rfl) (aJ dC))))
  repeat (first|exact cH|refine qx ?_)
 case H2=>
  rintro⟨i,wd,l⟩ hinv
  try dsimp only at hinv
  refine kc 0 [5,4,3,0] 9 ?_;refine cJ (fun h4=>?_) (fun h4=>?_)
  ·refine kc 5 [3] 7 ?_;refine fR ?_;refine iw ⟨_,_,rfl,rfl,rfl⟩ [0] (.own 0 1 (strs l)) ([sR]) rfl rfl rfl ?_ rfl ?_ ?_
   ·repeat (first|exact cH|refine cr ?_)
   ·exact .refl _
   ·obtain ⟨h1,_,_,h2⟩:=hinv;rw[show s.size+1-i=0 by omega,Ci] at h2;rw[h2];exact⟨rfl,rfl⟩
  refine kc 3 [5,4,3,0] 0 ?_;refine xo (ι:=ByteArray×List ByteArray) (fun⟨wd2,l2⟩=>[(4,.d (.v (.string wd2))),(3,.own 0 1 (strs l2))]) (fun⟨wd2,l2⟩=>[sR]) [5,0] (fun⟨wd2,l2⟩=>wd2.size≤i+1∧l2.length≤i+1∧yv s=Ci s (s.size+1-(i+1)) (i+1) wd2 l2) rfl ?A3 ?B3
  case A3=>
   refine gc 3 ?_;have hi:i≤s.size:=(by omega);have hsl:=cQ l;have hx1:=Dc s i;have hx2:(s.extract (i:Int).toNat ((i:Int)+1).toNat).size≤1:=(by rw[ByteArray.size_extract];omega);have hP:=hinv.2.2.2;rw[show s.size+1-i=(s.size+1-(i+1))+1 by omega,Ci] at hP;refine gc 6 ?_;refine' oa (yt:=20) (d:=16) 4 ?a1 ?b1 ?_
   case a1=>
    intro hc hK;refine go 2 ?_;refine gy ?_;refine o1 (Fs uY ?_);refine go 1 ?_;exact hK [_,_,_,_] rfl rfl
   case b1=>
    intro _ hK;refine go 4 ?_;exact hK [_,_,_,_] rfl
   refine go 2 ?_;refine cj (fun h6=>?_) (fun h6=>?_)
   ·refine kc 0 [5,4,3,0] 6 ?_;refine o1 (cG ?_);refine o1 (qq uY ?_);refine o1 (uM ?_ (hb:=by(try simp only[ByteArray.size_append,qL,List.size_toArray,List.length_cons,List.length_nil]);omega));refine go 6 ?_;refine bk ((wd++s.extract i (i+1),l)) rfl ?_ ([0]) ?_
    ·exact ⟨by rw[ByteArray.size_append];omega,by omega,by rw[hP,if_pos (by first|exact⟨by omega,by assumption⟩|(refine⟨by omega,?_⟩;first|assumption|(simp_all)))]⟩
    ·refine mo ?_ (aJ (ef rfl (by first|exact Fit.of_eq rfl|exact Fit.of_eq (by rw[nT];rfl)) (aJ (aJ dC))))
     repeat (first|exact cH|refine cr ?_)
   refine kc 3 [5,4,3,0] 6 ?_;refine cJ (fun h8=>?_) (fun h8=>?_)
   ·refine gc 6 ?_;refine bk ((.empty,l)) rfl ?_ ([0]) ?_
    ·exact ⟨Nat.zero_le _,by omega,by rw[hP,if_neg (by rintro⟨ha,hb⟩;first|omega|(simp_all)),if_neg (by first|assumption|exact fun h=>h h8|(simp_all))]⟩
    ·refine mo ?_ (aJ (ef rfl (by first|exact Fit.of_eq rfl|exact Fit.of_eq (by rw[nT];rfl)) (aJ (aJ dC))))
     repeat (first|exact cH|refine cr ?_)
   refine gc 3 ?_;refine oc (gD rQ [.tmp 32] G3 ?_);refine oc (px rQ ?_);refine ko 3 [3,5,0] 4 ?_;refine bk ((.empty,l++[wd])) rfl ?_ ([0]) ?_
   ·exact ⟨Nat.zero_le _,by rw[List.length_append];simp only[List.length_cons,List.length_nil];omega,by rw[hP,if_neg (by rintro⟨ha,hb⟩;first|omega|(simp_all)),if_pos (by first|assumption|exact h8|(simp_all))]⟩
   ·refine mo ?_ (aJ (ef rfl (by first|exact Fit.of_eq rfl|exact Fit.of_eq (by rw[nT];rfl)) (aJ (aJ dC))))
    repeat (first|exact cH|refine cr ?_)
  case B3=>
   rintro⟨wd2,l2⟩ hcut
   try dsimp only at hcut
   refine kc 0 [4,3,5,0] 2 ?_;refine o1 (cG ?_);refine go 2 ?_;refine bk (i+1,wd2,l2) rfl ?_ [0] mz;exact⟨⟨by omega,hcut.1,hcut.2.1,hcut.2.2⟩,show _-(i+1)<_-i by omega⟩
theorem HI(x:Step)(ha:i64 x.a):∃f:Nat,f≤3000∧cD Tryz.prog gl 31 [.agg x.cells] (· =.v (.int .i64 f)):=by
 obtain⟨ha0,ha1⟩:=ha;by_cases h0:x.a<0
 ·refine ⟨((-(x.a+1))%3001).toNat,by omega,?_⟩;refine bD Tryz.func31 Tryz.ntmps31 ?_;refine kc 14 [3] 6 ?_;refine cJ (fun h2=>?_) (fun h2=>?_)
  ·omega
  refine gc 2 ?_;refine o1 (cG ?_);refine o1 (LZ ?_);refine ko 3 [3] 3 ?_;refine o1 (Gu ?_);refine go 4 ?_;refine ez ?_
  (show D.v (Value.int .i64 _)=D.v (Value.int .i64 _));congr 2;omega
 ·refine ⟨(x.a%3001).toNat,by omega,?_⟩;refine bD Tryz.func31 Tryz.ntmps31 ?_;refine kc 14 [3] 6 ?_;refine cj (fun h2=>?_) (fun h2=>?_)
  ·contradiction
  refine gc 5 ?_;refine o1 (Gu ?_);refine go 4 ?_;refine ez ?_
  (show D.v (Value.int .i64 _)=D.v (Value.int .i64 _));congr 2;omega
theorem Ej{s:ByteArray}(h:(gi s).2.1=0):iD 4398046511104 (gi s).1∧(gi s).1.size≤80001:=by
 refine⟨jF (by decide) (pT (Ei h)),?_⟩;have hz:aQ.size=1:=rfl;unfold gi;split
 ·simp only[hz];omega
 ·have h1:=qI (s:=s) (s.size+1) ⟨0,none⟩ (Nat.zero_le _);have h2:=eu (s:=s) (s.size+1) ⟨0,none⟩ (Nat.zero_le _);simp only at h1 h2 ⊢;split
  ·simp only;omega
  ·simp only[hz];omega
def Az(ok:Bool)(t u:ae)(c:Int):D:=.agg (.v (.bool ok)::(t.cells++(u.cells++[.v (.int .i64 c)])))
end
section
open Go Go.Vd Go.RowKit
attribute [local irreducible] bu bA di ak bL cU
variable {g gl:Nat→List D}
def RQ:Ob:=.cells [.d (.v (.bool false)),.d (.v (.int .i64 0)),.d (.v (.int .i64 0)),.d (.v (.string .empty)),.d (.v (.slice none 0 0)),.d (.v (.slice none 0 0)),.d (.v (.int .i64 0)),.d (.v (.int .i64 0)),.d (.v (.string .empty)),.d (.v (.slice none 0 0)),.d (.v (.slice none 0 0)),.d (.v (.int .i64 0))] 41
def Od(b:Bool):D:=cond b (yG 14 0) (.v .nilIface)
def On(b:Bool):Int:=cond b 14 0
def w3:qC→ae×Nat×Bool
 | .ok u d=>(u,d,false)
 | .cI=>(aQ,0,true)
def n3:rq→ae×Nat×Bool
 | .ok u d _=>(u,d,false)
 | .cI=>(aQ,0,true)
theorem LM(o:rq):PB o=.bZ [(n3 o).1.d,.v (.int .i64 (n3 o).2.1),Od (n3 o).2.2]:=by cases o<;>rfl
theorem Mc(hgl:gl 1=pc)(b:Bool):cD Tryz.prog gl 33 [Od b,.v (.int .i64 (On b))] (· =.v (.bool true)):=by
 cases b with
 |false=>
  have h:=Ir (gl:=gl) 0;rw[decide_eq_true rfl] at h;exact h
 |true=>
  have h:=Is (gl:=gl) hgl 14 0 14;rw[decide_eq_true rfl] at h;exact h
def FJ(es:List cy)(most:Nat)(t:ae)(w:Bool)(out:Out)(ob':List Ob):Prop:=
 ∃(u:ae) (d':Int) (code:Int) (w':Bool),out=.ret (.d (.bZ [u.d,.v (.int .i64 d'),.v (.int .i64 code)]))∧ob'=[bc es w',ba]∧(w'=false→∃n o,RN es most n t 0 0 o∧u=(n3 o).1∧d'=(n3 o).2.1∧code=On (n3 o).2.2)
variable {es:List cy}
theorem Ed(hF:fX es)(w:Bool)(x:Step)(hxu:x.u.size≤1099511627776)(s:ByteArray):
 et Tryz.prog (uG g) 15 (iX es w) [F1 x (.cb 0 0) (.cb 3 0),.d (.v (.string s))] fun out ob'=> ∃(ok:Bool) (kt mt:Int) (st:ByteArray) (lt:List aP) (at1:List ae) (ku mu:Int) (su:ByteArray) (lu:List aP) (au:List ae) (c:Int) (w':Bool),out=.ret (.d (Az ok (.mk kt mt st lt at1) (.mk ku mu su lu au) c))∧ob'=iX es w'∧
  (ok=true→w'=false∧Wt (eh es) (yv x.u) (.mk kt mt st lt at1) 0∧(ae.mk kt mt st lt at1).size≤80001):=by
 have hpt:=wR (g:=g) s;have hpp:=Ej (s:=s);generalize hcq:(gi s).2.1=cq at hpt hpp;generalize haq:(gi s).2.2=aq at hpt;obtain⟨kt,mt,st,lt,at1,hT⟩:=ae.case (gi s).1
 rw[hT] at hpt hpp;have hpar:=EA (gl:=uG g) x.u hxu;have hpl:=cQ (yv x.u);unfold iX;by_cases hc0:cq=0;rotate_left
 ·refine bS Tryz.func15 Tryz.ntmps15 5 ?_;refine gc 9 ?_;refine oc (cv PU rfl rfl (hpt) (an .nil) ?_);refine ko 10 [6,5,4,2] 6 ?_;refine mS 17 true rfl (by simp[hc0]) ?_;refine mi ?_ (hbw:=by exact rfl);refine mi ?_ (hbw:=by exact rfl);refine mi ?_ (hbw:=by exact rfl);refine mi ?_ (hbw:=by exact rfl);refine mi ?_ (hbw:=by exact rfl);refine mi ?_ (hbw:=by exact rfl);refine o1 (fF ?_);refine go 2 ?_;refine ct ?_;refine kc 0 [4] 8 ?_;refine eo (Az false aQ aQ (-1)) [0,1,2,3,4] (iX es w) ?_
  ·exact ⟨false,_,_,_,_,_,_,_,_,_,_,-1,w,rfl,rfl,fun h=>by cases h⟩
 ·refine bS Tryz.func15 Tryz.ntmps15 5 ?_;refine gc 9 ?_;refine oc (cv PU rfl rfl (hpt) (an .nil) ?_);refine ko 10 [6,5,4,2] 6 ?_;refine mS 17 false rfl (by simp[hc0]) ?_;refine mn ?_ (hbw:=by exact rfl);refine go 1 ?_;refine mn ?_ (hbw:=by exact rfl);refine go 1 ?_;refine mn ?_ (hbw:=by exact rfl);refine go 1 ?_;refine mn ?_ (hbw:=by exact rfl);refine oc (ck Ow rfl rfl (hpar) [] rfl .nil (an .nil) ?_);refine mn ?_ (hbw:=by exact rfl);refine go 1 ?_;refine mn ?_ (hbw:=by exact rfl);refine go 1 ?_;refine o1 (jI ?_);refine go 2 ?_;refine cj (fun h2=>?_) (fun h2=>?_)
  ·refine kc 0 [4] 8 ?_;refine eo (Az false aQ aQ (-1)) [0,1,2,3,4] (iX es w) ?_
   ·exact ⟨false,_,_,_,_,_,_,_,_,_,_,-1,w,rfl,rfl,fun h=>by cases h⟩
  refine kc 3 [5,4,2] 0 ?_;have hl6:(yv x.u).length≤6:=(by first|omega|(simp_all;omega));obtain⟨hsh,hsz⟩:=hpp hc0;have hin:=sk (gl:=uG g) hF.ok (ps:=yv x.u) hl6 (most:=3000) (S:=800001) (by decide) ⟨by decide,by decide⟩ (DO (.mk kt mt st lt at1)+1) (.mk kt mt st lt at1) (Nat.lt_succ_self _) [] w (fun i y hy=>by simp at hy) (by have:=qt (.mk kt mt st lt at1);simp only[List.length_nil];omega) (by omega) hsh;refine xo (ι:=Int×Bool×Int×Int×ByteArray×List aP×List ae) (fun⟨cz,w2,ku,mu,su,lu,au⟩=>[(8,.d (.v (.int .i64 cz))),(7,.cb 8 0)]) (fun⟨cz,w2,ku,mu,su,lu,au⟩=>[pE (es.map (·.d)),dR,.cV (fL es),HX 4 es w2,ba,JA x (.cb 0 0) (.cb 3 0),RQ,tO kt mt st lt at1,tO ku mu su lu au]) [5,4] (fun⟨cz,w2,ku,mu,su,lu,au⟩=>(cz=0→w2=false∧Wt (eh es) (yv x.u) (.mk kt mt st lt at1) 0∧(ae.mk kt mt st lt at1).size≤80001)) rfl ?A9 ?B9
  case A9=>
   refine gz [0,1,2,3,4,5,7] mixed ?_;refine cT (rs:=[6,12]) (by kernel_rfl) rfl ⟨?_,?_,trivial⟩
   ·skip
    refine A4 6 rfl (ck Ow rfl rfl (hpar) [] rfl .nil (an .nil) ?_);refine cT (rs:=[8,12]) (by kernel_rfl) rfl ⟨?_,?_,trivial⟩
    ·skip
     refine A4 8 rfl (aN uT rfl rfl rfl rfl (hin) [3,4] (bj (cr .nil)) rfl rfl rfl rfl (an (bo (LO (bo (an .nil))))) (fun s ob' hq=>?_) (fun s ob' hq=>?_));rotate_left
     ·obtain ⟨_,_,_,hq1,_⟩:=hq;cases hq1
     obtain⟨⟨ku,mu,su,lu,au⟩,c1,w1,hq1,rfl,_,hin2⟩:=hq;cases hq1;refine⟨_,_,_,_,_,rfl,rfl,rfl,rfl,rfl,?_⟩;refine ga [9,10,11] ?_;refine A2 12 rfl (qB bw ?_);refine A2 13 rfl (dN bw ?_);refine ga [14] ?_;refine aZ ?_;refine bk (c1,w1,ku,mu,su,lu,au) rfl ?_ [0,1,2,3,4,5,6,7,11] mz;exact fun h=>⟨(hin2 h).1,(hin2 h).2.1,hsz⟩
    ·skip
     refine A4 12 rfl (qB bw ?_);refine A2 8 rfl (aN uT rfl rfl rfl rfl (hin) [3,4] (bj (cr .nil)) rfl rfl rfl rfl (an (bo (LO (bo (an .nil))))) (fun s ob' hq=>?_) (fun s ob' hq=>?_));rotate_left
     ·obtain ⟨_,_,_,hq1,_⟩:=hq;cases hq1
     obtain⟨⟨ku,mu,su,lu,au⟩,c1,w1,hq1,rfl,_,hin2⟩:=hq;cases hq1;refine⟨_,_,_,_,_,rfl,rfl,rfl,rfl,rfl,?_⟩;refine ga [9,10,11] ?_;refine A2 13 rfl (dN bw ?_);refine ga [14] ?_;refine aZ ?_;refine bk (c1,w1,ku,mu,su,lu,au) rfl ?_ [0,1,2,3,4,5,6,7,11] mz;exact fun h=>⟨(hin2 h).1,(hin2 h).2.1,hsz⟩
   ·skip
    refine A4 12 rfl (qB bw ?_);refine A2 6 rfl (ck Ow rfl rfl (hpar) [] rfl .nil (an .nil) ?_);refine A2 8 rfl (aN uT rfl rfl rfl rfl (hin) [3,4] (bj (cr .nil)) rfl rfl rfl rfl (an (bo (LO (bo (an .nil))))) (fun s ob' hq=>?_) (fun s ob' hq=>?_));rotate_left
    ·obtain ⟨_,_,_,hq1,_⟩:=hq;cases hq1
    obtain⟨⟨ku,mu,su,lu,au⟩,c1,w1,hq1,rfl,_,hin2⟩:=hq;cases hq1;refine⟨_,_,_,_,_,rfl,rfl,rfl,rfl,rfl,?_⟩;refine ga [9,10,11] ?_;refine A2 13 rfl (dN bw ?_);refine ga [14] ?_;refine aZ ?_;refine bk (c1,w1,ku,mu,su,lu,au) rfl ?_ [0,1,2,3,4,5,6,7,10] mz;exact fun h=>⟨(hin2 h).1,(hin2 h).2.1,hsz⟩
  case B9=>
   rintro⟨cz,w2,ku,mu,su,lu,au⟩ hcut
   try dsimp only at hcut
   refine kc 0 [8,7,5,4] 12 ?_;refine eo (Az (decide (cz=0)) (.mk kt mt st lt at1) (.mk ku mu su lu au) cz) [0,1,2,3,4] (iX es w2) ?_
   ·exact ⟨_,_,_,_,_,_,_,_,_,_,_,_,w2,rfl,rfl,fun h=>hcut (of_decide_eq_true h)⟩
theorem Cb(hE:dg es){ps:List ByteArray}{c:Int}(hc:0≤c){most:Nat}(hm:most≤1000000)(w:Bool)(k m:Int)(s:ByteArray)(ls:List aP)(args:List ae)(hz:c+(ae.mk k m s ls args).size+30000*most≤1000000000000)(hw:Wt (eh es) ps (.mk k m s ls args) c):
 et Tryz.prog gl 16 [bc es w,ba] [.cb 0 0,.d (ae.mk k m s ls args).d,.d (.v (.int .i64 most))] (FJ es most (.mk k m s ls args) w):=by
 have hwh:=zA (gl:=gl) hE (ps:=ps) hm ((ae.mk k m s ls args).size+30000*(most-0)+1) k m s ls args c 0 0 w false (by omega) hc (by omega) (by omega) hw (by omega) (by omega);obtain⟨T0,hT0⟩:∃x,x=ae.mk k m s ls args:=⟨_,rfl⟩;rw[show FJ es most (.mk k m s ls args) w=FJ es most T0 w by rw[hT0]];rw[show DI es most ((ae.mk k m s ls args).size+30000*(most-0)+1) (.mk k m s ls args) 0 0 w false=DI es most ((ae.mk k m s ls args).size+30000*(most-0)+1) T0 0 0 w false by rw[hT0]] at hwh;generalize(ae.mk k m s ls args).size+30000*(most-0)+1=G at hwh;refine bS Tryz.func16 Tryz.ntmps16 2 ?_;refine kc 16 [9,6,4,0] 5 ?_;refine oc (aN Ix rfl rfl rfl rfl (hwh) [0,1,4] (bj (cr (bj .nil))) rfl rfl rfl rfl (an (bo (an .nil))) (fun s ob' hq=>?_) (fun s ob' hq=>?_));rotate_left
 ·obtain ⟨_,_,_,_,_,hq1,_⟩:=hq;cases hq1
 obtain⟨⟨k1,m1,s1,l1,a1⟩,d1,t1,w1,p1,hq1,rfl,hd1,hd2,hp1,hp2,hres⟩:=hq;cases hq1;refine⟨_,_,_,_,_,rfl,rfl,rfl,rfl,rfl,?_⟩;refine ko 5 [10,9,6,0] 7 ?_;refine' oo (yt:=26) (d:=22) 4 ?a2 ?b2 ?_
 case a2=>
  intro hc hK;refine go 4 ?_;exact hK [_,_,_,_] rfl rfl
 case b2=>
  intro _ hK;refine go 4 ?_;exact hK [_,_,_,_] rfl
 refine go 2 ?_;refine cj (fun h3=>?_) (fun h3=>?_)
 ·refine kc 0 [6] 10 ?_;refine eo (.bZ [aQ.d,.v (.int .i64 0),.v (.int .i64 14)]) [0,1] [bc es w1,ba] ?_
  ·refine ⟨aQ,0,14,w1,rfl,rfl,fun h=>?_⟩;obtain⟨e1,e2⟩:=hres h;rcases e2 with⟨e3,e4|e4⟩|⟨e3,e4,e5⟩
   ·cases e4
   ·exact ⟨_,.cI,e4,rfl,rfl,rfl⟩
   ·exfalso;rw[e3,h] at h3;simp at h3
 refine kc 3 [10,9,6] 0 ?_;refine gz [0,1,2,3,4] mixed ?_;refine A2 5 rfl (dN bw ?_);refine ga [6,7] ?_;refine aZ ?_;refine ge 2 ?_;refine eo (.bZ [(ae.mk k1 m1 s1 l1 a1).d,.v (.int .i64 d1),.v (.int .i64 0)]) [0,1] [bc es w1,ba] ?_
 ·have hok:t1=false∧w1=false:=(by cases t1<;>cases w1<;>simp_all);obtain⟨rfl,rfl⟩:=hok;refine⟨.mk k1 m1 s1 l1 a1,d1,0,false,rfl,rfl,fun _=>?_⟩;obtain⟨e1,e2⟩:=hres rfl;rcases e2 with⟨e3,_⟩|⟨e3,e4,e5⟩
  ·cases e3
  ·exact ⟨_,.ok (.mk k1 m1 s1 l1 a1) d1 p1,e5,rfl,rfl,rfl⟩
theorem AJ(hgl:(uG g) 1=pc)(hF:fX es)(w:Bool)(x:Step)(hxu:x.u.size≤1099511627776)(hxa:i64 x.a):
 et Tryz.prog (uG g) 13 (iX es w) [F1 x (.cb 0 0) (.cb 3 0)] fun out ob'=> ∃w':Bool,out=.ret (.d (.v (.bool true)))∧ob'=iX es w':=by
 have hrs:=Ed (g:=g) hF w x hxu x.s;obtain⟨f,hf,hfu⟩:=HI (gl:=uG g) x hxa;unfold iX;refine bS Tryz.func13 Tryz.ntmps13 5 ?_;refine gc 12 ?_;refine oc (aN Rl rfl rfl rfl rfl (hrs) [0,1,2,3,4] (bj (cr (.cons rfl .cV (bj (cr .nil))))) rfl rfl rfl rfl (an (an .nil)) (fun s ob' hq=>?_) (fun s ob' hq=>?_));rotate_left
 ·obtain ⟨_,_,_,_,_,_,_,_,_,_,_,_,_,hq1,_⟩:=hq;cases hq1
 obtain⟨ok,kt,mt,st,lt,at1,ku,mu,su,lu,au,cR,w1,hq1,rfl,hok⟩:=hq;cases hq1;refine⟨_,_,_,_,_,rfl,rfl,rfl,rfl,rfl,?_⟩;refine ko 5 [3,1] 7 ?_;refine cj (fun h2=>?_) (fun h2=>?_)
 ·refine kc 0 [] 7 ?_;refine eo (.v (.bool true)) [0,1,2,3,4] (iX es w1) ?_
  ·exact ⟨w1,rfl,rfl⟩
 refine kc 3 [3,1] 0 ?_;have hok1:ok=true:=(by first|exact h2|(simp_all));obtain⟨rfl,hW,hz⟩:=hok hok1;have hrw:=Cb (gl:=uG g) hF.ok (ps:=yv x.u) (c:=0) (Int.le_refl _) (most:=f) (by omega) false kt mt st lt at1 (by omega) hW;refine xo (ι:=Int×Int×Bool×Int×Int×ByteArray×List aP×List ae) (fun⟨nR,cz,w2,kv,mw,sv,lv,av⟩=>[(5,.d (.v (.int .i64 nR))),(6,.d (.v (.int .i64 cz))),(4,.cb 7 0)]) (fun⟨nR,cz,w2,kv,mw,sv,lv,av⟩=>[pE (es.map (·.d)),dR,.cV (fL es),HX 4 es w2,ba,JA x (.cb 0 0) (.cb 3 0),.cells [.d (.v (.bool ok)),.d (.v (.int .i64 kt)),.d (.v (.int .i64 mt)),.d (.v (.string st)),.d (.sl 3 (bF lt)),.d (.sl 5 (aH at1)),.d (.v (.int .i64 ku)),.d (.v (.int .i64 mu)),.d (.v (.string su)),.d (.sl 3 (bF lu)),.d (.sl 5 (aH au)),.d (.v (.int .i64 cR))] 41,tO kv mw sv lv av]) [3,1] (fun⟨nR,cz,w2,kv,mw,sv,lv,av⟩=>(w2=false→∃n o,RN es f n (.mk kt mt st lt at1) 0 0 o∧(ae.mk kv mw sv lv av)=(n3 o).1∧nR=(n3 o).2.1∧cz=On (n3 o).2.2)) rfl ?A12 ?B12
 case A12=>
  refine gz [0,1,2,3,4,5,6] mixed ?_;refine cT (rs:=[7,13]) (by kernel_rfl) rfl ⟨?_,?_,trivial⟩
  ·skip
   refine A4 7 rfl (cv Mo rfl rfl (hfu) (bo .nil) ?_);refine cT (rs:=[8,13]) (by kernel_rfl) rfl ⟨?_,?_,trivial⟩
   ·skip
    refine A4 8 rfl (aN Oy rfl rfl rfl rfl (hrw) [3,4] (bj (cr .nil)) rfl rfl rfl rfl (an (bo (an .nil))) (fun s ob' hq=>?_) (fun s ob' hq=>?_));rotate_left
    ·obtain ⟨_,_,_,_,hq1,_⟩:=hq;cases hq1
    obtain⟨⟨kv,mw,sv,lv,av⟩,d2,c2,w2,hq1,rfl,hres⟩:=hq;cases hq1;refine⟨_,_,_,_,_,rfl,rfl,rfl,rfl,rfl,?_⟩;refine ga [9,10,11,12] ?_;refine A2 13 rfl (qB bw ?_);refine A2 14 rfl (dN bw ?_);refine ga [15,16] ?_;refine aZ ?_;refine bk (d2,c2,w2,kv,mw,sv,lv,av) rfl ?_ [0,1,2,3,4,5,6,7] mz;exact hres
   ·skip
    refine A4 13 rfl (qB bw ?_);refine A2 8 rfl (aN Oy rfl rfl rfl rfl (hrw) [3,4] (bj (cr .nil)) rfl rfl rfl rfl (an (bo (an .nil))) (fun s ob' hq=>?_) (fun s ob' hq=>?_));rotate_left
    ·obtain ⟨_,_,_,_,hq1,_⟩:=hq;cases hq1
    obtain⟨⟨kv,mw,sv,lv,av⟩,d2,c2,w2,hq1,rfl,hres⟩:=hq;cases hq1;refine⟨_,_,_,_,_,rfl,rfl,rfl,rfl,rfl,?_⟩;refine ga [9,10,11,12] ?_;refine A2 14 rfl (dN bw ?_);refine ga [15,16] ?_;refine aZ ?_;refine bk (d2,c2,w2,kv,mw,sv,lv,av) rfl ?_ [0,1,2,3,4,5,6,7] mz;exact hres
  ·skip
   refine A4 13 rfl (qB bw ?_);refine A2 7 rfl (cv Mo rfl rfl (hfu) (bo .nil) ?_);refine A2 8 rfl (aN Oy rfl rfl rfl rfl (hrw) [3,4] (bj (cr .nil)) rfl rfl rfl rfl (an (bo (an .nil))) (fun s ob' hq=>?_) (fun s ob' hq=>?_));rotate_left
   ·obtain ⟨_,_,_,_,hq1,_⟩:=hq;cases hq1
   obtain⟨⟨kv,mw,sv,lv,av⟩,d2,c2,w2,hq1,rfl,hres⟩:=hq;cases hq1;refine⟨_,_,_,_,_,rfl,rfl,rfl,rfl,rfl,?_⟩;refine ga [9,10,11,12] ?_;refine A2 14 rfl (dN bw ?_);refine ga [15,16] ?_;refine aZ ?_;refine bk (d2,c2,w2,kv,mw,sv,lv,av) rfl ?_ [0,1,2,3,4,5,6,7] mz;exact hres
 case B12=>
  rintro⟨nR,cz,w2,kv,mw,sv,lv,av⟩ hcut
  try dsimp only at hcut
  refine kc 0 [5,6,4,3,1] 11 ?_;refine cj (fun h5=>?_) (fun h5=>?_)
  ·refine kc 0 [] 7 ?_;refine eo (.v (.bool true)) [0,1,2,3,4] (iX es w2) ?_
   ·exact ⟨w2,rfl,rfl⟩
  refine kc 3 [5,6,4,3,1] 0 ?_;have hw2:w2=false:=(by first|exact h5|(simp_all));subst hw2;obtain⟨n,o,hR,hv,hn,hcd⟩:=hcut rfl;have hpw:=Fa (gl:=uG g) hF (ps:=yv x.u) (most:=f) (by omega) kt mt st lt at1 o hR (by omega) hW;rw[LM o,←hv] at hpw;have hcb:=Mc (gl:=uG g) hgl (n3 o).2.2;subst hn hcd;generalize(n3 o).2.1=nP at hpw;generalize(n3 o).2.2=bP at hpw hcb;have hvz:(ae.mk kv mw sv lv av).size≤1099511627776:=(by
   rw[hv];cases o with
   |cI=>decide
   |ok u d' p1=>have:=(GS hF.ok n hR (Nat.zero_le _) (Int.le_refl _) hW |>.2.2.2.2).2;simp only[n3];omega)
  have hsm:=yo (gl:=uG g) kv mw sv lv av kv mw sv lv av hvz;rw[ae.qM] at hsm;refine xo (ι:=Unit) (fun _=>[(8,.d (.v (.int .i64 nP))),(9,.d (Od bP)),(7,.cb 8 0)]) (fun _=>[pE (es.map (·.d)),dR,.cV (fL es),HX 4 es false,ba,JA x (.cb 0 0) (.cb 3 0),.cells [.d (.v (.bool ok)),.d (.v (.int .i64 kt)),.d (.v (.int .i64 mt)),.d (.v (.string st)),.d (.sl 3 (bF lt)),.d (.sl 5 (aH at1)),.d (.v (.int .i64 ku)),.d (.v (.int .i64 mu)),.d (.v (.string su)),.d (.sl 3 (bF lu)),.d (.sl 5 (aH au)),.d (.v (.int .i64 cR))] 41,tO kv mw sv lv av,tO kv mw sv lv av]) [5,6,4] (fun _=>True) rfl ?A13 ?B13
  case A13=>
   refine gz [0,1,2,3,4,5,6] mixed ?_;refine cT (rs:=[7,13]) (by kernel_rfl) rfl ⟨?_,?_,trivial⟩
   ·skip
    refine A4 7 rfl (cv Mo rfl rfl (hfu) (bo .nil) ?_);refine cT (rs:=[8,13]) (by kernel_rfl) rfl ⟨?_,?_,trivial⟩
    ·skip
     refine A4 8 rfl (ck Ox rfl rfl (hpw) [0,1,2] rfl (bj (cr (.cons rfl .cV .nil))) (an (bo (an .nil))) ?_);refine ga [9,10,11,12] ?_;refine A2 13 rfl (qB bw ?_);refine A2 14 rfl (dN bw ?_);refine ga [15,16] ?_;refine aZ ?_;refine bk () rfl ?_ [0,1,2,3,4,5,6,7,8] mz;trivial
    ·skip
     refine A4 13 rfl (qB bw ?_);refine A2 8 rfl (ck Ox rfl rfl (hpw) [0,1,2] rfl (bj (cr (.cons rfl .cV .nil))) (an (bo (an .nil))) ?_);refine ga [9,10,11,12] ?_;refine A2 14 rfl (dN bw ?_);refine ga [15,16] ?_;refine aZ ?_;refine bk () rfl ?_ [0,1,2,3,4,5,6,7,8] mz;trivial
   ·skip
    refine A4 13 rfl (qB bw ?_);refine A2 7 rfl (cv Mo rfl rfl (hfu) (bo .nil) ?_);refine A2 8 rfl (ck Ox rfl rfl (hpw) [0,1,2] rfl (bj (cr (.cons rfl .cV .nil))) (an (bo (an .nil))) ?_);refine ga [9,10,11,12] ?_;refine A2 14 rfl (dN bw ?_);refine ga [15,16] ?_;refine aZ ?_;refine bk () rfl ?_ [0,1,2,3,4,5,6,7,8] mz;trivial
  case B13=>
   rintro _ hcut
   try dsimp only at hcut
   refine kc 0 [8,9,7,5,6,4] 4 ?_;refine oc (cv Rj rfl rfl (hcb) (an (an .nil)) ?_);refine ko 3 [10,8,7,5,6,4] 4 ?_;refine' oa (yt:=58) (d:=55) 3 ?a6 ?b6 ?_
   case a6=>
    intro hc hK;refine go 3 ?_;exact hK [_,_,_] rfl rfl
   case b6=>
    intro _ hK;refine go 3 ?_;exact hK [_,_,_] rfl
   refine go 1 ?_;refine' oa (yt:=67) (d:=60) 7 ?a7 ?b7 ?_
   case a7=>
    intro hc hK;refine go 3 ?_;refine' oo (yt:=66) (d:=63) 3 ?a8 ?b8 ?_ (hg:=.yes rfl rfl rfl rfl)
    case a8=>
     intro hc hK;refine go 2 ?_;refine gy ?_;refine oc (cv Rk rfl rfl (hsm) (bo (bo .nil)) ?_);exact hK [_,_,_] rfl rfl
    case b8=>
     intro _ hK;refine go 3 ?_;exact hK [_,_,_] rfl
    exact hK [_,_,_,_] rfl rfl
   case b7=>
    intro _ hK;refine go 7 ?_;exact hK [_,_,_,_,_,_,_] rfl
   refine go 4 ?_;refine sZ [0,1,2,3,4] (iX es false) ?_
   ·exact ⟨false,by simp,rfl⟩
end
section
open Go Go.Vd Go.RowKit
attribute [local irreducible] bu bA di ak bL cU
variable {g gl:Nat→List D}
set_option maxHeartbeats 1600000 in
theorem Ax(hgl:(uG g) 1=pc)(l:List Step)(hl:l.length≤1048576)(hs:∀x∈l,x.u.size≤1048576∧i64 x.a):cD Tryz.prog (uG g) 6 [.sl 6 (steps l)] (· =.v (.bool true)):=by
 refine bD Tryz.func6 Tryz.ntmps6 ?_;refine gc 8 ?_;refine oc (cv R3 rfl rfl (Fv) .nil ?_);refine go 3 ?_;refine cf ?_;refine gc 5 ?_;refine oc (aN R2 rfl rfl rfl rfl (Cc (g:=g) l hl) [] .nil rfl rfl rfl rfl (an (an .nil)) (fun s ob' hq=>?_) (fun s ob' hq=>?_));rotate_left
 ·obtain ⟨_,_,hq1,_⟩:=hq;cases hq1
 obtain⟨its0,els,hq1,rfl,hel,hgood0⟩:=hq;cases hq1;have hpl9:=zq els;refine⟨_,_,_,_,_,rfl,rfl,rfl,rfl,rfl,?_⟩;refine ko 4 [3] 6 ?_;refine lp (ι:=Nat×List pM) (fun⟨i,eD⟩=>[(4,int i)]) (fun⟨i,eD⟩=>[dG eD]) [3] (fun⟨i,eD⟩=>i≤els.length∧∀e∈els,nE eD e.b1 e.b2) (fun⟨i,eD⟩=>els.length-i) ((0,its0)) ([0]) rfl ?I2 ?M2 ?H2
 case I2=>
  exact⟨Nat.zero_le _,fun e he=>(hgood0 e he).1⟩
 case M2=>
  exact mz
 case H2=>
  rintro⟨i,eD⟩ hinv
  try dsimp only at hinv
  refine kc 0 [4,3] 9 ?_;refine cJ (fun h5=>?_) (fun h5=>?_)
  ·refine kc 5 [] 6 ?_;refine ez ?_;rfl
  refine kc 5 [4,3] 0 ?_;have hi:i<els.length:=(by omega);obtain⟨kk,iJ,es,w,hk,hF,hb1,hb2⟩:=hinv.2 _ (List.getElem_mem hi);have hxs:=hs _ (hgood0 _ (List.getElem_mem hi)).2;have hkl:=AJ (g:=g) hgl hF w els[i].x (by have:=hxs.1;omega) hxs.2;refine gc 3 ?_;refine o1 (cu O5 QO ?_ (he:=by exact(Lr hi)));refine go 1 ?_;refine oc (JI Rm rfl rfl rfl rfl (pi:=0) (x:=⟨iX es w,iJ⟩) rfl hk rfl hkl (Hh hb1 hb2) (fun y=>rfl) (fun s ob' hq=>by obtain⟨_,hq1,_⟩:=hq;cases hq1;exact⟨_,rfl⟩) (fun s ob' hq=>by obtain⟨_,hq1,_⟩:=hq;cases hq1) ?_);rintro d ob' pls' ⟨w2,hq1,rfl⟩ hkeep;cases hq1;refine ko 3 [5,4,3] 6 ?_;refine cf ?_;refine gc 5 ?_;refine o1 (cG ?_);refine go 2 ?_;refine bk (i+1,eD.set kk ⟨iX es w2,pls'⟩) rfl ?_ [0] mz;exact⟨⟨by omega,fun e he=>J4 hk hF hkeep (hinv.2 e he)⟩,show _-(i+1)<_-i by omega⟩
end
section
open Go Go.Vd Go.RowKit Go.ChangeShapes Go.WideShapes Go.ChangeAt
theorem own:ownKnob Tryz.prog.godebug=none:=by kernel_rfl
theorem one_le{H:Type}(d:DataW H):1≤Rows.uptoBulk d:=by
 cases d with
 |lit l=>cases l<;>simp[Rows.uptoBulk]
 |nil=>simp[Rows.uptoBulk]
 |ptr d=>simp[Rows.uptoBulk]
 |slice elems spare=>simp[Rows.uptoBulk]
 |agg parts=>simp[Rows.uptoBulk]
 |iface t d=>simp[Rows.uptoBulk]
 |map entries=>simp[Rows.uptoBulk]
 |held h=>simp[Rows.uptoBulk]
theorem F3{H:Type}{d:DataW H}{l:List (DataW H)}(h:d∈l):Rows.uptoBulk d≤Rows.uptoBulkAll l:=by
 induction l with
 |nil=>cases h
 |cons x r ih=>
  simp only[Rows.uptoBulkAll];cases List.mem_cons.1 h with
  |inl e=>subst e;omega
  |inr e=>have:=ih e;omega
theorem length_le{H:Type}(l:List (DataW H)):l.length≤Rows.uptoBulkAll l:=by
 induction l with
 |nil=>simp[Rows.uptoBulkAll]
 |cons x r ih=>have:=one_le x;simp only[Rows.uptoBulkAll,List.length_cons];omega
section
variable {H:Type} {enc:TypeId×Value→H} {W:World} {sp:Nat→Bool} {hd:Bool}
variable {v:Value} {fuel:Nat}
set_option maxRecDepth 100000 in
theorem vJ{x:DataW H×List MemPlace}(h:DataW.trod enc Tryz.prog W 0 sp hd fuel 22 v.cells.toList=some x)(hv:v.oneCell'=true):
 ∃l:List Step,(D.sl 6 (steps l)).Den (rk W) v∧l.length≤Rows.uptoBulk x.1∧∀o∈l,o.u.size≤Rows.uptoBulk x.1∧i64 o.a:=by
 have hu:=DS;have he:(bl Tryz.prog 22).elem=28:=by rw[QM]
 rw[he] at hu;have c25:Tryz.prog.cellsOf 28=6:=by kernel_rfl
 have c3:Tryz.prog.cellsOf 3=1:=by kernel_rfl
 have c9:Tryz.prog.cellsOf 9=1:=by kernel_rfl
 rw[Value.Ab hv] at h;rcases DataW.trod_slice hu h with⟨h1,_⟩|⟨a,len,cap,elems,rest,n,rfl,h1,ex,_,h2,_,h3,h4,_⟩
 ·simp at h1;subst h1;exact⟨[],⟨none,0,rfl,by simp[steps],fun hn=>absurd rfl hn⟩,by simp,by simp⟩
 ·simp at h1;subst h1;have key:∀i,i<len→∃st:Step,(st.u.size≤Rows.uptoBulk x.1∧i64 st.a)∧∀(j:Nat) y,st.cells[j]? =some y→∃u,W.cell? (a.add (i*6) |>.add j)=some u∧u.oneCell'=true∧∀m,y.Den m u:=by
   intro i hi;have:=h4 i hi;rw[c25,List.getElem?_eq_getElem (by omega)] at this;obtain⟨cs,hcs,hst⟩:=Option.bind_eq_some_iff.1 this;obtain⟨_,hlen,hcell⟩:=World.cells?_some hcs;obtain⟨xs,n',rfl,exs,_,hxl,hf⟩:=DataW.trod_struct Tryz.underlying28 hst;have hx6:xs.length=6:=hxl;have f0:=hf 0 _ rfl;have f1:=hf 1 _ rfl;have f2:=hf 2 _ rfl;have f3:=hf 3 _ rfl;have f4:=hf 4 _ rfl;have f5:=hf 5 _ rfl;rw[List.getElem?_eq_getElem (by omega)] at f0 f1 f2 f3 f4 f5
   match cs,hlen with
   |[x0,x1,x2,x3,x4,x5],_=>
    have g0:DataW.trod enc Tryz.prog W 0 sp hd n' 3 (([x0,x1,x2,x3,x4,x5].drop 0).take (Tryz.prog.cellsOf 3))=some xs[0]:=f0;rw[c3] at g0;have g1:DataW.trod enc Tryz.prog W 0 sp hd n' 9 (([x0,x1,x2,x3,x4,x5].drop 1).take (Tryz.prog.cellsOf 9))=some xs[1]:=f1;rw[c9] at g1;have g2:DataW.trod enc Tryz.prog W 0 sp hd n' 9 (([x0,x1,x2,x3,x4,x5].drop 2).take (Tryz.prog.cellsOf 9))=some xs[2]:=f2;rw[c9] at g2;have g3:DataW.trod enc Tryz.prog W 0 sp hd n' 9 (([x0,x1,x2,x3,x4,x5].drop 3).take (Tryz.prog.cellsOf 9))=some xs[3]:=f3;rw[c9] at g3;have g4:DataW.trod enc Tryz.prog W 0 sp hd n' 3 (([x0,x1,x2,x3,x4,x5].drop 4).take (Tryz.prog.cellsOf 3))=some xs[4]:=f4;rw[c3] at g4;have g5:DataW.trod enc Tryz.prog W 0 sp hd n' 3 (([x0,x1,x2,x3,x4,x5].drop 5).take (Tryz.prog.cellsOf 3))=some xs[5]:=f5;rw[c3] at g5;obtain⟨k,e0,_⟩:=qh (k:=0) g0;obtain⟨s,e1⟩:=u6 g1;obtain⟨t,e2⟩:=u6 g2;obtain⟨u,e3,es1,_⟩:=DataW.trod_string uY g3;obtain⟨a',e4,i4⟩:=qh (k:=0) g4;obtain⟨b',e5,i5⟩:=qh (k:=0) g5;simp only[List.drop_zero,List.drop_succ_cons,List.take_succ_cons,List.take_zero,List.cons.injEq,and_true] at e0 e1 e2 e3 e4 e5;subst e0 e1 e2 e3 e4 e5;have hbd:u.size≤Rows.uptoBulk x.1:=by
     have q1:=F3 (List.mem_map_of_mem (f:=(·.1)) (List.getElem_mem (show 3<xs.length by omega)));have q2:=F3 (List.mem_map_of_mem (f:=(·.1)) (List.getElem_mem (show i<elems.length by omega)));rw[es1] at q1;rw[exs] at q2;rw[ex];simp only[Rows.uptoBulk] at q1 q2 ⊢;have q3:u.data.toList.length=u.size:=rfl;omega
    refine⟨⟨k,s,t,u,a',b'⟩,⟨hbd,i4⟩,fun j y hy=>?_⟩;have hj:j<6:=by have:=(List.getElem?_eq_some_iff.1 hy).1;simpa[Step.cells] using this
    rw[hcell j hj]
    match j,hj with
    |0,_=>simp[Step.cells] at hy;subst hy;exact⟨_,rfl,rfl,fun m=>rfl⟩
    |1,_=>simp[Step.cells] at hy;subst hy;exact⟨_,rfl,rfl,fun m=>rfl⟩
    |2,_=>simp[Step.cells] at hy;subst hy;exact⟨_,rfl,rfl,fun m=>rfl⟩
    |3,_=>simp[Step.cells] at hy;subst hy;exact⟨_,rfl,rfl,fun m=>rfl⟩
    |4,_=>simp[Step.cells] at hy;subst hy;exact⟨_,rfl,rfl,fun m=>rfl⟩
    |5,_=>simp[Step.cells] at hy;subst hy;exact⟨_,rfl,rfl,fun m=>rfl⟩
  obtain⟨l,hl,hp⟩:=Dd key;refine⟨l,⟨some a,cap,by rw[ug,hl],by rw[ug,hl];exact h2,fun hn=>?_⟩,?_,fun o ho=>?_⟩
  ·have hl0:0<l.length:=List.length_pos_iff.2 fun e=>hn (by simp[steps,e])
   have hsp:a.spot=none:=by
    obtain⟨_,hc⟩:=hp 0 l[0] (by simp[hl0]);obtain⟨u,hu,_⟩:=hc 0 _ rfl;simp only[Nat.zero_mul] at hu;have e:(a.add 0).add 0=a:=by simp[Addr.add]
    rw[e] at hu;exact World.cell?_spot hu
   obtain⟨ab,ao,OZ⟩:=a;simp only at hsp;subst hsp;refine⟨ab,ao,rfl,Bg Step.cells fun i st hst=>⟨rfl,?_⟩⟩;obtain⟨_,hc⟩:=hp i st hst;have:∀j y,st.cells[j]? =some y→∃u,rk W ab (ao+i*6+j)=some u∧y.Den (rk W) u:=fun j y hy=>by
    obtain⟨u,h5,h6,h7⟩:=hc j y hy;rw[fG,fG] at h5;exact⟨u,vX h5 h6,h7 _⟩
   exact⟨this 0 _ rfl,this 1 _ rfl,this 2 _ rfl,this 3 _ rfl,this 4 _ rfl,this 5 _ rfl,trivial⟩
  ·rw [hl,←h3,ex];have:=length_le (elems.map (·.1));simp only[Rows.uptoBulk,List.length_map] at this ⊢;omega
  ·obtain ⟨i,hi,e⟩:=List.mem_iff_getElem.1 ho;exact(hp i o (by rw[List.getElem?_eq_getElem hi,e])).1
end
def gE:Nat→List D
 |1=>pc
 |_=>[]
def Ry:Nat→List D:=uG gE
theorem J6{w:World}(h0:eX (rk w) 0 0 [eA fm])(h1:eX (rk w) 1 0 pc):∀b,eX (rk w) b 0 (Ry b)
 |0=>h0
 |1=>h1
 |_+2=>trivial
theorem Q6 : Tryz.prog.globalNamed "errors.errorType" = some 1 := by kernel_rfl
theorem Q5 : (Tryz.prog.cutTypes.find? (·.1 == "internal/reflectlite.rtype")).map (·.2) = some 180 := by kernel_rfl
theorem Kr:((List.range 272).filter fun t=>Tryz.prog.rowNamed t [101,114,114,111,114])=[49]:=by kernel_rfl
theorem Of:Tryz.prog.types.size=272:=by kernel_rfl
theorem Ko{W : World}(e5 : W.var? Tryz.prog "errors.errorType" = some #[.iface 180 (.agg #[typeHandle Tryz.prog 49])]) : eX (rk W) 1 0 pc := by
 have hh:typeHandle Tryz.prog 49=.pointer (some ⟨2,49,none⟩):=by kernel_rfl
 rw[hh] at e5;exact⟨⟨_,vX (World.var?_cell Q6 e5 0) rfl,rfl⟩,trivial⟩
def JO(s:ByteArray):DataW Unit:=.lit (.string s.data.toList)
variable {v:Value}
theorem Lk{W:World}{n:Nat}{x:DataW Unit×List MemPlace}{s:ByteArray}{sp:Nat→Bool}{hd:Bool}(h:DataW.trod (fun _=>()) Tryz.prog W 0 sp hd n 9 [v]=some x)(hx:x.1=JO s):v=.string s:=by
 obtain⟨s',h1,h2,_⟩:=DataW.trod_string uY h;simp only[List.cons.injEq,and_true] at h1;subst h1 h2;simp only[JO,DataW.lit.injEq,Lit.string.injEq] at hx
 congr 1
 exact ByteArray.ext (Array.ext' hx)
theorem LA{elems:List (DataW Unit×List MemPlace)}(h:elems.map (·.1)=fm.map JO){i:Nat}(hi:i<fm.length):∃x,elems[i]? =some x∧x.1=JO fm[i]:=by
 have hl:=congrArg List.length h;simp only[List.length_map] at hl;have h1:=congrArg (fun l=>l[i]?) h;simp only[List.getElem?_map] at h1;rw[List.getElem?_eq_getElem (show i<elems.length by omega),List.getElem?_eq_getElem hi] at h1;exact⟨elems[i],List.getElem?_eq_getElem (by omega),Option.some.inj h1⟩
variable {fuel:Nat}
theorem G8{W : World}{cs : Array Value}{p : List MemPlace}(hv : Tryz.prog.globalNamed "provekernel/provekernelref.words" = some 0)(hw : W.var? Tryz.prog "provekernel/provekernelref.words" = some cs)
 (hd:DataW.trod (fun _=>()) Tryz.prog W 0 (fun _=>true) false fuel 57 cs.toList=some (Rows.laid_provekernel_provekernelref_words,p)):eX (rk W) 0 0 [eA fm]:=by
 have hcell:=fun i=>World.var?_cell hv hw i
 have hu:=pN;have he:(bl Tryz.prog 57).elem=9:=by rw[G5]
 rw[he] at hu;have c9:Tryz.prog.cellsOf 9=1:=by kernel_rfl
 have hwl:fm.length=7:=rfl;rcases DataW.trod_slice hu hd with⟨_,h1⟩|⟨a,len,cap,elems,rest,n,_,hcs,ex,_,h2,_,h3,h4,_⟩
 ·exact absurd (congrArg Prod.fst h1) (by intro h;cases h)
 ·have Q4:(DataW.slice (fm.map JO) []:DataW Unit)=.slice (elems.map (·.1)) (rest.map (·.1)):=congrArg Prod.fst ex;have OY:=(DataW.slice.inj Q4).1.symm;have hel:elems.length=7:=by have:=congrArg List.length OY;simpa[hwl] using this
  have key:∀i:Nat,(hi:i<fm.length)→W.cell? (a.add (i*1))=some (.string fm[i]):=fun i hi=>by
   obtain⟨x,hx1,hx2⟩:=LA OY hi;have:=h4 i (by omega);rw[c9,hx1] at this;obtain⟨us,hus,hst⟩:=Option.bind_eq_some_iff.1 this;obtain⟨_,hlen,hc⟩:=World.cells?_some hus
   match us,hlen with
   |[u],_=>
    have:=hc 0 (by decide);rw[Lk hst hx2] at this
    simpa[Addr.add] using this
  have hsp:a.spot=none:=by
   have:=key 0 (by decide);have e:a.add (0*1)=a:=by simp[Addr.add]
   rw[e] at this;exact World.cell?_spot this
  obtain⟨ab,ao,OZ⟩:=a;simp only at hsp;subst hsp;have hc0:=hcell 0;obtain⟨l⟩:=cs;simp only at hcs;subst hcs;refine⟨⟨_,vX (hcell 0) rfl,some ⟨ab,ao,none⟩,cap,?_,?_,fun _=>⟨ab,ao,rfl,Bg (fun s=>[.v (.string s)]) fun i x hx=>⟨rfl,?_⟩⟩⟩,trivial⟩
  ·rw [cQ,hwl,←h3,hel];rfl
  ·rw [cQ];omega
  ·obtain ⟨hi,rfl⟩:=List.getElem?_eq_some_iff.1 hx;have:=key i hi;rw[fG] at this;exact⟨⟨_,vX this rfl,rfl⟩,trivial⟩
def MK : List (String × DataW Unit) := [("errors.errorType", Rows.laid_errors_errorType), ("provekernel/provekernelref.words", Rows.laid_provekernel_provekernelref_words)]
theorem AW{W:World}(h:laidMetH Tryz.prog MK W):∀b,eX (rk W) b 0 (Ry b):=by
 have h' : laidMet Tryz.prog [("provekernel/provekernelref.words", Rows.laid_provekernel_provekernelref_words)] W ∧ handlesMet Tryz.prog [("errors.errorType", Rows.laid_errors_errorType)] W := h
 obtain⟨⟨ps,hL,_,_⟩,hH⟩:=h';obtain⟨g4,t4,cs4,fu4,p4,q4,hg4,ht4,hv4,hd4,_,_⟩:=hL;have n4 : Tryz.prog.globalNamed "provekernel/provekernelref.words" = some 0 := by kernel_rfl
 obtain rfl:=Option.some.inj (n4.symm.trans hg4);obtain rfl:=Option.some.inj ((show(Tryz.prog.globals[0]?).map (·.type)=some 57 by kernel_rfl).symm.trans ht4);obtain⟨name,u,ty,e1,e2,e3,e4,e5⟩:=hH _ (List.mem_singleton.2 rfl);have en:name=[101,114,114,111,114]:=(Option.some.inj e1).symm;subst en;obtain rfl:=Option.some.inj (Q5.symm.trans e2);have hm:ty∈(List.range 272).filter fun t=>Tryz.prog.rowNamed t [101,114,114,111,114]:=List.mem_filter.2 ⟨List.mem_range.2 (by rw[← Of];exact e3),e4⟩
 rw[Kr] at hm;obtain rfl:=List.mem_singleton.1 hm;exact J6 (G8 n4 hv4 hd4) (Ko e5)
theorem JS(os:Os):laidMetH Tryz.prog MK ((World.doorLaid Tryz.prog 400 os).forCall (fun _ _=>0) ⟨#[],#[.slice none 0 0],[]⟩).memory:=
 laidMetH_of_parts3 (fuel:=8) (laidMet_of_run' 8 (by kernel_rfl) (by kernel_rfl)) (by kernel_rfl) (by kernel_rfl)
end
section
open Go Go.Vd Go.RowKit Go.ChangeShapes Go.WideShapes Go.ChangeAt
theorem reads(os:Os){H:Type}(enc:TypeId×Value→H):∃places,DataW.whole enc Tryz.prog ((World.doorLaid Tryz.prog 400 os).forCall (fun _ _=>0) ⟨#[],#[.slice none 0 0],[]⟩).memory Tryz.f6.params.toList Rows.reduceNormalSpec.vars false #[Value.slice none 0 0].toList 8=some ([.nil],[],places):=
 ⟨[],by kernel_rfl⟩
set_option maxRecDepth 100000 in
theorem yx(os:Os)(started:os.Started)(H:Type)(enc:TypeId×Value→H)(F:Stop.Interp):
 ReturnsInHanded {} Tryz.checked os 6 .any ((Rows.OpenSpec.upto Rows.reduceNormalSpec).preRow enc Tryz.prog Tryz.f6 Rows.reduceNormalUptoRow.domain false Rows.reduceNormalUptoRow.laid) (((Rows.OpenSpec.upto Rows.reduceNormalSpec).at F).post enc Tryz.prog Tryz.f6 false true false false):=by
 obtain⟨places,hx⟩:=reads os enc;refine returnsInHanded_of_row (C:=Tryz.checked) (s:=Rows.OpenSpec.upto Rows.reduceNormalSpec) own started (by kernel_rfl) Tryz.func6
  (witness_row_atRef (enc:=enc) (C:=Tryz.checked) false (World.doorLaid Tryz.prog 400 os) #[.slice none 0 0] rfl (by kernel_rfl) (by kernel_rfl) (by kernel_rfl)
   (OpenSpec.preRow_of_cond 8 hx (by kernel_rfl) (fun k hk=>by cases hk;kernel_rfl) (by kernel_rfl) (JS os))) ?_
 intro W base args ds gs before hval0 hW _ hcond _ hL _ _;have hval:∀(j:Nat) t v,Tryz.f6.params[j]? =some t→args[j]? =some v→Value.okWide Tryz.prog W .any base t v:=hval0;have hW':=hW;obtain⟨p,q,hA0,hV,rfl,hfz,hnd⟩:=hW;have hA:DataW.TrodAll enc Tryz.prog W 0 (fun _=>true) true Tryz.f6.params.toList args.toList ds p:=hA0;rw[Tryz.params6] at hA hval;obtain⟨v0,d0,rfl,rfl,h0⟩:=trodAll_one hA;obtain⟨rfl,rfl⟩:=trodVars_none hV;obtain⟨a,len,cap,rfl⟩:=okWide_slice DS (hval 0 22 v0 rfl rfl);have hbulk:Rows.uptoBulkAll ([d0]++[])≤1048576:=of_decide_eq_true (hcond _ rfl);simp only[List.append_nil,Rows.uptoBulkAll,Nat.add_zero] at hbulk;have h0':=h0;obtain⟨fuel,hf⟩:=h0;obtain⟨l,hl,hlen,hstr⟩:=vJ hf rfl;have hcalls:=yK (w:=W) (Ax (g:=gE) rfl l (Nat.le_trans hlen hbulk) fun x hx=>⟨Nat.le_trans (hstr x hx).1 hbulk,(hstr x hx).2⟩) (AW hL) (vs:=[.slice a len cap]) ⟨_,[],rfl,hl,rfl⟩;simp only[List.append_nil] at hW';refine hcalls.mono fun e W' ⟨v,d,m,he,hv,hd,hb⟩=>?_
 subst hd;simp only[D.Den] at hv;subst hv;have hlt:∀x∈p,x.block<W.heap.size:=DataW.TrodAll.lt hA;refine⟨_,he,[d0],[],p,[],p,[],hW',trodAll_mk1 (shut_bool RJ _),?_,rfl,hb.frame _,fun h=>by cases h⟩;exact trodAll_mk1 (hb.trod (by kernel_rfl) (by kernel_rfl) (of_decide_eq_true (by kernel_rfl)) h0' hlt)
theorem normal_holds:Rows.ReduceNormalUptoSaid:=
 OpenClaim.holds_of_cond 6 Tryz.f6 rfl rfl rfl rfl rfl rfl rfl ⟨rfl,rfl,rfl,rfl,rfl⟩ rfl rfl rfl rfl rfl (by kernel_rfl) Tryz.func6 (by kernel_rfl)
  (of_decide_eq_true (by kernel_rfl)) (by unfold Func.isWrapper;first|(rw[if_pos (by decide +kernel)];kernel_rfl)|(rw[if_neg (by decide +kernel)];exact⟨rfl,rfl⟩))
  (fun os started H enc _ F=>by rw[OpenClaim.pre_eq_preRow];exact yx os started H enc F)
theorem plain(f : FuncId)(fn : Func)(hf : Tryz.pinned.checked.prog.funcNamed "provekernel/provekernellaw.ReduceNormal" = some f)(hfn : Tryz.pinned.checked.prog.funcs[f]? = some fn) :
 true=Tryz.pinned.checked.prog.looks []∧∀(j:Nat) t,fn.params[j]? =some t→Tryz.pinned.checked.prog.wantsStandIn t=false:=by
 obtain rfl : f = 6 := Option.some.inj ((show Tryz.prog.funcNamed "provekernel/provekernellaw.ReduceNormal" = some 6 by kernel_rfl).symm.trans hf) |>.symm
 obtain rfl:fn=Tryz.f6:=(Option.some.inj (Tryz.func6.symm.trans hfn)).symm;refine⟨by kernel_rfl,fun j t ht=>?_⟩;rw[Tryz.params6] at ht;obtain rfl:t=22:=by simpa using Array.mem_of_getElem? ht
 exact(show Tryz.prog.wantsStandIn 22=false by kernel_rfl)
theorem normal_card_holds:Rows.ReduceNormalUptoCardSaid:=
 Claim7.holds_tied_plain_at .later [] _ _ _ _ normal_holds (fun _ h=>by cases h) (by kernel_rfl) (fun _ h=>by cases h) reduceNormalUpto_row_tie rfl ⟨rfl,rfl⟩ (by kernel_rfl) rfl plain (by kernel_rfl)
#print axioms normal_card_holds
end
end Go.Proofs.YtndbnldjidciiaaGreatDoor
