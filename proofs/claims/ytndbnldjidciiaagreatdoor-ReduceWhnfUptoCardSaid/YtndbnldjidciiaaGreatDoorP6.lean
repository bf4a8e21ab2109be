/-
  What is proved here: ReduceWhnf: whatever script it is called on that is of bulk at most 1048576, it answers true, and the script reads as it did; on condition that the listed package variables start as the text lays them, which the card ties.
-/
import Derived.Test.YtndbnldjidciiaaGreatDoorP5
import Derived.Test.YtndbnldjidciiaaGreatDoorTie
import Derived.Test.YtndbnldjidciiaaGreatDoorCards
import Derived.SevenTiedAt
import Derived.LaidHandle
import Derived.Deep.DeepHandedRow
import Derived.Deep.DeepWitnessRowRef
set_option linter.unusedSimpArgs false
set_option linter.unusedVariables false
set_option linter.unusedSectionVars false
namespace Go.Proofs.YtndbnldjidciiaaGreatDoor
section
open Go Go.Vd Go.RowKit
attribute [local irreducible] bq bu dh ak bJ cQ
variable {g gl:Nat→List D}
def yh(b:Nat):D:=.v (.pointer (some ⟨b,0,none⟩))
def ny(eC:List pH)(b1 b2:Nat):Prop:= ∃(k:Nat) (iG:List Pl) (es:List cu) (w:Bool),eC[k]? =some ⟨iV es w,iG⟩∧gb es∧iG[0]? =some (.loc b1)∧iG[3]? =some (.loc b2)
variable {eC:List pH} {b1 b2:Nat}
theorem ny.more{its':List pH}(h:ny eC b1 b2)(hm:∀(k:Nat) x,eC[k]? =some x→its'[k]? =some x):ny its' b1 b2:=by
 obtain⟨k,iG,es,w,h1,h2⟩:=h;exact⟨k,iG,es,w,hm _ _ h1,h2⟩
structure xX where
 x:Step
 b1:Nat
 b2:Nat
def xX.cells(e:xX):List D:=[.v (.int .i64 e.x.k),.v (.string e.x.s),.v (.string e.x.t),.v (.string e.x.u),.v (.int .i64 e.x.a),.v (.int .i64 e.x.b),yh e.b1,yh e.b2]
def pU(l:List xX):List (List D):=l.map xX.cells
theorem zd(l:List xX):(pU l).length=l.length:=by simp[pU]
theorem ze(l:List xX)(e:xX):pU l++[e.cells]=pU (l++[e]):=by simp[pU]
def QG:Ob:=.row 34 8
theorem Jh(eC:List pH)(x:pH):∀(k:Nat) y,eC[k]? =some y→(eC++[x])[k]? =some y:=fun k y h=>by
 rw[List.getElem?_append_left (List.getElem?_eq_some_iff.1 h).1];exact h
variable {es:List cu} {w:Bool} {iG:List Pl}
theorem BM(hF:gb es)(h1:iG[0]? =some (.loc b1))(h2:iG[3]? =some (.loc b2)):ny (eC++[⟨iV es w,iG⟩]) b1 b2:=
 ⟨eC.length,iG,es,w,by simp,hF,h1,h2⟩
set_option maxHeartbeats 1600000 in
theorem BP(l:List Step)(hl:l.length≤1048576):
 er Tryz.prog (ux g) 9 [] [.d (.sl 6 (steps l)),.d (.v (.int .i64 5))] fun out ob'=> ∃(eC:List pH) (els:List xX),out=.ret (.d (.sl 8 (pU els)))∧ob'=[dF eC]∧els.length≤l.length∧∀e∈els,ny eC e.b1 e.b2∧e.x∈l:=by
 have hsl:=tX l;refine bS Tryz.func9 Tryz.ntmps9 0 ?_;refine gc 11 ?_;refine DY rfl ?_;refine gc 1 ?_;refine oc (aJ PJ rfl rfl rfl rfl (vW (g:=g) .empty) [] .nil rfl rfl rfl rfl (an .nil) (fun s ob' hq=>?_) (fun s ob' hq=>?_));rotate_left
 ·obtain ⟨_,_,_,hq1,_⟩:=hq;cases hq1
 obtain⟨es,w,hF,hq1,rfl⟩:=hq;cases hq1;refine⟨_,_,_,_,_,rfl,rfl,rfl,rfl,rfl,?_⟩;refine FU (t:=8) (pi:=0) (eC:=[]) (ix:=[1,2,3,4,5]) (k1:=0) (k2:=3) (iV es w) rfl (.cons rfl (.cells rfl (ia.rfl _)) (.cons rfl .row (.cons rfl .cY (.cons rfl (.cells rfl (ia.rfl _)) (.cons rfl .row .nil))))) rfl rfl rfl rfl rfl (fun x=>rfl) rfl rfl rfl ?_;intro iG b1 b2 hpl hb1 hb2;refine ko 11 [7,6,5,0,1] 0 ?_;refine bz 34 8 rfl ?_;refine lp (ι:=Nat×List pH×List xX×Nat×Nat) (fun⟨i,eC,els,c1,c2⟩=>[(7,int i),(5,.own 2 8 (pU els)),(6,.b0 1 0)]) (fun⟨i,eC,els,c1,c2⟩=>[dF eC,wO (.d (yh c1)) (.d (yh c2)),QG]) [0,1] (fun⟨i,eC,els,c1,c2⟩=>i≤l.length∧els.length≤i∧ny eC c1 c2∧∀e∈els,ny eC e.b1 e.b2∧e.x∈l) (fun⟨i,eC,els,c1,c2⟩=>l.length-i) ((0,[]++[⟨iV es w,iG⟩],[],b1,b2)) ([0,6,7]) rfl ?I2 ?M2 ?H2
 case I2=>
  exact⟨Nat.zero_le _,Nat.zero_le _,BM hF hb1 hb2,fun e he=>by cases he⟩
 case M2=>
  refine mo ?_ (aH (ee rfl (by exact Fit.nil rfl) (aH (aH (aH dC)))))
  repeat (first|exact cG|refine bh ?_|refine Ff ?_|refine qZ ?_)
 case H2=>
  rintro⟨i,eC,els,c1,c2⟩ hinv
  try dsimp only at hinv
  refine kc 0 [7,5,6,0,1] 8 ?_;refine' oa (yt:=15) (d:=13) 2 ?a1 ?b1 ?_
  case a1=>
   intro hc hK;refine go 2 ?_;exact hK [_,_] rfl rfl
  case b1=>
   intro _ hK;refine go 2 ?_;exact hK [_,_] rfl
  refine go 2 ?_;refine cJ (fun h4=>?_) (fun h4=>?_)
  ·refine kc 5 [5] 7 ?_;refine eo (.sl 8 (pU els)) [0] [dF eC] ?_
   ·exact ⟨eC,els,rfl,rfl,by omega,hinv.2.2.2⟩
  refine kc 3 [7,5,6,0,1] 0 ?_;refine xo (ι:=List pH×Nat×Nat×List xX) (fun⟨its2,c3,c4,els2⟩=>[(5,.own 2 8 (pU els2))]) (fun⟨its2,c3,c4,els2⟩=>[dF its2,wO (.d (yh c3)) (.d (yh c4)),QG]) [7,6,0,1] (fun⟨its2,c3,c4,els2⟩=>ny its2 c3 c4∧els2.length≤i+1∧∀e∈els2,ny its2 e.b1 e.b2∧e.x∈l) rfl ?A3 ?B3
  case A3=>
   refine gc 3 ?_;have hi:i<l.length:=(by omega);have hmem:l[i]∈l:=List.getElem_mem hi;obtain⟨hi1,hi2,hi3,hi4⟩:=hinv;refine gc 3 ?_;refine o1 (cr DF K6 ?_ (he:=by exact(vK hi)));refine ko 5 [24,7,5,6,0,1] 0 ?_;refine xo (ι:=List pH×Nat×Nat) (fun⟨its2,c3,c4⟩=>[]) (fun⟨its2,c3,c4⟩=>[dF its2,wO (.d (yh c3)) (.d (yh c4)),QG]) [7,5,6,0,1] (fun⟨its2,c3,c4⟩=>ny its2 c3 c4∧∀(k:Nat) x,eC[k]? =some x→its2[k]? =some x) rfl ?A4 ?B4
   case A4=>
    refine cJ (fun h6=>?_) (fun h6=>?_)
    ·refine gc 1 ?_;refine bk (eC,c1,c2) rfl ?_ [0,1,2] mz;exact⟨hi3,fun _ _ h=>h⟩
    refine gc 3 ?_;refine o1 (cr DF K6 ?_ (he:=by exact(vK hi)));refine go 2 ?_;refine oc (aJ PJ rfl rfl rfl rfl (vW (g:=g) l[i].s) [] .nil rfl rfl rfl rfl (an .nil) (fun s ob' hq=>?_) (fun s ob' hq=>?_));rotate_left
    ·obtain ⟨_,_,_,hq1,_⟩:=hq;cases hq1
    obtain⟨es2,w2,hF2,hq1,rfl⟩:=hq;cases hq1;refine⟨_,_,_,_,_,rfl,rfl,rfl,rfl,rfl,?_⟩;refine FU (t:=30) (pi:=0) (eC:=eC) (ix:=[3,4,5,6,7]) (k1:=0) (k2:=3) (iV es2 w2) rfl (.cons rfl (.cells rfl (ia.rfl _)) (.cons rfl .row (.cons rfl .cY (.cons rfl (.cells rfl (ia.rfl _)) (.cons rfl .row .nil))))) rfl rfl rfl rfl rfl (fun x=>rfl) rfl rfl rfl ?_;intro pls2 d1 d2 hpl2 hd1 hd2;refine go 2 ?_;refine bk (eC++[⟨iV es2 w2,pls2⟩],d1,d2) rfl ?_ [0,1,2] mz;exact⟨BM hF2 hd1 hd2,Jh _ _⟩
   case B4=>
    rintro⟨its2,c3,c4⟩ hcut
    try dsimp only at hcut
    refine kc 0 [7,5,6,0,1] 1 ?_;obtain⟨hg2,hmore⟩:=hcut;have hpl9:=zd els;have hold:∀e∈els,ny its2 e.b1 e.b2∧e.x∈l:=fun e he=>⟨(hi4 e he).1.more hmore,(hi4 e he).2⟩
    refine gc 3 ?_;refine o1 (cr DF K6 ?_ (he:=by exact(vK hi)));refine go 6 ?_;refine cJ (fun h8=>?_) (fun h8=>?_)
    ·refine gc 2 ?_;refine bk ((its2,c3,c4,els)) rfl ?_ ([0,1,2]) ?_
     ·exact ⟨hg2,by omega,hold⟩
     ·refine mo ?_ (ee rfl (by first|exact Fit.of_eq rfl|exact Fit.of_eq (by rw[← ze];rfl)) (aH (aH (aH (aH dC)))))
      repeat (first|exact cG|refine bh ?_|refine cw ?_|refine Ff ?_)
    refine kp [7,5,6,0,1] ?_;refine gz [0,1,2] mixed ?_;refine A1 3 rfl (cr DF K6 ⟨_,rfl,?_⟩ (he:=by exact(vK hi)));refine ga [4,5,6] ?_;refine A2 7 rfl (gK O4 [.tmp 44] OY ?_);refine A2 8 rfl (px O4 ?_);refine ga [9] ?_;refine aS ?_;refine ge 1 ?_;refine bk ((its2,c3,c4,els++[⟨l[i],c3,c4⟩])) rfl ?_ ([0,1,2]) ?_
    ·refine ⟨hg2,by rw[List.length_append];simp only[List.length_cons,List.length_nil];omega,fun e he=>?_⟩;rcases List.mem_append.1 he with he|he
     ·exact hold e he
     ·simp only[List.mem_singleton] at he;subst he;exact⟨hg2,hmem⟩
    ·refine mo ?_ (ee rfl (by first|exact Fit.of_eq rfl|exact Fit.of_eq (by rw[← ze];rfl)) (aH (aH (aH (aH dC)))))
     repeat (first|exact cG|refine bh ?_|refine cw ?_|refine Ff ?_)
  case B3=>
   rintro⟨its2,c3,c4,els2⟩ hcut
   try dsimp only at hcut
   refine kc 0 [5,7,6,0,1] 2 ?_;refine o1 (cF ?_);refine go 2 ?_;refine bk (i+1,its2,els2,c3,c4) rfl ?_ [0,1,2] mz;exact⟨⟨by omega,hcut.2.1,hcut.1,hcut.2.2⟩,show _-(i+1)<_-i by omega⟩
theorem G3{x:Step}(h1:iG[0]? =some (.loc b1))(h2:iG[3]? =some (.loc b2))(m:Mem)(gs:List Pl)(vs:List Value)(h:bB ⟨m,gs⟩ [FP x (.d (yh b1)) (.d (yh b2))] vs):bB ⟨m,iG⟩ [FP x (.b0 0 0) (.b0 3 0)] vs:=by
 obtain⟨v,_,rfl,⟨us,rfl,x1,_,rfl,e1,x2,_,rfl,e2,x3,_,rfl,e3,x4,_,rfl,e4,x5,_,rfl,e5,x6,_,rfl,e6,x7,_,rfl,e7,x8,_,rfl,e8,e9⟩,rfl⟩:=h;exact⟨_,_,rfl,⟨_,rfl,x1,_,rfl,e1,x2,_,rfl,e2,x3,_,rfl,e3,x4,_,rfl,e4,x5,_,rfl,e5,x6,_,rfl,e6,x7,_,rfl,⟨b1,h1,e7⟩,x8,_,rfl,⟨b2,h2,e8⟩,e9⟩,rfl⟩
theorem JS{k:Nat}{w':Bool}{pls':List Pl}(hk:eC[k]? =some ⟨iV es w,iG⟩)(hF:gb es)(hp:∀(j b:Nat),j<(iV es w).length→iG[j]? =some (.loc b)→pls'[j]? =some (.loc b))(h:ny eC b1 b2):ny (eC.set k ⟨iV es w',pls'⟩) b1 b2:=by
 obtain⟨k2,pls2,es2,w2,h1,h2,h3,h4⟩:=h;by_cases he:k2=k
 ·subst he;rw[hk] at h1;have h5:iG=pls2:=(pH.mk.inj (Option.some.inj h1)).2;subst h5;exact⟨k2,pls',es,w',List.getElem?_set_self (List.getElem?_eq_some_iff.1 hk).1,hF,hp 0 b1 (by simp[iV]) h3,hp 3 b2 (by simp[iV]) h4⟩
 ·exact ⟨k2,pls2,es2,w2,by rw[List.getElem?_set_ne (Ne.symm he)];exact h1,h2,h3,h4⟩
theorem Lg{l:List xX}{i:Nat}(h:i<l.length):(pU l)[((i:Nat):Int).toNat]? =some (l[i].cells):=by simp[pU,h]
end
section
open Go Go.Vd Go.RowKit
attribute [local irreducible] bq bu dh ak bJ cQ
variable {g gl:Nat→List D}
def BV(s:ByteArray):Nat→Nat→ByteArray→List ByteArray→List ByteArray
 |0,_,_,l=>l
 |n+1,i,w,l=>if i<s.size∧¬bo s i=32 then BV s n (i+1) (w++s.extract i (i+1)) l else if ¬w=.empty then BV s n (i+1) .empty (l++[w]) else BV s n (i+1) .empty l
def yk(s:ByteArray):List ByteArray:=BV s (s.size+1) 0 .empty []
theorem En(s:ByteArray)(hs:s.size≤1099511627776):
 er Tryz.prog gl 23 [] [.d (.v (.string s))] fun out ob'=>out=.ret (.own 0 1 (strs (yk s)))∧ob'=[sR]:=by
 refine bS Tryz.func23 Tryz.ntmps23 0 ?_;refine kc 22 [5,4,3,0] 0 ?_;refine bz 9 1 rfl ?_;refine lp (ι:=Nat×ByteArray×List ByteArray) (fun⟨i,wd,l⟩=>[(5,int i),(4,.d (.v (.string wd))),(3,.own 0 1 (strs l))]) (fun⟨i,wd,l⟩=>[sR]) [0] (fun⟨i,wd,l⟩=>i≤s.size+1∧wd.size≤i∧l.length≤i∧yk s=BV s (s.size+1-i) i wd l) (fun⟨i,wd,l⟩=>s.size+1-i) ((0,.empty,[])) ([0]) rfl ?I2 ?M2 ?H2
 case I2=>
  exact⟨Nat.zero_le _,Nat.le_refl _,Nat.le_refl _,rfl⟩
 case M2=>
  refine mo ?_ (aH (aH (ee rfl (by exact Fit.nil rfl) (aH dC))))
  repeat (first|exact cG|refine qZ ?_)
 case H2=>
  rintro⟨i,wd,l⟩ hinv
  try dsimp only at hinv
  refine kc 0 [5,4,3,0] 9 ?_;refine cJ (fun h4=>?_) (fun h4=>?_)
  ·refine kc 5 [3] 7 ?_;refine fR ?_;refine ir ⟨_,_,rfl,rfl,rfl⟩ [0] (.own 0 1 (strs l)) ([sR]) rfl rfl rfl ?_ rfl ?_ ?_
   ·repeat (first|exact cG|refine cw ?_)
   ·exact .refl _
   ·obtain ⟨h1,_,_,h2⟩:=hinv;rw[show s.size+1-i=0 by omega,BV] at h2;rw[h2];exact⟨rfl,rfl⟩
  refine kc 3 [5,4,3,0] 0 ?_;refine xo (ι:=ByteArray×List ByteArray) (fun⟨wd2,l2⟩=>[(4,.d (.v (.string wd2))),(3,.own 0 1 (strs l2))]) (fun⟨wd2,l2⟩=>[sR]) [5,0] (fun⟨wd2,l2⟩=>wd2.size≤i+1∧l2.length≤i+1∧yk s=BV s (s.size+1-(i+1)) (i+1) wd2 l2) rfl ?A3 ?B3
  case A3=>
   refine gc 3 ?_;have hi:i≤s.size:=(by omega);have hsl:=cO l;have hx1:=CZ s i;have hx2:(s.extract (i:Int).toNat ((i:Int)+1).toNat).size≤1:=(by rw[ByteArray.size_extract];omega);have hP:=hinv.2.2.2;rw[show s.size+1-i=(s.size+1-(i+1))+1 by omega,BV] at hP;refine gc 6 ?_;refine' oa (yt:=20) (d:=16) 4 ?a1 ?b1 ?_
   case a1=>
    intro hc hK;refine go 2 ?_;refine gy ?_;refine o1 (Fe uP ?_);refine go 1 ?_;exact hK [_,_,_,_] rfl rfl
   case b1=>
    intro _ hK;refine go 4 ?_;exact hK [_,_,_,_] rfl
   refine go 2 ?_;refine cj (fun h6=>?_) (fun h6=>?_)
   ·refine kc 0 [5,4,3,0] 6 ?_;refine o1 (cF ?_);refine o1 (qg uP ?_);refine o1 (uD ?_ (hb:=by(try simp only[ByteArray.size_append,qD,List.size_toArray,List.length_cons,List.length_nil]);omega));refine go 6 ?_;refine bk ((wd++s.extract i (i+1),l)) rfl ?_ ([0]) ?_
    ·exact ⟨by rw[ByteArray.size_append];omega,by omega,by rw[hP,if_pos (by first|exact⟨by omega,by assumption⟩|(refine⟨by omega,?_⟩;first|assumption|(simp_all)))]⟩
    ·refine mo ?_ (aH (ee rfl (by first|exact Fit.of_eq rfl|exact Fit.of_eq (by rw[nN];rfl)) (aH (aH dC))))
     repeat (first|exact cG|refine cw ?_)
   refine kc 3 [5,4,3,0] 6 ?_;refine cJ (fun h8=>?_) (fun h8=>?_)
   ·refine gc 6 ?_;refine bk ((.empty,l)) rfl ?_ ([0]) ?_
    ·exact ⟨Nat.zero_le _,by omega,by rw[hP,if_neg (by rintro⟨ha,hb⟩;first|omega|(simp_all)),if_neg (by first|assumption|exact fun h=>h h8|(simp_all))]⟩
    ·refine mo ?_ (aH (ee rfl (by first|exact Fit.of_eq rfl|exact Fit.of_eq (by rw[nN];rfl)) (aH (aH dC))))
     repeat (first|exact cG|refine cw ?_)
   refine gc 3 ?_;refine oc (gK rH [.tmp 32] GQ ?_);refine oc (px rH ?_);refine ko 3 [3,5,0] 4 ?_;refine bk ((.empty,l++[wd])) rfl ?_ ([0]) ?_
   ·exact ⟨Nat.zero_le _,by rw[List.length_append];simp only[List.length_cons,List.length_nil];omega,by rw[hP,if_neg (by rintro⟨ha,hb⟩;first|omega|(simp_all)),if_pos (by first|assumption|exact h8|(simp_all))]⟩
   ·refine mo ?_ (aH (ee rfl (by first|exact Fit.of_eq rfl|exact Fit.of_eq (by rw[nN];rfl)) (aH (aH dC))))
    repeat (first|exact cG|refine cw ?_)
  case B3=>
   rintro⟨wd2,l2⟩ hcut
   try dsimp only at hcut
   refine kc 0 [4,3,5,0] 2 ?_;refine o1 (cF ?_);refine go 2 ?_;refine bk (i+1,wd2,l2) rfl ?_ [0] mz;exact⟨⟨by omega,hcut.1,hcut.2.1,hcut.2.2⟩,show _-(i+1)<_-i by omega⟩
theorem Hw(x:Step)(ha:i64 x.a):∃f:Nat,f≤3000∧cC Tryz.prog gl 31 [.agg x.cells] (· =.v (.int .i64 f)):=by
 obtain⟨ha0,ha1⟩:=ha;by_cases h0:x.a<0
 ·refine ⟨((-(x.a+1))%3001).toNat,by omega,?_⟩;refine bD Tryz.func31 Tryz.ntmps31 ?_;refine kc 14 [3] 6 ?_;refine cJ (fun h2=>?_) (fun h2=>?_)
  ·omega
  refine gc 2 ?_;refine o1 (cF ?_);refine o1 (LN ?_);refine ko 3 [3] 3 ?_;refine o1 (Gi ?_);refine go 4 ?_;refine ez ?_
  (show D.v (Value.int .i64 _)=D.v (Value.int .i64 _));congr 2;omega
 ·refine ⟨(x.a%3001).toNat,by omega,?_⟩;refine bD Tryz.func31 Tryz.ntmps31 ?_;refine kc 14 [3] 6 ?_;refine cj (fun h2=>?_) (fun h2=>?_)
  ·contradiction
  refine gc 5 ?_;refine o1 (Gi ?_);refine go 4 ?_;refine ez ?_
  (show D.v (Value.int .i64 _)=D.v (Value.int .i64 _));congr 2;omega
theorem D8{s:ByteArray}(h:(gh s).2.1=0):iA 4398046511104 (gh s).1∧(gh s).1.size≤80001:=by
 refine⟨jC (by decide) (pO (D7 h)),?_⟩;have hz:aP.size=1:=rfl;unfold gh;split
 ·simp only[hz];omega
 ·have h1:=qz (s:=s) (s.size+1) ⟨0,none⟩ (Nat.zero_le _);have h2:=et (s:=s) (s.size+1) ⟨0,none⟩ (Nat.zero_le _);simp only at h1 h2 ⊢;split
  ·simp only;omega
  ·simp only[hz];omega
def Ao(ok:Bool)(t u:ae)(c:Int):D:=.agg (.v (.bool ok)::(t.cells++(u.cells++[.v (.int .i64 c)])))
end
section
open Go Go.Vd Go.RowKit
attribute [local irreducible] bq bu dh ak bJ cQ
variable {g gl:Nat→List D}
def RA:Ob:=.cells [.d (.v (.bool false)),.d (.v (.int .i64 0)),.d (.v (.int .i64 0)),.d (.v (.string .empty)),.d (.v (.slice none 0 0)),.d (.v (.slice none 0 0)),.d (.v (.int .i64 0)),.d (.v (.int .i64 0)),.d (.v (.string .empty)),.d (.v (.slice none 0 0)),.d (.v (.slice none 0 0)),.d (.v (.int .i64 0))] 41
def N0(b:Bool):D:=cond b (yx 14 0) (.v .nilIface)
def Oa(b:Bool):Int:=cond b 14 0
def w3:jT→ae×Nat×Bool
 | .ok u d=>(u,d,false)
 | .cW=>(aP,0,true)
def n3:Iv→ae×Nat×Bool
 | .ok u d _=>(u,d,false)
 | .cW=>(aP,0,true)
theorem LA(o:jT):Pm o=.bY [(w3 o).1.d,.v (.int .i64 (w3 o).2.1),N0 (w3 o).2.2]:=by cases o<;>rfl
theorem LY(hgl:gl 1=o6)(b:Bool):cC Tryz.prog gl 33 [N0 b,.v (.int .i64 (Oa b))] (· =.v (.bool true)):=by
 cases b with
 |false=>
  have h:=Ic (gl:=gl) 0;rw[decide_eq_true rfl] at h;exact h
 |true=>
  have h:=Ie (gl:=gl) hgl 14 0 14;rw[decide_eq_true rfl] at h;exact h
def Fv(es:List cu)(most:Nat)(t:ae)(w:Bool)(out:Out)(ob':List Ob):Prop:=
 ∃(u:ae) (d':Int) (code:Int) (w':Bool),out=.ret (.d (.bY [u.d,.v (.int .i64 d'),.v (.int .i64 code)]))∧ob'=[ba es w',aZ]∧(w'=false→∃n o,RW es most n t 0 o∧u=(w3 o).1∧d'=(w3 o).2.1∧code=Oa (w3 o).2.2)
variable {es:List cu}
theorem D2(hF:gb es)(w:Bool)(x:Step)(hxu:x.u.size≤1099511627776)(s:ByteArray):
 er Tryz.prog (ux g) 15 (iV es w) [FP x (.b0 0 0) (.b0 3 0),.d (.v (.string s))] fun out ob'=> ∃(ok:Bool) (kt mt:Int) (st:ByteArray) (lt:List aO) (at1:List ae) (ku mu:Int) (su:ByteArray) (lu:List aO) (au:List ae) (c:Int) (w':Bool),out=.ret (.d (Ao ok (.mk kt mt st lt at1) (.mk ku mu su lu au) c))∧ob'=iV es w'∧
  (ok=true→w'=false∧Wt (eh es) (yk x.u) (.mk kt mt st lt at1) 0∧(ae.mk kt mt st lt at1).size≤80001):=by
 have hpt:=wI (g:=g) s;have hpp:=D8 (s:=s);generalize hcq:(gh s).2.1=cq at hpt hpp;generalize haq:(gh s).2.2=aq at hpt;obtain⟨kt,mt,st,lt,at1,hT⟩:=ae.case (gh s).1
 rw[hT] at hpt hpp;have hpar:=En (gl:=ux g) x.u hxu;have hpl:=cO (yk x.u);unfold iV;by_cases hc0:cq=0;rotate_left
 ·refine bS Tryz.func15 Tryz.ntmps15 5 ?_;refine gc 9 ?_;refine oc (cv PG rfl rfl (hpt) (an .nil) ?_);refine ko 10 [6,5,4,2] 6 ?_;refine my 17 true rfl (by simp[hc0]) ?_;refine lN ?_ (hbw:=by exact rfl);refine lN ?_ (hbw:=by exact rfl);refine lN ?_ (hbw:=by exact rfl);refine lN ?_ (hbw:=by exact rfl);refine lN ?_ (hbw:=by exact rfl);refine lN ?_ (hbw:=by exact rfl);refine o1 (fE ?_);refine go 2 ?_;refine ct ?_;refine kc 0 [4] 8 ?_;refine eo (Ao false aP aP (-1)) [0,1,2,3,4] (iV es w) ?_
  ·exact ⟨false,_,_,_,_,_,_,_,_,_,_,-1,w,rfl,rfl,fun h=>by cases h⟩
 ·refine bS Tryz.func15 Tryz.ntmps15 5 ?_;refine gc 9 ?_;refine oc (cv PG rfl rfl (hpt) (an .nil) ?_);refine ko 10 [6,5,4,2] 6 ?_;refine my 17 false rfl (by simp[hc0]) ?_;refine lS ?_ (hbw:=by exact rfl);refine go 1 ?_;refine lS ?_ (hbw:=by exact rfl);refine go 1 ?_;refine lS ?_ (hbw:=by exact rfl);refine go 1 ?_;refine lS ?_ (hbw:=by exact rfl);refine oc (ck Og rfl rfl (hpar) [] rfl .nil (an .nil) ?_);refine lS ?_ (hbw:=by exact rfl);refine go 1 ?_;refine lS ?_ (hbw:=by exact rfl);refine go 1 ?_;refine o1 (jF ?_);refine go 2 ?_;refine cj (fun h2=>?_) (fun h2=>?_)
  ·refine kc 0 [4] 8 ?_;refine eo (Ao false aP aP (-1)) [0,1,2,3,4] (iV es w) ?_
   ·exact ⟨false,_,_,_,_,_,_,_,_,_,_,-1,w,rfl,rfl,fun h=>by cases h⟩
  refine kc 3 [5,4,2] 0 ?_;have hl6:(yk x.u).length≤6:=(by first|omega|(simp_all;omega));obtain⟨hsh,hsz⟩:=hpp hc0;have hin:=rV (gl:=ux g) hF.ok (ps:=yk x.u) hl6 (most:=3000) (S:=800001) (by decide) ⟨by decide,by decide⟩ (DB (.mk kt mt st lt at1)+1) (.mk kt mt st lt at1) (Nat.lt_succ_self _) [] w (fun i y hy=>by simp at hy) (by have:=qh (.mk kt mt st lt at1);simp only[List.length_nil];omega) (by omega) hsh;refine xo (ι:=Int×Bool×Int×Int×ByteArray×List aO×List ae) (fun⟨cz,w2,ku,mu,su,lu,au⟩=>[(8,.d (.v (.int .i64 cz))),(7,.b0 8 0)]) (fun⟨cz,w2,ku,mu,su,lu,au⟩=>[pE (es.map (·.d)),dR,.cY (fY es),HK 4 es w2,aZ,Jo x (.b0 0 0) (.b0 3 0),RA,tO kt mt st lt at1,tO ku mu su lu au]) [5,4] (fun⟨cz,w2,ku,mu,su,lu,au⟩=>(cz=0→w2=false∧Wt (eh es) (yk x.u) (.mk kt mt st lt at1) 0∧(ae.mk kt mt st lt at1).size≤80001)) rfl ?A9 ?B9
  case A9=>
   refine gz [0,1,2,3,4,5,7] mixed ?_;refine cP (rs:=[6,12]) (by kernel_rfl) rfl ⟨?_,?_,trivial⟩
   ·skip
    refine A4 6 rfl (ck Og rfl rfl (hpar) [] rfl .nil (an .nil) ?_);refine cP (rs:=[8,12]) (by kernel_rfl) rfl ⟨?_,?_,trivial⟩
    ·skip
     refine A4 8 rfl (aJ uK rfl rfl rfl rfl (hin) [3,4] (bh (cw .nil)) rfl rfl rfl rfl (an (bl (LC (bl (an .nil))))) (fun s ob' hq=>?_) (fun s ob' hq=>?_));rotate_left
     ·obtain ⟨_,_,_,hq1,_⟩:=hq;cases hq1
     obtain⟨⟨ku,mu,su,lu,au⟩,c1,w1,hq1,rfl,_,hin2⟩:=hq;cases hq1;refine⟨_,_,_,_,_,rfl,rfl,rfl,rfl,rfl,?_⟩;refine ga [9,10,11] ?_;refine A2 12 rfl (qu bt ?_);refine A2 13 rfl (dP bt ?_);refine ga [14] ?_;refine aS ?_;refine bk (c1,w1,ku,mu,su,lu,au) rfl ?_ [0,1,2,3,4,5,6,7,11] mz;exact fun h=>⟨(hin2 h).1,(hin2 h).2.1,hsz⟩
    ·skip
     refine A4 12 rfl (qu bt ?_);refine A2 8 rfl (aJ uK rfl rfl rfl rfl (hin) [3,4] (bh (cw .nil)) rfl rfl rfl rfl (an (bl (LC (bl (an .nil))))) (fun s ob' hq=>?_) (fun s ob' hq=>?_));rotate_left
     ·obtain ⟨_,_,_,hq1,_⟩:=hq;cases hq1
     obtain⟨⟨ku,mu,su,lu,au⟩,c1,w1,hq1,rfl,_,hin2⟩:=hq;cases hq1;refine⟨_,_,_,_,_,rfl,rfl,rfl,rfl,rfl,?_⟩;refine ga [9,10,11] ?_;refine A2 13 rfl (dP bt ?_);refine ga [14] ?_;refine aS ?_;refine bk (c1,w1,ku,mu,su,lu,au) rfl ?_ [0,1,2,3,4,5,6,7,11] mz;exact fun h=>⟨(hin2 h).1,(hin2 h).2.1,hsz⟩
   ·skip
    refine A4 12 rfl (qu bt ?_);refine A2 6 rfl (ck Og rfl rfl (hpar) [] rfl .nil (an .nil) ?_);refine A2 8 rfl (aJ uK rfl rfl rfl rfl (hin) [3,4] (bh (cw .nil)) rfl rfl rfl rfl (an (bl (LC (bl (an .nil))))) (fun s ob' hq=>?_) (fun s ob' hq=>?_));rotate_left
    ·obtain ⟨_,_,_,hq1,_⟩:=hq;cases hq1
    obtain⟨⟨ku,mu,su,lu,au⟩,c1,w1,hq1,rfl,_,hin2⟩:=hq;cases hq1;refine⟨_,_,_,_,_,rfl,rfl,rfl,rfl,rfl,?_⟩;refine ga [9,10,11] ?_;refine A2 13 rfl (dP bt ?_);refine ga [14] ?_;refine aS ?_;refine bk (c1,w1,ku,mu,su,lu,au) rfl ?_ [0,1,2,3,4,5,6,7,10] mz;exact fun h=>⟨(hin2 h).1,(hin2 h).2.1,hsz⟩
  case B9=>
   rintro⟨cz,w2,ku,mu,su,lu,au⟩ hcut
   try dsimp only at hcut
   refine kc 0 [8,7,5,4] 12 ?_;refine eo (Ao (decide (cz=0)) (.mk kt mt st lt at1) (.mk ku mu su lu au) cz) [0,1,2,3,4] (iV es w2) ?_
   ·exact ⟨_,_,_,_,_,_,_,_,_,_,_,_,w2,rfl,rfl,fun h=>hcut (of_decide_eq_true h)⟩
theorem BL(hE:de es){ps:List ByteArray}{c:Int}(hc:0≤c){most:Nat}(hm:most≤1000000)(w:Bool)(k m:Int)(s:ByteArray)(ls:List aO)(args:List ae)(hz:c+(ae.mk k m s ls args).size+30000*most≤1000000000000)(hw:Wt (eh es) ps (.mk k m s ls args) c):
 er Tryz.prog gl 32 [ba es w,aZ] [.b0 0 0,.d (ae.mk k m s ls args).d,.d (.v (.int .i64 most))] (Fv es most (.mk k m s ls args) w):=by
 have hwh:=vY (gl:=gl) hE (ps:=ps) (c:=c) ⟨hc,by omega⟩ hm ((ae.mk k m s ls args).size+30000*(most-0)+1) w false k m s ls args 0 0 (by omega) (by omega) (by omega) hw;obtain⟨T0,hT0⟩:∃x,x=ae.mk k m s ls args:=⟨_,rfl⟩;rw[show Fv es most (.mk k m s ls args) w=Fv es most T0 w by rw[hT0]];rw[show sj es most ((ae.mk k m s ls args).size+30000*(most-0)+1) (.mk k m s ls args) 0 0 w false=sj es most ((ae.mk k m s ls args).size+30000*(most-0)+1) T0 0 0 w false by rw[hT0]] at hwh;generalize(ae.mk k m s ls args).size+30000*(most-0)+1=G at hwh;refine bS Tryz.func32 Tryz.ntmps32 2 ?_;refine kc 16 [9,6,4,0] 5 ?_;refine oc (aJ Ij rfl rfl rfl rfl (hwh) [0,1,4] (bh (cw (bh .nil))) rfl rfl rfl rfl (an (bl (an .nil))) (fun s ob' hq=>?_) (fun s ob' hq=>?_));rotate_left
 ·obtain ⟨_,_,_,_,hq1,_⟩:=hq;cases hq1
 obtain⟨⟨k1,m1,s1,l1,a1⟩,d1,t1,w1,hq1,rfl,hd1,hd2,hres⟩:=hq;cases hq1;refine⟨_,_,_,_,_,rfl,rfl,rfl,rfl,rfl,?_⟩;refine ko 5 [10,9,6,0] 7 ?_;refine' oo (yt:=26) (d:=22) 4 ?a1 ?b1 ?_
 case a1=>
  intro hc hK;refine go 4 ?_;exact hK [_,_,_,_] rfl rfl
 case b1=>
  intro _ hK;refine go 4 ?_;exact hK [_,_,_,_] rfl
 refine go 2 ?_;refine cj (fun h3=>?_) (fun h3=>?_)
 ·refine kc 0 [6] 10 ?_;refine eo (.bY [aP.d,.v (.int .i64 0),.v (.int .i64 14)]) [0,1] [ba es w1,aZ] ?_
  ·refine ⟨aP,0,14,w1,rfl,rfl,fun h=>?_⟩;obtain⟨e1,e2⟩:=hres h;rcases e2 with⟨e3,e4|e4⟩|⟨e3,e4,e5⟩
   ·cases e4
   ·exact ⟨_,.cW,e4,rfl,rfl,rfl⟩
   ·exfalso;rw[e3,h] at h3;simp at h3
 refine kc 3 [10,9,6] 0 ?_;refine gz [0,1,2,3,4] mixed ?_;refine A2 5 rfl (dP bt ?_);refine ga [6,7] ?_;refine aS ?_;refine ge 2 ?_;refine eo (.bY [(ae.mk k1 m1 s1 l1 a1).d,.v (.int .i64 d1),.v (.int .i64 0)]) [0,1] [ba es w1,aZ] ?_
 ·have hok:t1=false∧w1=false:=(by cases t1<;>cases w1<;>simp_all);obtain⟨rfl,rfl⟩:=hok;refine⟨.mk k1 m1 s1 l1 a1,d1,0,false,rfl,rfl,fun _=>?_⟩;obtain⟨e1,e2⟩:=hres rfl;rcases e2 with⟨e3,_⟩|⟨e3,e4,e5⟩
  ·cases e3
  ·exact ⟨_,.ok (.mk k1 m1 s1 l1 a1) d1,e5,rfl,rfl,rfl⟩
theorem DA(hgl:(ux g) 1=o6)(hF:gb es)(w:Bool)(x:Step)(hxu:x.u.size≤1099511627776)(hxa:i64 x.a):
 er Tryz.prog (ux g) 12 (iV es w) [FP x (.b0 0 0) (.b0 3 0)] fun out ob'=> ∃w':Bool,out=.ret (.d (.v (.bool true)))∧ob'=iV es w':=by
 have hrs:=D2 (g:=g) hF w x hxu x.s;obtain⟨f,hf,hfu⟩:=Hw (gl:=ux g) x hxa;unfold iV;refine bS Tryz.func12 Tryz.ntmps12 5 ?_;refine gc 12 ?_;refine oc (aJ Q8 rfl rfl rfl rfl (hrs) [0,1,2,3,4] (bh (cw (.cons rfl .cY (bh (cw .nil))))) rfl rfl rfl rfl (an (an .nil)) (fun s ob' hq=>?_) (fun s ob' hq=>?_));rotate_left
 ·obtain ⟨_,_,_,_,_,_,_,_,_,_,_,_,_,hq1,_⟩:=hq;cases hq1
 obtain⟨ok,kt,mt,st,lt,at1,ku,mu,su,lu,au,cR,w1,hq1,rfl,hok⟩:=hq;cases hq1;refine⟨_,_,_,_,_,rfl,rfl,rfl,rfl,rfl,?_⟩;refine ko 5 [3,1] 7 ?_;refine cj (fun h2=>?_) (fun h2=>?_)
 ·refine kc 0 [] 7 ?_;refine eo (.v (.bool true)) [0,1,2,3,4] (iV es w1) ?_
  ·exact ⟨w1,rfl,rfl⟩
 refine kc 3 [3,1] 0 ?_;have hok1:ok=true:=(by first|exact h2|(simp_all));obtain⟨rfl,hW,hz⟩:=hok hok1;have hrw:=BL (gl:=ux g) hF.ok (ps:=yk x.u) (c:=0) (Int.le_refl _) (most:=f) (by omega) false kt mt st lt at1 (by omega) hW;refine xo (ι:=Int×Int×Bool×Int×Int×ByteArray×List aO×List ae) (fun⟨nR,cz,w2,kv,mw,sv,lv,av⟩=>[(5,.d (.v (.int .i64 nR))),(6,.d (.v (.int .i64 cz))),(4,.b0 7 0)]) (fun⟨nR,cz,w2,kv,mw,sv,lv,av⟩=>[pE (es.map (·.d)),dR,.cY (fY es),HK 4 es w2,aZ,Jo x (.b0 0 0) (.b0 3 0),.cells [.d (.v (.bool ok)),.d (.v (.int .i64 kt)),.d (.v (.int .i64 mt)),.d (.v (.string st)),.d (.sl 3 (bE lt)),.d (.sl 5 (ay at1)),.d (.v (.int .i64 ku)),.d (.v (.int .i64 mu)),.d (.v (.string su)),.d (.sl 3 (bE lu)),.d (.sl 5 (ay au)),.d (.v (.int .i64 cR))] 41,tO kv mw sv lv av]) [3,1] (fun⟨nR,cz,w2,kv,mw,sv,lv,av⟩=>(w2=false→∃n o,RW es f n (.mk kt mt st lt at1) 0 o∧(ae.mk kv mw sv lv av)=(w3 o).1∧nR=(w3 o).2.1∧cz=Oa (w3 o).2.2)) rfl ?A10 ?B10
 case A10=>
  refine gz [0,1,2,3,4,5,6] mixed ?_;refine cP (rs:=[7,13]) (by kernel_rfl) rfl ⟨?_,?_,trivial⟩
  ·skip
   refine A4 7 rfl (cv Mc rfl rfl (hfu) (bl .nil) ?_);refine cP (rs:=[8,13]) (by kernel_rfl) rfl ⟨?_,?_,trivial⟩
   ·skip
    refine A4 8 rfl (aJ Ku rfl rfl rfl rfl (hrw) [3,4] (bh (cw .nil)) rfl rfl rfl rfl (an (bl (an .nil))) (fun s ob' hq=>?_) (fun s ob' hq=>?_));rotate_left
    ·obtain ⟨_,_,_,_,hq1,_⟩:=hq;cases hq1
    obtain⟨⟨kv,mw,sv,lv,av⟩,d2,c2,w2,hq1,rfl,hres⟩:=hq;cases hq1;refine⟨_,_,_,_,_,rfl,rfl,rfl,rfl,rfl,?_⟩;refine ga [9,10,11,12] ?_;refine A2 13 rfl (qu bt ?_);refine A2 14 rfl (dP bt ?_);refine ga [15,16] ?_;refine aS ?_;refine bk (d2,c2,w2,kv,mw,sv,lv,av) rfl ?_ [0,1,2,3,4,5,6,7] mz;exact hres
   ·skip
    refine A4 13 rfl (qu bt ?_);refine A2 8 rfl (aJ Ku rfl rfl rfl rfl (hrw) [3,4] (bh (cw .nil)) rfl rfl rfl rfl (an (bl (an .nil))) (fun s ob' hq=>?_) (fun s ob' hq=>?_));rotate_left
    ·obtain ⟨_,_,_,_,hq1,_⟩:=hq;cases hq1
    obtain⟨⟨kv,mw,sv,lv,av⟩,d2,c2,w2,hq1,rfl,hres⟩:=hq;cases hq1;refine⟨_,_,_,_,_,rfl,rfl,rfl,rfl,rfl,?_⟩;refine ga [9,10,11,12] ?_;refine A2 14 rfl (dP bt ?_);refine ga [15,16] ?_;refine aS ?_;refine bk (d2,c2,w2,kv,mw,sv,lv,av) rfl ?_ [0,1,2,3,4,5,6,7] mz;exact hres
  ·skip
   refine A4 13 rfl (qu bt ?_);refine A2 7 rfl (cv Mc rfl rfl (hfu) (bl .nil) ?_);refine A2 8 rfl (aJ Ku rfl rfl rfl rfl (hrw) [3,4] (bh (cw .nil)) rfl rfl rfl rfl (an (bl (an .nil))) (fun s ob' hq=>?_) (fun s ob' hq=>?_));rotate_left
   ·obtain ⟨_,_,_,_,hq1,_⟩:=hq;cases hq1
   obtain⟨⟨kv,mw,sv,lv,av⟩,d2,c2,w2,hq1,rfl,hres⟩:=hq;cases hq1;refine⟨_,_,_,_,_,rfl,rfl,rfl,rfl,rfl,?_⟩;refine ga [9,10,11,12] ?_;refine A2 14 rfl (dP bt ?_);refine ga [15,16] ?_;refine aS ?_;refine bk (d2,c2,w2,kv,mw,sv,lv,av) rfl ?_ [0,1,2,3,4,5,6,7] mz;exact hres
 case B10=>
  rintro⟨nR,cz,w2,kv,mw,sv,lv,av⟩ hcut
  try dsimp only at hcut
  refine kc 0 [5,6,4,3,1] 11 ?_;refine cj (fun h5=>?_) (fun h5=>?_)
  ·refine kc 0 [] 7 ?_;refine eo (.v (.bool true)) [0,1,2,3,4] (iV es w2) ?_
   ·exact ⟨w2,rfl,rfl⟩
  refine kc 3 [5,6,4,3,1] 0 ?_;have hw2:w2=false:=(by first|exact h5|(simp_all));subst hw2;obtain⟨n,o,hR,hv,hn,hcd⟩:=hcut rfl;have hpw:=EZ (gl:=ux g) hF (ps:=yk x.u) (most:=f) (by omega) kt mt st lt at1 o hR (by omega) hW;rw[LA o,←hv] at hpw;have hcb:=LY (gl:=ux g) hgl (w3 o).2.2;subst hn hcd;generalize(w3 o).2.1=nP at hpw;generalize(w3 o).2.2=bP at hpw hcb;have hvz:(ae.mk kv mw sv lv av).size≤1099511627776:=(by
   rw[hv];cases o with
   |cW=>decide
   |ok u d'=>have:=(vw hF.ok (c:=0) (Int.le_refl _) n hR (Nat.zero_le _) hW |>.2.2).2;simp only[w3];omega)
  have hsm:=yf (gl:=ux g) kv mw sv lv av kv mw sv lv av hvz;rw[ae.qE] at hsm;refine xo (ι:=Unit) (fun _=>[(8,.d (.v (.int .i64 nP))),(9,.d (N0 bP)),(7,.b0 8 0)]) (fun _=>[pE (es.map (·.d)),dR,.cY (fY es),HK 4 es false,aZ,Jo x (.b0 0 0) (.b0 3 0),.cells [.d (.v (.bool ok)),.d (.v (.int .i64 kt)),.d (.v (.int .i64 mt)),.d (.v (.string st)),.d (.sl 3 (bE lt)),.d (.sl 5 (ay at1)),.d (.v (.int .i64 ku)),.d (.v (.int .i64 mu)),.d (.v (.string su)),.d (.sl 3 (bE lu)),.d (.sl 5 (ay au)),.d (.v (.int .i64 cR))] 41,tO kv mw sv lv av,tO kv mw sv lv av]) [5,6,4] (fun _=>True) rfl ?A11 ?B11
  case A11=>
   refine gz [0,1,2,3,4,5,6] mixed ?_;refine cP (rs:=[7,13]) (by kernel_rfl) rfl ⟨?_,?_,trivial⟩
   ·skip
    refine A4 7 rfl (cv Mc rfl rfl (hfu) (bl .nil) ?_);refine cP (rs:=[8,13]) (by kernel_rfl) rfl ⟨?_,?_,trivial⟩
    ·skip
     refine A4 8 rfl (ck Oh rfl rfl (hpw) [0,1,2] rfl (bh (cw (.cons rfl .cY .nil))) (an (bl (an .nil))) ?_);refine ga [9,10,11,12] ?_;refine A2 13 rfl (qu bt ?_);refine A2 14 rfl (dP bt ?_);refine ga [15,16] ?_;refine aS ?_;refine bk () rfl ?_ [0,1,2,3,4,5,6,7,8] mz;trivial
    ·skip
     refine A4 13 rfl (qu bt ?_);refine A2 8 rfl (ck Oh rfl rfl (hpw) [0,1,2] rfl (bh (cw (.cons rfl .cY .nil))) (an (bl (an .nil))) ?_);refine ga [9,10,11,12] ?_;refine A2 14 rfl (dP bt ?_);refine ga [15,16] ?_;refine aS ?_;refine bk () rfl ?_ [0,1,2,3,4,5,6,7,8] mz;trivial
   ·skip
    refine A4 13 rfl (qu bt ?_);refine A2 7 rfl (cv Mc rfl rfl (hfu) (bl .nil) ?_);refine A2 8 rfl (ck Oh rfl rfl (hpw) [0,1,2] rfl (bh (cw (.cons rfl .cY .nil))) (an (bl (an .nil))) ?_);refine ga [9,10,11,12] ?_;refine A2 14 rfl (dP bt ?_);refine ga [15,16] ?_;refine aS ?_;refine bk () rfl ?_ [0,1,2,3,4,5,6,7,8] mz;trivial
  case B11=>
   rintro _ hcut
   try dsimp only at hcut
   refine kc 0 [8,9,7,5,6,4] 4 ?_;refine oc (cv Q6 rfl rfl (hcb) (an (an .nil)) ?_);refine ko 3 [10,8,7,5,6,4] 4 ?_;refine' oa (yt:=58) (d:=55) 3 ?a3 ?b3 ?_
   case a3=>
    intro hc hK;refine go 3 ?_;exact hK [_,_,_] rfl rfl
   case b3=>
    intro _ hK;refine go 3 ?_;exact hK [_,_,_] rfl
   refine go 1 ?_;refine' oa (yt:=67) (d:=60) 7 ?a4 ?b4 ?_
   case a4=>
    intro hc hK;refine go 3 ?_;refine' oo (yt:=66) (d:=63) 3 ?a5 ?b5 ?_ (hg:=.yes rfl rfl rfl rfl)
    case a5=>
     intro hc hK;refine go 2 ?_;refine gy ?_;refine oc (cv Q7 rfl rfl (hsm) (bl (bl .nil)) ?_);exact hK [_,_,_] rfl rfl
    case b5=>
     intro _ hK;refine go 3 ?_;exact hK [_,_,_] rfl
    exact hK [_,_,_,_] rfl rfl
   case b4=>
    intro _ hK;refine go 7 ?_;exact hK [_,_,_,_,_,_,_] rfl
   refine go 4 ?_;refine sy [0,1,2,3,4] (iV es false) ?_
   ·exact ⟨false,by simp,rfl⟩
end
section
open Go Go.Vd Go.RowKit
attribute [local irreducible] bq bu dh ak bJ cQ
variable {g gl:Nat→List D}
set_option maxHeartbeats 1600000 in
theorem DX(hgl:(ux g) 1=o6)(l:List Step)(hl:l.length≤1048576)(hs:∀x∈l,x.u.size≤1048576∧i64 x.a):cC Tryz.prog (ux g) 5 [.sl 6 (steps l)] (· =.v (.bool true)):=by
 refine bD Tryz.func5 Tryz.ntmps5 ?_;refine gc 8 ?_;refine oc (cv RO rfl rfl (Fh) .nil ?_);refine go 3 ?_;refine cf ?_;refine gc 5 ?_;refine oc (aJ RM rfl rfl rfl rfl (BP (g:=g) l hl) [] .nil rfl rfl rfl rfl (an (an .nil)) (fun s ob' hq=>?_) (fun s ob' hq=>?_));rotate_left
 ·obtain ⟨_,_,hq1,_⟩:=hq;cases hq1
 obtain⟨its0,els,hq1,rfl,hel,hgood0⟩:=hq;cases hq1;have hpl9:=zd els;refine⟨_,_,_,_,_,rfl,rfl,rfl,rfl,rfl,?_⟩;refine ko 4 [3] 6 ?_;refine lp (ι:=Nat×List pH) (fun⟨i,eC⟩=>[(4,int i)]) (fun⟨i,eC⟩=>[dF eC]) [3] (fun⟨i,eC⟩=>i≤els.length∧∀e∈els,ny eC e.b1 e.b2) (fun⟨i,eC⟩=>els.length-i) ((0,its0)) ([0]) rfl ?I1 ?M1 ?H1
 case I1=>
  exact⟨Nat.zero_le _,fun e he=>(hgood0 e he).1⟩
 case M1=>
  exact mz
 case H1=>
  rintro⟨i,eC⟩ hinv
  try dsimp only at hinv
  refine kc 0 [4,3] 9 ?_;refine cJ (fun h5=>?_) (fun h5=>?_)
  ·refine kc 5 [] 6 ?_;refine ez ?_;rfl
  refine kc 5 [4,3] 0 ?_;have hi:i<els.length:=(by omega);obtain⟨kk,iG,es,w,hk,hF,hb1,hb2⟩:=hinv.2 _ (List.getElem_mem hi);have hxs:=hs _ (hgood0 _ (List.getElem_mem hi)).2;have hkl:=DA (g:=g) hgl hF w els[i].x (by have:=hxs.1;omega) hxs.2;refine gc 3 ?_;refine o1 (cr OR QB ?_ (he:=by exact(Lg hi)));refine go 1 ?_;refine oc (Jw Q9 rfl rfl rfl rfl (pi:=0) (x:=⟨iV es w,iG⟩) rfl hk rfl hkl (G3 hb1 hb2) (fun y=>rfl) (fun s ob' hq=>by obtain⟨_,hq1,_⟩:=hq;cases hq1;exact⟨_,rfl⟩) (fun s ob' hq=>by obtain⟨_,hq1,_⟩:=hq;cases hq1) ?_);rintro d ob' pls' ⟨w2,hq1,rfl⟩ hkeep;cases hq1;refine ko 3 [5,4,3] 6 ?_;refine cf ?_;refine gc 5 ?_;refine o1 (cF ?_);refine go 2 ?_;refine bk (i+1,eC.set kk ⟨iV es w2,pls'⟩) rfl ?_ [0] mz;exact⟨⟨by omega,fun e he=>JS hk hF hkeep (hinv.2 e he)⟩,show _-(i+1)<_-i by omega⟩
end
section
open Go Go.Vd Go.RowKit Go.ChangeShapes Go.WideShapes Go.ChangeAt
theorem own:ownKnob Tryz.prog.godebug=none:=by kernel_rfl
theorem one_le{H:Type}(d:DataW H):1≤Rows.uptoBulk d:=by
 cases d with
 |lit l=>cases l<;>simp[Rows.uptoBulk]
 |nil=>simp[Rows.uptoBulk]
 |ptr d=>simp[Rows.uptoBulk]
 |slice elems spare=>simp[Rows.uptoBulk]
 |agg parts=>simp[Rows.uptoBulk]
 |iface t d=>simp[Rows.uptoBulk]
 |map entries=>simp[Rows.uptoBulk]
 |held h=>simp[Rows.uptoBulk]
theorem FR{H:Type}{d:DataW H}{l:List (DataW H)}(h:d∈l):Rows.uptoBulk d≤Rows.uptoBulkAll l:=by
 induction l with
 |nil=>cases h
 |cons x r ih=>
  simp only[Rows.uptoBulkAll];cases List.mem_cons.1 h with
  |inl e=>subst e;omega
  |inr e=>have:=ih e;omega
theorem length_le{H:Type}(l:List (DataW H)):l.length≤Rows.uptoBulkAll l:=by
 induction l with
 |nil=>simp[Rows.uptoBulkAll]
 |cons x r ih=>have:=one_le x;simp only[Rows.uptoBulkAll,List.length_cons];omega
section
variable {H:Type} {enc:TypeId×Value→H} {W:World} {sp:Nat→Bool} {hd:Bool}
variable {v:Value} {fuel:Nat}
set_option maxRecDepth 100000 in
theorem vB{x:DataW H×List MemPlace}(h:DataW.trod enc Tryz.prog W 0 sp hd fuel 22 v.cells.toList=some x)(hv:v.oneCell'=true):
 ∃l:List Step,(D.sl 6 (steps l)).Den (rb W) v∧l.length≤Rows.uptoBulk x.1∧∀o∈l,o.u.size≤Rows.uptoBulk x.1∧i64 o.a:=by
 have hu:=DF;have he:(bj Tryz.prog 22).elem=28:=by rw[Qz]
 rw[he] at hu;have c25:Tryz.prog.cellsOf 28=6:=by kernel_rfl
 have c3:Tryz.prog.cellsOf 3=1:=by kernel_rfl
 have c9:Tryz.prog.cellsOf 9=1:=by kernel_rfl
 rw[Value.zT hv] at h;rcases DataW.trod_slice hu h with⟨h1,_⟩|⟨a,len,cap,elems,rest,n,rfl,h1,ex,_,h2,_,h3,h4,_⟩
 ·simp at h1;subst h1;exact⟨[],⟨none,0,rfl,by simp[steps],fun hn=>absurd rfl hn⟩,by simp,by simp⟩
 ·simp at h1;subst h1;have key:∀i,i<len→∃st:Step,(st.u.size≤Rows.uptoBulk x.1∧i64 st.a)∧∀(j:Nat) y,st.cells[j]? =some y→∃u,W.cell? (a.add (i*6) |>.add j)=some u∧u.oneCell'=true∧∀m,y.Den m u:=by
   intro i hi;have:=h4 i hi;rw[c25,List.getElem?_eq_getElem (by omega)] at this;obtain⟨cs,hcs,hst⟩:=Option.bind_eq_some_iff.1 this;obtain⟨_,hlen,hcell⟩:=World.cells?_some hcs;obtain⟨xs,n',rfl,exs,_,hxl,hf⟩:=DataW.trod_struct Tryz.underlying28 hst;have hx6:xs.length=6:=hxl;have f0:=hf 0 _ rfl;have f1:=hf 1 _ rfl;have f2:=hf 2 _ rfl;have f3:=hf 3 _ rfl;have f4:=hf 4 _ rfl;have f5:=hf 5 _ rfl;rw[List.getElem?_eq_getElem (by omega)] at f0 f1 f2 f3 f4 f5
   match cs,hlen with
   |[x0,x1,x2,x3,x4,x5],_=>
    have g0:DataW.trod enc Tryz.prog W 0 sp hd n' 3 (([x0,x1,x2,x3,x4,x5].drop 0).take (Tryz.prog.cellsOf 3))=some xs[0]:=f0;rw[c3] at g0;have g1:DataW.trod enc Tryz.prog W 0 sp hd n' 9 (([x0,x1,x2,x3,x4,x5].drop 1).take (Tryz.prog.cellsOf 9))=some xs[1]:=f1;rw[c9] at g1;have g2:DataW.trod enc Tryz.prog W 0 sp hd n' 9 (([x0,x1,x2,x3,x4,x5].drop 2).take (Tryz.prog.cellsOf 9))=some xs[2]:=f2;rw[c9] at g2;have g3:DataW.trod enc Tryz.prog W 0 sp hd n' 9 (([x0,x1,x2,x3,x4,x5].drop 3).take (Tryz.prog.cellsOf 9))=some xs[3]:=f3;rw[c9] at g3;have g4:DataW.trod enc Tryz.prog W 0 sp hd n' 3 (([x0,x1,x2,x3,x4,x5].drop 4).take (Tryz.prog.cellsOf 3))=some xs[4]:=f4;rw[c3] at g4;have g5:DataW.trod enc Tryz.prog W 0 sp hd n' 3 (([x0,x1,x2,x3,x4,x5].drop 5).take (Tryz.prog.cellsOf 3))=some xs[5]:=f5;rw[c3] at g5;obtain⟨k,e0,_⟩:=qc (k:=0) g0;obtain⟨s,e1⟩:=uU g1;obtain⟨t,e2⟩:=uU g2;obtain⟨u,e3,es1,_⟩:=DataW.trod_string uP g3;obtain⟨a',e4,i4⟩:=qc (k:=0) g4;obtain⟨b',e5,i5⟩:=qc (k:=0) g5;simp only[List.drop_zero,List.drop_succ_cons,List.take_succ_cons,List.take_zero,List.cons.injEq,and_true] at e0 e1 e2 e3 e4 e5;subst e0 e1 e2 e3 e4 e5;have hbd:u.size≤Rows.uptoBulk x.1:=by
     have q1:=FR (List.mem_map_of_mem (f:=(·.1)) (List.getElem_mem (show 3<xs.length by omega)));have q2:=FR (List.mem_map_of_mem (f:=(·.1)) (List.getElem_mem (show i<elems.length by omega)));rw[es1] at q1;rw[exs] at q2;rw[ex];simp only[Rows.uptoBulk] at q1 q2 ⊢;have q3:u.data.toList.length=u.size:=rfl;omega
    refine⟨⟨k,s,t,u,a',b'⟩,⟨hbd,i4⟩,fun j y hy=>?_⟩;have hj:j<6:=by have:=(List.getElem?_eq_some_iff.1 hy).1;simpa[Step.cells] using this
    rw[hcell j hj]
    match j,hj with
    |0,_=>simp[Step.cells] at hy;subst hy;exact⟨_,rfl,rfl,fun m=>rfl⟩
    |1,_=>simp[Step.cells] at hy;subst hy;exact⟨_,rfl,rfl,fun m=>rfl⟩
    |2,_=>simp[Step.cells] at hy;subst hy;exact⟨_,rfl,rfl,fun m=>rfl⟩
    |3,_=>simp[Step.cells] at hy;subst hy;exact⟨_,rfl,rfl,fun m=>rfl⟩
    |4,_=>simp[Step.cells] at hy;subst hy;exact⟨_,rfl,rfl,fun m=>rfl⟩
    |5,_=>simp[Step.cells] at hy;subst hy;exact⟨_,rfl,rfl,fun m=>rfl⟩
  obtain⟨l,hl,hp⟩:=C0 key;refine⟨l,⟨some a,cap,by rw[tX,hl],by rw[tX,hl];exact h2,fun hn=>?_⟩,?_,fun o ho=>?_⟩
  ·have hl0:0<l.length:=List.length_pos_iff.2 fun e=>hn (by simp[steps,e])
   have hsp:a.spot=none:=by
    obtain⟨_,hc⟩:=hp 0 l[0] (by simp[hl0]);obtain⟨u,hu,_⟩:=hc 0 _ rfl;simp only[Nat.zero_mul] at hu;have e:(a.add 0).add 0=a:=by simp[Addr.add]
    rw[e] at hu;exact World.cell?_spot hu
   obtain⟨ab,ao,OL⟩:=a;simp only at hsp;subst hsp;refine⟨ab,ao,rfl,AV Step.cells fun i st hst=>⟨rfl,?_⟩⟩;obtain⟨_,hc⟩:=hp i st hst;have:∀j y,st.cells[j]? =some y→∃u,rb W ab (ao+i*6+j)=some u∧y.Den (rb W) u:=fun j y hy=>by
    obtain⟨u,h5,h6,h7⟩:=hc j y hy;rw[fF,fF] at h5;exact⟨u,vP h5 h6,h7 _⟩
   exact⟨this 0 _ rfl,this 1 _ rfl,this 2 _ rfl,this 3 _ rfl,this 4 _ rfl,this 5 _ rfl,trivial⟩
  ·rw [hl,←h3,ex];have:=length_le (elems.map (·.1));simp only[Rows.uptoBulk,List.length_map] at this ⊢;omega
  ·obtain ⟨i,hi,e⟩:=List.mem_iff_getElem.1 ho;exact(hp i o (by rw[List.getElem?_eq_getElem hi,e])).1
end
def gE:Nat→List D
 |1=>o6
 |_=>[]
def Rk:Nat→List D:=ux gE
theorem JU{w:World}(h0:eV (rb w) 0 0 [ey fk])(h1:eV (rb w) 1 0 o6):∀b,eV (rb w) b 0 (Rk b)
 |0=>h0
 |1=>h1
 |_+2=>trivial
theorem QQ : Tryz.prog.globalNamed "errors.errorType" = some 1 := by kernel_rfl
theorem QP : (Tryz.prog.cutTypes.find? (·.1 == "internal/reflectlite.rtype")).map (·.2) = some 180 := by kernel_rfl
theorem Kf:((List.range 272).filter fun t=>Tryz.prog.rowNamed t [101,114,114,111,114])=[49]:=by kernel_rfl
theorem N2:Tryz.prog.types.size=272:=by kernel_rfl
theorem Kc{W : World}(e5 : W.var? Tryz.prog "errors.errorType" = some #[.iface 180 (.agg #[typeHandle Tryz.prog 49])]) : eV (rb W) 1 0 o6 := by
 have hh:typeHandle Tryz.prog 49=.pointer (some ⟨2,49,none⟩):=by kernel_rfl
 rw[hh] at e5;exact⟨⟨_,vP (World.var?_cell QQ e5 0) rfl,rfl⟩,trivial⟩
def JC(s:ByteArray):DataW Unit:=.lit (.string s.data.toList)
variable {v:Value}
theorem K9{W:World}{n:Nat}{x:DataW Unit×List MemPlace}{s:ByteArray}{sp:Nat→Bool}{hd:Bool}(h:DataW.trod (fun _=>()) Tryz.prog W 0 sp hd n 9 [v]=some x)(hx:x.1=JC s):v=.string s:=by
 obtain⟨s',h1,h2,_⟩:=DataW.trod_string uP h;simp only[List.cons.injEq,and_true] at h1;subst h1 h2;simp only[JC,DataW.lit.injEq,Lit.string.injEq] at hx
 congr 1
 exact ByteArray.ext (Array.ext' hx)
theorem Lo{elems:List (DataW Unit×List MemPlace)}(h:elems.map (·.1)=fk.map JC){i:Nat}(hi:i<fk.length):∃x,elems[i]? =some x∧x.1=JC fk[i]:=by
 have hl:=congrArg List.length h;simp only[List.length_map] at hl;have h1:=congrArg (fun l=>l[i]?) h;simp only[List.getElem?_map] at h1;rw[List.getElem?_eq_getElem (show i<elems.length by omega),List.getElem?_eq_getElem hi] at h1;exact⟨elems[i],List.getElem?_eq_getElem (by omega),Option.some.inj h1⟩
variable {fuel:Nat}
theorem GW{W : World}{cs : Array Value}{p : List MemPlace}(hv : Tryz.prog.globalNamed "provekernel/provekernelref.words" = some 0)(hw : W.var? Tryz.prog "provekernel/provekernelref.words" = some cs)
 (hd:DataW.trod (fun _=>()) Tryz.prog W 0 (fun _=>true) false fuel 57 cs.toList=some (Rows.laid_provekernel_provekernelref_words,p)):eV (rb W) 0 0 [ey fk]:=by
 have hcell:=fun i=>World.var?_cell hv hw i
 have hu:=pI;have he:(bj Tryz.prog 57).elem=9:=by rw[GS]
 rw[he] at hu;have c9:Tryz.prog.cellsOf 9=1:=by kernel_rfl
 have hwl:fk.length=7:=rfl;rcases DataW.trod_slice hu hd with⟨_,h1⟩|⟨a,len,cap,elems,rest,n,_,hcs,ex,_,h2,_,h3,h4,_⟩
 ·exact absurd (congrArg Prod.fst h1) (by intro h;cases h)
 ·have QO:(DataW.slice (fk.map JC) []:DataW Unit)=.slice (elems.map (·.1)) (rest.map (·.1)):=congrArg Prod.fst ex;have OK:=(DataW.slice.inj QO).1.symm;have hel:elems.length=7:=by have:=congrArg List.length OK;simpa[hwl] using this
  have key:∀i:Nat,(hi:i<fk.length)→W.cell? (a.add (i*1))=some (.string fk[i]):=fun i hi=>by
   obtain⟨x,hx1,hx2⟩:=Lo OK hi;have:=h4 i (by omega);rw[c9,hx1] at this;obtain⟨us,hus,hst⟩:=Option.bind_eq_some_iff.1 this;obtain⟨_,hlen,hc⟩:=World.cells?_some hus
   match us,hlen with
   |[u],_=>
    have:=hc 0 (by decide);rw[K9 hst hx2] at this
    simpa[Addr.add] using this
  have hsp:a.spot=none:=by
   have:=key 0 (by decide);have e:a.add (0*1)=a:=by simp[Addr.add]
   rw[e] at this;exact World.cell?_spot this
  obtain⟨ab,ao,OL⟩:=a;simp only at hsp;subst hsp;have hc0:=hcell 0;obtain⟨l⟩:=cs;simp only at hcs;subst hcs;refine⟨⟨_,vP (hcell 0) rfl,some ⟨ab,ao,none⟩,cap,?_,?_,fun _=>⟨ab,ao,rfl,AV (fun s=>[.v (.string s)]) fun i x hx=>⟨rfl,?_⟩⟩⟩,trivial⟩
  ·rw [cO,hwl,←h3,hel];rfl
  ·rw [cO];omega
  ·obtain ⟨hi,rfl⟩:=List.getElem?_eq_some_iff.1 hx;have:=key i hi;rw[fF] at this;exact⟨⟨_,vP this rfl,rfl⟩,trivial⟩
def My : List (String × DataW Unit) := [("errors.errorType", Rows.laid_errors_errorType), ("provekernel/provekernelref.words", Rows.laid_provekernel_provekernelref_words)]
theorem AK{W:World}(h:laidMetH Tryz.prog My W):∀b,eV (rb W) b 0 (Rk b):=by
 have h' : laidMet Tryz.prog [("provekernel/provekernelref.words", Rows.laid_provekernel_provekernelref_words)] W ∧ handlesMet Tryz.prog [("errors.errorType", Rows.laid_errors_errorType)] W := h
 obtain⟨⟨ps,hL,_,_⟩,hH⟩:=h';obtain⟨g4,t4,cs4,fu4,p4,q4,hg4,ht4,hv4,hd4,_,_⟩:=hL;have n4 : Tryz.prog.globalNamed "provekernel/provekernelref.words" = some 0 := by kernel_rfl
 obtain rfl:=Option.some.inj (n4.symm.trans hg4);obtain rfl:=Option.some.inj ((show(Tryz.prog.globals[0]?).map (·.type)=some 57 by kernel_rfl).symm.trans ht4);obtain⟨name,u,ty,e1,e2,e3,e4,e5⟩:=hH _ (List.mem_singleton.2 rfl);have en:name=[101,114,114,111,114]:=(Option.some.inj e1).symm;subst en;obtain rfl:=Option.some.inj (QP.symm.trans e2);have hm:ty∈(List.range 272).filter fun t=>Tryz.prog.rowNamed t [101,114,114,111,114]:=List.mem_filter.2 ⟨List.mem_range.2 (by rw[← N2];exact e3),e4⟩
 rw[Kf] at hm;obtain rfl:=List.mem_singleton.1 hm;exact JU (GW n4 hv4 hd4) (Kc e5)
theorem JG(os:Os):laidMetH Tryz.prog My ((World.doorLaid Tryz.prog 400 os).forCall (fun _ _=>0) ⟨#[],#[.slice none 0 0],[]⟩).memory:=
 laidMetH_of_parts3 (fuel:=8) (laidMet_of_run' 8 (by kernel_rfl) (by kernel_rfl)) (by kernel_rfl) (by kernel_rfl)
end
section
open Go Go.Vd Go.RowKit Go.ChangeShapes Go.WideShapes Go.ChangeAt
theorem reads(os:Os){H:Type}(enc:TypeId×Value→H):∃places,DataW.whole enc Tryz.prog ((World.doorLaid Tryz.prog 400 os).forCall (fun _ _=>0) ⟨#[],#[.slice none 0 0],[]⟩).memory Tryz.f5.params.toList Rows.reduceWhnfSpec.vars false #[Value.slice none 0 0].toList 8=some ([.nil],[],places):=
 ⟨[],by kernel_rfl⟩
set_option maxRecDepth 100000 in
theorem Bg(os:Os)(started:os.Started)(H:Type)(enc:TypeId×Value→H)(F:Stop.Interp):
 ReturnsInHanded {} Tryz.checked os 5 .any ((Rows.OpenSpec.upto Rows.reduceWhnfSpec).preRow enc Tryz.prog Tryz.f5 Rows.reduceWhnfUptoRow.domain false Rows.reduceWhnfUptoRow.laid) (((Rows.OpenSpec.upto Rows.reduceWhnfSpec).at F).post enc Tryz.prog Tryz.f5 false true false false):=by
 obtain⟨places,hx⟩:=reads os enc;refine returnsInHanded_of_row (C:=Tryz.checked) (s:=Rows.OpenSpec.upto Rows.reduceWhnfSpec) own started (by kernel_rfl) Tryz.func5
  (witness_row_atRef (enc:=enc) (C:=Tryz.checked) false (World.doorLaid Tryz.prog 400 os) #[.slice none 0 0] rfl (by kernel_rfl) (by kernel_rfl) (by kernel_rfl)
   (OpenSpec.preRow_of_cond 8 hx (by kernel_rfl) (fun k hk=>by cases hk;kernel_rfl) (by kernel_rfl) (JG os))) ?_
 intro W base args ds gs before hval0 hW _ hcond _ hL _ _;have hval:∀(j:Nat) t v,Tryz.f5.params[j]? =some t→args[j]? =some v→Value.okWide Tryz.prog W .any base t v:=hval0;have hW':=hW;obtain⟨p,q,hA0,hV,rfl,hfz,hnd⟩:=hW;have hA:DataW.TrodAll enc Tryz.prog W 0 (fun _=>true) true Tryz.f5.params.toList args.toList ds p:=hA0;rw[Tryz.params5] at hA hval;obtain⟨v0,d0,rfl,rfl,h0⟩:=trodAll_one hA;obtain⟨rfl,rfl⟩:=trodVars_none hV;obtain⟨a,len,cap,rfl⟩:=okWide_slice DF (hval 0 22 v0 rfl rfl);have hbulk:Rows.uptoBulkAll ([d0]++[])≤1048576:=of_decide_eq_true (hcond _ rfl);simp only[List.append_nil,Rows.uptoBulkAll,Nat.add_zero] at hbulk;have h0':=h0;obtain⟨fuel,hf⟩:=h0;obtain⟨l,hl,hlen,hstr⟩:=vB hf rfl;have hcalls:=yA (w:=W) (DX (g:=gE) rfl l (Nat.le_trans hlen hbulk) fun x hx=>⟨Nat.le_trans (hstr x hx).1 hbulk,(hstr x hx).2⟩) (AK hL) (vs:=[.slice a len cap]) ⟨_,[],rfl,hl,rfl⟩;simp only[List.append_nil] at hW';refine hcalls.mono fun e W' ⟨v,d,m,he,hv,hd,hb⟩=>?_
 subst hd;simp only[D.Den] at hv;subst hv;have hlt:∀x∈p,x.block<W.heap.size:=DataW.TrodAll.lt hA;refine⟨_,he,[d0],[],p,[],p,[],hW',trodAll_mk1 (shut_bool Rt _),?_,rfl,hb.frame _,fun h=>by cases h⟩;exact trodAll_mk1 (hb.trod (by kernel_rfl) (by kernel_rfl) (of_decide_eq_true (by kernel_rfl)) h0' hlt)
theorem whnf_holds:Rows.ReduceWhnfUptoSaid:=
 OpenClaim.holds_of_cond 5 Tryz.f5 rfl rfl rfl rfl rfl rfl rfl ⟨rfl,rfl,rfl,rfl,rfl⟩ rfl rfl rfl rfl rfl (by kernel_rfl) Tryz.func5 (by kernel_rfl)
  (of_decide_eq_true (by kernel_rfl)) (by unfold Func.isWrapper;first|(rw[if_pos (by decide +kernel)];kernel_rfl)|(rw[if_neg (by decide +kernel)];exact⟨rfl,rfl⟩))
  (fun os started H enc _ F=>by rw[OpenClaim.pre_eq_preRow];exact Bg os started H enc F)
theorem plain(f : FuncId)(fn : Func)(hf : Tryz.pinned.checked.prog.funcNamed "provekernel/provekernellaw.ReduceWhnf" = some f)(hfn : Tryz.pinned.checked.prog.funcs[f]? = some fn) :
 true=Tryz.pinned.checked.prog.looks []∧∀(j:Nat) t,fn.params[j]? =some t→Tryz.pinned.checked.prog.wantsStandIn t=false:=by
 obtain rfl : f = 5 := Option.some.inj ((show Tryz.prog.funcNamed "provekernel/provekernellaw.ReduceWhnf" = some 5 by kernel_rfl).symm.trans hf) |>.symm
 obtain rfl:fn=Tryz.f5:=(Option.some.inj (Tryz.func5.symm.trans hfn)).symm;refine⟨by kernel_rfl,fun j t ht=>?_⟩;rw[Tryz.params5] at ht;obtain rfl:t=22:=by simpa using Array.mem_of_getElem? ht
 exact(show Tryz.prog.wantsStandIn 22=false by kernel_rfl)
theorem whnf_card_holds:Rows.ReduceWhnfUptoCardSaid:=
 Claim7.holds_tied_plain_at .later [] _ _ _ _ whnf_holds (fun _ h=>by cases h) (by kernel_rfl) (fun _ h=>by cases h) reduceWhnfUpto_row_tie rfl ⟨rfl,rfl⟩ (by kernel_rfl) rfl plain (by kernel_rfl)
#print axioms whnf_card_holds
end
end Go.Proofs.YtndbnldjidciiaaGreatDoor
