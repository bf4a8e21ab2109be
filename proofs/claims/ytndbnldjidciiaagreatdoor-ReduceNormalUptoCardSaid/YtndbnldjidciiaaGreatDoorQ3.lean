/-
  What is proved here: lemmas of part 3, for the theorem of the last part.
-/
import Derived.Test.YtndbnldjidciiaaGreatDoorQ2
set_option linter.unusedSimpArgs false
set_option linter.unusedVariables false
set_option linter.unusedSectionVars false
namespace Go.Proofs.YtndbnldjidciiaaGreatDoor
section
open Go Go.Vd Go.RowKit
attribute [local irreducible] bu bA di ak bL
def R0(g:Nat→List D):Nat→List D:=g
def R1(g:Nat→List D):Nat→List D
 |0=>[eA fm]
 |n=>g n
abbrev uG(g:Nat→List D):Nat→List D:=R0 (R1 g)
variable {g:Nat→List D}
variable {s:ByteArray}
theorem size_pos(h:s≠ .empty):0<s.size:=by
 rcases Nat.eq_zero_or_pos s.size with h1|h1
 ·exact absurd (ByteArray.size_eq_zero_iff.1 h1) h
 ·exact h1
theorem dA:bE none=0:=rfl
theorem ee{f:Option Nat}:bE f=0↔f=none:=by cases f<;>simp[bE]
variable {r:RS} {m:Nat}
theorem CL(h:¬(bE r.f=0∧¬kZ s r=⟨#[41]⟩)):dc m s r=([],r):=by
 cases m with
 |zero=>rfl
 |succ m=>simp only[dc];rw[if_neg (by rw[ee] at h;exact h)]
theorem xt{n:Nat}(hp:r.p≤s.size)(h1:r.f=none)(h2:(bN (n+1) s r).2.f=none):r.p<(bN (n+1) s r).2.p:=by
 obtain⟨p,f⟩:=r;simp only at h1 hp;subst h1;have hf:∀(q:RS) (x:Nat),(q.fail x).f≠none:=by rintro⟨a,f⟩ x;cases f<;>simp[RS.fail]
 have hat:=ft (s:=s) hp;have hnx:(bd s p).1≠ .empty→p<(aS s ⟨p,none⟩).2.p:=fun h=>by rw[iN h];have:=size_pos h;simp only;omega
 have hn1:=c6 (s:=s) (r:=⟨p,none⟩) hp;have hn2:=c6 (s:=s) (r:=(aS s ⟨p,none⟩).2) hn1.2;have hl1:=eJ (s:=s) n (r:=(aS s (aS s ⟨p,none⟩).2).2) hn2.2;have hl2:=eJ (s:=s) n (r:=(bN n s (aS s (aS s ⟨p,none⟩).2).2).2) hl1.2;have ht1:=bY (s:=s) (w:=⟨#[41]⟩) hl1.2;have ht2:=bY (s:=s) (w:=⟨#[41]⟩) hl2.2;by_cases c0:(bd s p).1=⟨#[48]⟩
 ·rw [nh c0];exact hnx (by rw[c0];decide)
 cases c1:dJ (bd s p).1 with
 |true=>
  rw[ni c0 c1];exact hnx (by intro e;rw[e] at c1;simp[dJ] at c1)
 |false=>
  by_cases c2:(bd s p).1=⟨#[40]⟩
  ·have h3:=hnx (by rw[c2];decide);by_cases c3:gQ (bd s (aS s ⟨p,none⟩).2.p).1=0
   ·rw [nj c0 c1 c2 c3] at h2;exact absurd h2 (hf _ _)
   ·by_cases c4:gQ (bd s (aS s ⟨p,none⟩).2.p).1=1
    ·rw [oY c0 c1 c2 c4];simp only at h3 ⊢;omega
    ·rw [jr c0 c1 c2 c3 c4];simp only at h3 ⊢;omega
  ·rw [nk c0 c1 c2] at h2;exact absurd h2 (hf _ _)
theorem CM{r0 r':RS}{acc:List aP}{x:aP}(hinv:r'.p≤s.size∧acc.length+m=s.size+2∧(r'.f=none→s.size-r'.p<m)∧dc (s.size+2) s r0=(acc++(dc m s r').1,(dc m s r').2))
 (h:bE r'.f=0∧¬kZ s r'=⟨#[41]⟩) (hX:(bN (s.size+1) s r').1=x):
 (bN (s.size+1) s r').2.p≤s.size∧(acc++[x]).length+(m-1)=s.size+2∧((bN (s.size+1) s r').2.f=none→s.size-(bN (s.size+1) s r').2.p<m-1)∧
  dc (s.size+2) s r0=(acc++[x]++(dc (m-1) s (bN (s.size+1) s r').2).1,(dc (m-1) s (bN (s.size+1) s r').2).2):=by
 rw[ee] at h;obtain⟨h1,h2,h3,h4⟩:=hinv;have hm:=h3 h.1;obtain⟨m,rfl⟩:∃k,m=k+1:=⟨m-1,by omega⟩;have hle:=eJ (s:=s) (s.size+1) h1;refine⟨hle.2,by simp;omega,fun hf=>by have:=xt h1 h.1 hf;omega,?_⟩;rw[h4];simp only[dc];rw[if_pos h,←hX];simp
theorem wQ(k:Nat):partsOf k≤3:=by unfold partsOf;split;omega;split<;>omega
theorem qG(s:ByteArray)(hs:s.size≤1099511627776):∀(n:Nat) (r:RS),r.p≤s.size→s.size-r.p<n→
 et Tryz.prog (uG g) 52 [iB s r] [.cb 0 0] fun out ob'=>out=.ret (.d (bU n s r).1.d)∧ob'=[iB s (bU n s r).2]:=by
 intro n
 induction n with
 |zero=>intro r _ h;omega
 |succ n ih=>
  intro r hp hn;have hat:=ft (s:=s) hp;obtain⟨p,f⟩:=r;simp only at hat hp hn;cases f with
  |some a=>
   refine bS Tryz.func52 Tryz.ntmps52 1 ?_;refine gc 8 ?_;refine oc (ck pK rfl rfl (c7 s p (bE (some a)) (eG (some a)) hs hp) [0] rfl (bj .nil) (an .nil) ?_);refine ko 10 [5,4,3,2,0] 10 ?_;refine v5 (fun h2=>?_) (fun h2=>?_)
   ·simp only[du,Int.reduceEq,Int.reduceNe,Int.reduceLT,Int.reduceLE,bE,eG] at h2
   (try simp only[du,Int.reduceEq,Int.reduceNe,Int.reduceLT,Int.reduceLE,bE,eG] at h2);refine kc 0 [2] 8 ?_;refine eo (aQ.d) [0] [iB s ⟨p,some a⟩] ?_
   ·exact ⟨rfl,rfl⟩
  |none=>
   have hn1:=c6 (s:=s) (r:=⟨p,none⟩) hp;have hn2:=c6 (s:=s) (r:=(aS s ⟨p,none⟩).2) hn1.2;have hpos:=size_pos (s:=(bd s p).1);have hash:=By (s:=s) hp;have hwl:(strs fm).length=7:=rfl;have hwl2:fm.length=7:=rfl;refine bS Tryz.func52 Tryz.ntmps52 1 ?_;refine gc 8 ?_;refine oc (ck pK rfl rfl (c7 s p (bE none) (eG none) hs hp) [0] rfl (bj .nil) (an .nil) ?_);refine ko 10 [5,4,3,2,0] 10 ?_;refine cd (fun h2=>?_) (fun h2=>?_)
   ·simp only[du,Int.reduceEq,Int.reduceNe,Int.reduceLT,Int.reduceLE,dA] at h2
   (try simp only[du,Int.reduceEq,Int.reduceNe,Int.reduceLT,Int.reduceLE,dA] at h2);refine kc 3 [5,4,3,2,0] 5 ?_
   apply nI (yt:=31) (d:=29) 2 rfl rfl rfl (.none rfl) rfl rfl
   case h1=>
    intro hb4 hK;have hc:=hb4;(try simp only[du,Int.reduceEq,Int.reduceNe,Int.reduceLT,Int.reduceLE,dA] at hc);refine mn ?_ (hbw:=by exact hb4);refine go 1 ?_;refine mn ?_ (hbw:=by exact hb4);refine go 1 ?_;exact hK [_,_] rfl rfl
   case h2=>
    intro hb4 hK;refine mi ?_ (hbw:=by exact hb4);refine mi ?_ (hbw:=by exact hb4);exact hK [_,_] rfl
   refine go 1 ?_;apply nI (yt:=40) (d:=33) 7 rfl rfl rfl (.none rfl) rfl rfl
   case h1=>
    intro hb12 hK;have hc:=hb12;(try simp only[du,Int.reduceEq,Int.reduceNe,Int.reduceLT,Int.reduceLE,dA] at hc);refine mn ?_ (hbw:=by exact hb12);refine go 1 ?_;refine mn ?_ (hbw:=by exact hb12);refine o1 (Fs uY ?_ (h01:=by have h1:=hpos hc.2;omega));refine mn ?_ (hbw:=by exact hb12);refine go 1 ?_;refine mn ?_ (hbw:=by exact hb12);refine go 1 ?_;apply F6 (yt:=39) (d:=37) 2 rfl rfl rfl (.yes rfl rfl rfl hb12) rfl rfl
    case h1=>
     intro hb21 hK;have hc:=hb21;(try simp only[du,Int.reduceEq,Int.reduceNe,Int.reduceLT,Int.reduceLE,dA] at hc);refine mn ?_ (hbw:=by exact hb21);refine go 1 ?_;refine mn ?_ (hbw:=by exact hb21);refine go 1 ?_;exact hK [_,_] rfl rfl
    case h2=>
     intro hb21 hK;refine mi ?_ (hbw:=by exact hb21);refine mi ?_ (hbw:=by exact hb21);exact hK [_,_] rfl
    exact hK [_,_,_,_,_] rfl rfl
   case h2=>
    intro hb12 hK;refine mi ?_ (hbw:=by exact hb12);refine mi ?_ (hbw:=by exact hb12);refine mi ?_ (hbw:=by exact hb12);refine mi ?_ (hbw:=by exact hb12);refine go 2 ?_;refine mi ?_ (hbw:=by exact hb12);exact hK [_,_,_,_,_,_,_] rfl
   refine go 2 ?_;refine cd (fun h4=>?_) (fun h4=>?_)
   ·(try simp only[du,Int.reduceEq,Int.reduceNe,Int.reduceLT,Int.reduceLE,dA] at h4)
    refine kc 0 [4,2,0] 4 ?_;refine oc (ck uS rfl rfl (eK s (bd s p).2.1 ⟨p,none⟩) [0] rfl (bj .nil) (an (an .nil)) ?_);refine ko 2 [2] 8 ?_;refine eo (aQ.d) [0] [iB s ((RS.mk p none).fail (bd s p).2.1)] ?_
    ·rw [ud (by rintro⟨ha,hb⟩;rcases h4 with(h|h)|h;exact ha (rJ h);exact ha h;rcases hb with hb|hb;exact h.1 hb;exact h.2 hb)];exact⟨rfl,rfl⟩
   (try simp only[du,Int.reduceEq,Int.reduceNe,Int.reduceLT,Int.reduceLE,dA] at h4);refine kc 2 [3,2,0] 3 ?_;refine oc (ck Dr rfl rfl (iu s ⟨p,none⟩ hs hp) [0] rfl (bj .nil) (an .nil) ?_);refine go 9 ?_;refine cd (fun h8=>?_) (fun h8=>?_)
   ·(try simp only[du,Int.reduceEq,Int.reduceNe,Int.reduceLT,Int.reduceLE,dA] at h8)
    refine kc 1 [3,2] 0 ?_;have hh4:vu (bd s p).1:=⟨h4.1.2,h4.2⟩;have hh35:bq (bd s p).1 0=35:=by rcases h4.2 with h|h;exact h;exact absurd h h8
    have hhash:=hash h4.1.2 hh35;refine gc 2 ?_;refine o1 (J9 uY rfl rfl rfl (by omega) ?_);refine oc (cv PL rfl rfl (vn ((bd s p).1.extract 1 (bd s p).1.size) (by rw[ByteArray.size_extract];omega) hhash.2.2) (an .nil) ?_);refine go 6 ?_;refine eo ((ae.mk 0 (ll ((bd s p).1.extract 1 (bd s p).1.size) ((bd s p).1.extract 1 (bd s p).1.size).size) .empty [] []).d) [0] [iB s (aS s ⟨p,none⟩).2] ?_
    ·rw [uc hh4 h8,show((bd s p).1.extract 1 (bd s p).1.size).size=(bd s p).1.size-1 by rw[ByteArray.size_extract];omega];exact⟨rfl,rfl⟩
   (try simp only[du,Int.reduceEq,Int.reduceNe,Int.reduceLT,Int.reduceLE,dA] at h8);refine kc 2 [2,0] 3 ?_;refine oc (ck pK rfl rfl (c7 s (aS s ⟨p,none⟩).2.p (bE (aS s ⟨p,none⟩).2.f) (eG (aS s ⟨p,none⟩).2.f) hs hn1.2) [0] rfl (bj .nil) (an .nil) ?_);refine ko 9 [7,6,2,0] 12 ?_;refine lP (ι:=Nat) (fun i=>[(10,int i),(9,int (oZ (bd s (aS s ⟨p,none⟩).2.p).1 i))]) [7,6,2,0] (fun i=>1≤i∧i≤7) (fun i=>7-i) (1) rfl ?I1 ?M1 ?H1
   case I1=>
    exact⟨Nat.le_refl _,by omega⟩
   case M1=>
    refine mo ?_ (aJ (ef rfl (by exact Fit.of_eq (by unfold oZ;rw[show(if fC (bd s (aS s ⟨p,none⟩).2.p).1<1 then fC (bd s (aS s ⟨p,none⟩).2.p).1 else 0)=0 by split<;>omega];rfl)) (aJ (aJ (aJ (aJ dC))))))
    repeat (first|exact cH|refine bj ?_)
   case H1=>
    rintro i hinv
    try dsimp only at hinv
    refine kc 0 [10,9,7,6,2,0] 9 ?_;refine cd (fun h13=>?_) (fun h13=>?_)
    ·(try simp only[du,Int.reduceEq,Int.reduceNe,Int.reduceLT,Int.reduceLE,dA] at h13)
     refine kc 4 [10,9,7,6,2,0] 4 ?_;refine o1 (cu pN ue ?_ (he:=by exact(kj (show i<fm.length by omega))));refine go 5 ?_;refine v5 (fun h15=>?_) (fun h15=>?_)
     ·(try simp only[du,Int.reduceEq,Int.reduceNe,Int.reduceLT,Int.reduceLE,dA] at h15)
      refine kc 3 [10,9,7,6,2,0] 2 ?_;refine o1 (cG ?_);refine go 2 ?_;refine bi (i+1) rfl ?_ ?_
      ·exact ⟨⟨by omega,by omega⟩,by omega⟩
      ·refine mo ?_ (aJ (ef rfl (by exact Fit.of_eq (by(first|rw[xx hinv.1 (by omega) h15]|rw[zH hinv.1 (by omega) h15]);rfl)) (aJ (aJ (aJ (aJ dC))))))
       repeat (first|exact cH|refine bj ?_)
     (try simp only[du,Int.reduceEq,Int.reduceNe,Int.reduceLT,Int.reduceLE,dA] at h15);refine kc 0 [10,7,6,2,0] 8 ?_;refine o1 (cG ?_);refine go 2 ?_;refine bi (i+1) rfl ?_ ?_
     ·exact ⟨⟨by omega,by omega⟩,by omega⟩
     ·refine mo ?_ (aJ (ef rfl (by exact Fit.of_eq (by(first|rw[xx hinv.1 (by omega) h15]|rw[zH hinv.1 (by omega) h15]);rfl)) (aJ (aJ (aJ (aJ dC))))))
      repeat (first|exact cH|refine bj ?_)
    (try simp only[du,Int.reduceEq,Int.reduceNe,Int.reduceLT,Int.reduceLE,dA] at h13);refine kc 7 [9,7,2,0] 0 ?_;obtain rfl:i=7:=by omega
    rw[JT];have hkl:=xz (bd s (aS s ⟨p,none⟩).2.p).1;generalize hk:fC (bd s (aS s ⟨p,none⟩).2.p).1=k at hkl ⊢;refine gc 5 ?_;refine cd (fun h17=>?_) (fun h17=>?_)
    ·(try simp only[du,Int.reduceEq,Int.reduceNe,Int.reduceLT,Int.reduceLE,dA] at h17)
     refine gc 4 ?_;refine oc (ck uS rfl rfl (eK s (bd s (aS s ⟨p,none⟩).2.p).2.1 (aS s ⟨p,none⟩).2) [0] rfl (bj .nil) (an (an .nil)) ?_);refine ko 2 [2] 8 ?_;refine eo (aQ.d) [0] [iB s ((aS s ⟨p,none⟩).2.fail (bd s (aS s ⟨p,none⟩).2.p).2.1)] ?_
     ·rw [rM h8 (by omega)];exact⟨rfl,rfl⟩
    (try simp only[du,Int.reduceEq,Int.reduceNe,Int.reduceLT,Int.reduceLE,dA] at h17);refine gc 5 ?_;refine oc (ck Dr rfl rfl (iu s (aS s ⟨p,none⟩).2 hs hn1.2) [0] rfl (bj .nil) (an .nil) ?_);refine ko 2 [9,2,0] 9 ?_;refine bz 39 5 rfl ?_;refine kc 10 [83,12,11,2,0] 0 ?_;refine xo (ι:=ByteArray×List aP×RS) (fun⟨nm,L,r3⟩=>[(12,int (partsOf k))]) (fun⟨nm,L,r3⟩=>[iB s r3,.cells [.d (.v (.int .i64 0)),.d (.v (.int .i64 0)),.d (.v (.string .empty)),.d (.v (.slice none 0 0)),.d (.v (.slice none 0 0))] 39,.cells [.d (.v (.int .i64 k)),.d (.v (.int .i64 0)),.d (.v (.string nm)),.own 3 3 (bF L),.d (.v (.slice none 0 0))] 39,.row 121 3,.bX 39 5]) [11,2,0] (fun⟨nm,L,r3⟩=>jc s k (aS s (aS s ⟨p,none⟩).2).2=(nm,L,r3)) rfl ?A2 ?B2
    case A2=>
     refine gc 7 ?_;refine cd (fun h24=>?_) (fun h24=>?_)
     ·(try simp only[du,Int.reduceEq,Int.reduceNe,Int.reduceLT,Int.reduceLE,dA] at h24)
      refine kc 1 [11,2,0] 0 ?_;obtain⟨k1,s1,a1,hX⟩:=aP.case (bN (s.size+1) s (aS s (aS s ⟨p,none⟩).2).2).1;refine gz [0,1,2] mixed ?_;refine A2 3 rfl (aN Mf rfl rfl rfl rfl (xq s hs (s.size+1) (aS s (aS s ⟨p,none⟩).2).2 hn2.2 (by omega)) [0] (bj .nil) rfl rfl rfl rfl (an .nil) (fun s ob' hq=>?_) (fun s ob' hq=>?_))
      rotate_left
      ·first|exact hq.elim|cases hq.1
      obtain⟨hq1,rfl⟩:=hq;rw[hX] at hq1;cases hq1;refine⟨_,_,_,_,_,rfl,rfl,rfl,rfl,rfl,?_⟩;refine A2 4 rfl (gD ji [.tmp 89] eL ?_);refine A2 (T:=fun _=>False) 5 rfl (rA ji rfl rfl rfl rfl rfl rfl (by simp only[List.length_cons,List.length_nil,Nat.reduceAdd];rfl) rfl rfl (by decide) (by simp) (by first|decide|(simp only[maxLen,List.length_cons,List.length_nil,List.length_append,List.length_map];omega)|omega) rfl rfl rfl ?_);refine ga [6] ?_;refine A2 7 rfl (dN vH ?_);refine aZ ?_;refine ke 1 [11,2,0] 4 ?_;refine bk ((.empty,[aP.mk k1 s1 a1],(bN (s.size+1) s (aS s (aS s ⟨p,none⟩).2).2).2)) rfl ?_ ([0,1,2,5,3]) ?_
      ·unfold jc;rw[if_pos (by omega),hX]
      ·refine mo ?_ (ef rfl (by exact Fit.of_eq (by unfold partsOf;first|(rw[if_pos (by omega)];rfl)|(rw[if_neg (by omega),if_pos (by omega)];rfl)|(rw[if_neg (by omega),if_neg (by omega)];rfl))) (aJ (aJ (aJ dC))))
       repeat (first|exact cH|refine bj ?_|refine cr ?_|refine Iz ?_)
     (try simp only[du,Int.reduceEq,Int.reduceNe,Int.reduceLT,Int.reduceLE,dA] at h24);refine gc 6 ?_;refine v5 (fun h27=>?_) (fun h27=>?_)
     ·(try simp only[du,Int.reduceEq,Int.reduceNe,Int.reduceLT,Int.reduceLE,dA] at h27)
      refine kc 1 [83,12,11,2,0] 0 ?_;refine bz 121 3 rfl ?_;refine gc 5 ?_;refine v5 (fun h32=>?_) (fun h32=>?_)
      ·(try simp only[du,Int.reduceEq,Int.reduceNe,Int.reduceLT,Int.reduceLE,dA] at h32)
       refine gc 2 ?_;refine bk ((.empty,[],(aS s (aS s ⟨p,none⟩).2).2)) rfl ?_ ([0,1,2,4,3]) ?_
       ·unfold jc;rw[if_neg (by omega),if_neg (by omega)]
       ·refine mo ?_ (ef rfl (by exact Fit.of_eq (by unfold partsOf;first|(rw[if_pos (by omega)];rfl)|(rw[if_neg (by omega),if_pos (by omega)];rfl)|(rw[if_neg (by omega),if_neg (by omega)];rfl))) (aJ (aJ (aJ dC))))
        repeat (first|exact cH|exact yH|refine bj ?_|refine Iz ?_|refine qx ?_|refine Bi ?_ ?_|refine an ?_|refine .cons (.nil rfl) ?_)
      (try simp only[du,Int.reduceEq,Int.reduceNe,Int.reduceLT,Int.reduceLE,dA] at h32);refine kc 0 [11,2,0] 4 ?_;refine bk ((.empty,[],(aS s (aS s ⟨p,none⟩).2).2)) rfl ?_ ([0,1,2,4,3]) ?_
      ·unfold jc;rw[if_neg (by omega),if_neg (by omega)]
      ·refine mo ?_ (ef rfl (by exact Fit.of_eq (by unfold partsOf;first|(rw[if_pos (by omega)];rfl)|(rw[if_neg (by omega),if_pos (by omega)];rfl)|(rw[if_neg (by omega),if_neg (by omega)];rfl))) (aJ (aJ (aJ dC))))
       repeat (first|exact cH|exact yH|refine bj ?_|refine Iz ?_|refine qx ?_|refine Bi ?_ ?_|refine an ?_|refine .cons (.nil rfl) ?_)
     (try simp only[du,Int.reduceEq,Int.reduceNe,Int.reduceLT,Int.reduceLE,dA] at h27);refine kc 1 [11,2,0] 0 ?_
     have hnm:=eE (s:=s) (r:=(aS s (aS s ⟨p,none⟩).2).2) hn2.2;refine gc 2 ?_;refine oc (ck Me rfl rfl (qU s (aS s (aS s ⟨p,none⟩).2).2 hs hn2.2) [0] rfl (bj .nil) (an .nil) ?_);refine ko 10 [12,11,2,0] 0 ?_;refine bz 121 3 rfl ?_;refine lp (ι:=Nat×List aP×RS) (fun⟨m,acc,r'⟩=>[]) (fun⟨m,acc,r'⟩=>[iB s r',.cells [.d (.v (.int .i64 0)),.d (.v (.int .i64 0)),.d (.v (.string .empty)),.d (.v (.slice none 0 0)),.d (.v (.slice none 0 0))] 39,.cells [.d (.v (.int .i64 k)),.d (.v (.int .i64 0)),.d (.v (.string (cW s (aS s (aS s ⟨p,none⟩).2).2).1)),.own 4 3 (bF acc),.d (.v (.slice none 0 0))] 39,.bX 39 5,.row 121 3]) [12,11,2,0] (fun⟨m,acc,r'⟩=>r'.p≤s.size∧acc.length+m=s.size+2∧(r'.f=none→s.size-r'.p<m)∧dc (s.size+2) s (cW s (aS s (aS s ⟨p,none⟩).2).2).2=(acc++(dc m s r').1,(dc m s r').2)) (fun⟨m,acc,r'⟩=>m) ((s.size+2,[],(cW s (aS s (aS s ⟨p,none⟩).2).2).2)) ([0,1,2,3,4]) rfl ?I3 ?M3 ?H3
     case I3=>
      exact⟨hnm.2,by simp,fun _=>by omega,rfl⟩
     case M3=>
      refine mo ?_ (aJ (aJ (aJ (aJ dC))))
      repeat (first|exact cH|exact yH|refine bj ?_|refine Iz ?_|refine qx ?_|refine Bi ?_ ?_|refine an ?_|refine .cons (.nil rfl) ?_)
     case H3=>
      rintro⟨m,acc,r'⟩ hinv
      try dsimp only at hinv
      refine kc 0 [12,11,2,0] 10 ?_;apply F6 (yt:=107) (d:=104) 3 rfl rfl rfl (.none rfl) rfl rfl
      case h1=>
       intro hb13 hK;have hc:=hb13;(try simp only[du,Int.reduceEq,Int.reduceNe,Int.reduceLT,Int.reduceLE,dA] at hc);refine mn ?_ (hbw:=by exact hb13);refine go 1 ?_;refine mn ?_ (hbw:=by exact hb13);refine oc (ck Oo rfl rfl (ur s r' hs hinv.1) [0] rfl (bj .nil) (an .nil) ?_);refine mn ?_ (hbw:=by exact hb13);refine go 1 ?_;exact hK [_,_,_] rfl rfl
      case h2=>
       intro hb13 hK;refine mi ?_ (hbw:=by exact hb13);refine mi ?_ (hbw:=by exact hb13);refine mi ?_ (hbw:=by exact hb13);exact hK [_,_,_] rfl
      refine go 2 ?_;refine v5 (fun h30=>?_) (fun h30=>?_)
      ·(try simp only[du,Int.reduceEq,Int.reduceNe,Int.reduceLT,Int.reduceLE,dA] at h30)
       refine gc 5 ?_;refine bk (((cW s (aS s (aS s ⟨p,none⟩).2).2).1,acc,r')) rfl ?_ ([0,1,2,4,3]) ?_
       ·unfold jc;rw[if_neg (by omega),if_pos (by omega),hinv.2.2.2,CL (by rintro⟨ha,hb⟩;rcases h30 with h|h;exact h ha;exact hb h),List.append_nil]
       ·refine mo ?_ (ef rfl (by exact Fit.of_eq (by unfold partsOf;first|(rw[if_pos (by omega)];rfl)|(rw[if_neg (by omega),if_pos (by omega)];rfl)|(rw[if_neg (by omega),if_neg (by omega)];rfl))) (aJ (aJ (aJ dC))))
        repeat (first|exact cH|refine bj ?_|refine cr ?_|refine Iz ?_)
      (try simp only[du,Int.reduceEq,Int.reduceNe,Int.reduceLT,Int.reduceLE,dA] at h30);refine kc 3 [12,11,2,0] 0 ?_
      obtain⟨k1,s1,a1,hX⟩:=aP.case (bN (s.size+1) s r').1
      have hm1:=hinv.2.2.1 (ee.1 h30.1);have hln:=bV acc;have hlast:bF acc++[[.v (.int .i64 k1),.v (.string s1),.sl 3 (bF a1)]]=bF (acc++[aP.mk k1 s1 a1]):=by rw[qb];rfl
      refine gz [0,1,2] mixed ?_;refine A2 3 rfl (aN Mf rfl rfl rfl rfl (xq s hs (s.size+1) r' hinv.1 (by omega)) [0] (bj .nil) rfl rfl rfl rfl (an .nil) (fun s ob' hq=>?_) (fun s ob' hq=>?_));rotate_left
      ·first|exact hq.elim|cases hq.1
      obtain⟨hq1,rfl⟩:=hq;rw[hX] at hq1;cases hq1;refine⟨_,_,_,_,_,rfl,rfl,rfl,rfl,rfl,?_⟩;refine A2 4 rfl (gD ji [.tmp 112] eL ?_);refine A2 5 rfl (px ji ?_);refine ga [6] ?_;refine A2 7 rfl (dN vH ?_);refine aZ ?_;refine ge 1 ?_;rw[hlast];refine bk ((m-1,acc++[aP.mk k1 s1 a1],(bN (s.size+1) s r').2)) rfl ?_ ([0,1,2,3,4]) ?_
      ·exact ⟨CM hinv h30 hX,show m-1<m by omega⟩
      ·refine mo ?_ (aJ (aJ (aJ (aJ dC))))
       repeat (first|exact cH|refine bj ?_|refine cr ?_|refine Iz ?_)
    case B2=>
     rintro⟨nm,L,r3⟩ hcut
     try dsimp only at hcut
     refine kc 0 [12,11,2,0] 2 ?_;have hh3:=tF (s:=s) k (r:=(aS s (aS s ⟨p,none⟩).2).2) hn2.2;rw[hcut] at hh3;dsimp only at hh3;have hpl:=wQ k;refine gc 5 ?_;refine lp (ι:=Nat) (fun i=>[(13,int i)]) (fun i=>[iB s (dX (bU n s) i r3).2,.cells [.d (.v (.int .i64 0)),.d (.v (.int .i64 0)),.d (.v (.string .empty)),.d (.v (.slice none 0 0)),.d (.v (.slice none 0 0))] 39,.cells [.d (.v (.int .i64 k)),.d (.v (.int .i64 0)),.d (.v (.string nm)),.own 3 3 (bF L),.own 4 5 (aH (dX (bU n s) i r3).1)] 39,.row 121 3,.row 39 5]) [12,11,2,0] (fun i=>i≤partsOf k) (fun i=>partsOf k-i) (0) ([0,1,2,3,4]) rfl ?I4 ?M4 ?H4
     case I4=>
      exact Nat.zero_le _
     case M4=>
      refine mo ?_ (aJ (aJ (aJ (aJ (aJ dC)))))
      repeat (first|exact cH|exact yH|refine bj ?_|refine cr ?_|refine qx ?_|refine Bi ?_ ?_|refine an ?_|refine .cons (.nil rfl) ?_)
     case H4=>
      rintro i hinv
      try dsimp only at hinv
      refine kc 0 [13,12,11,2,0] 8 ?_;refine v5 (fun h35=>?_) (fun h35=>?_)
      ·(try simp only[du,Int.reduceEq,Int.reduceNe,Int.reduceLT,Int.reduceLE,dA] at h35)
       refine kc 5 [11,2,0] 3 ?_;refine oc (ck yL rfl rfl (gf s ⟨#[41]⟩ (dX (bU n s) i r3).2 hs (j3 (s:=s) (f:=bU n s) (fun r hr=>eu n r hr) i hh3.2).2) [0] rfl (bj .nil) (an (an .nil)) ?_);refine go 9 ?_;refine fR ?_;obtain rfl:i=partsOf k:=by omega
       refine nq ⟨_,_,rfl,(dZ rfl rfl bw rfl rfl rfl rfl),rfl⟩ rfl ((ae.mk k 0 nm L (dX (bU n s) (partsOf k) r3).1).d) (by exact .refl _) ([0]) ([iB s (cw s ⟨#[41]⟩ (dX (bU n s) (partsOf k) r3).2)]) rfl rfl rfl ?_ ?_
       ·repeat (first|exact cH|refine bj ?_)
       ·rw [rL h8 hk (by omega) hcut];exact⟨rfl,rfl⟩
      (try simp only[du,Int.reduceEq,Int.reduceNe,Int.reduceLT,Int.reduceLE,dA] at h35);refine gc 4 ?_
      have hpp:=j3 (s:=s) (f:=bU n s) (fun r hr=>eu n r hr) i hh3.2;obtain⟨k2,n2,s2,l2,a2',hX⟩:=ae.case (bU n s (dX (bU n s) i r3).2).1
      have hln:(aH (dX (bU n s) i r3).1).length=i:=by rw[aO,wP]
      have hlast:aH (dX (bU n s) i r3).1++[[.v (.int .i64 k2),.v (.int .i64 n2),.v (.string s2),.sl 3 (bF l2),.sl 5 (aH a2')]]=aH (dX (bU n s) (i+1) r3).1:=by simp only[dX];rw[hX,dj];rfl
      have hpr:p<(aS s ⟨p,none⟩).2.p:=by rw[iN (by rw[h8];decide),h8];simp only;have:(ByteArray.mk #[40]).size=1:=rfl;omega
      refine gz [0,1,2] mixed ?_;refine A2 3 rfl (aN KD rfl rfl rfl rfl (ih (dX (bU n s) i r3).2 hpp.2 (by omega)) [0] (bj .nil) rfl rfl rfl rfl (an .nil) (fun s ob' hq=>?_) (fun s ob' hq=>?_));rotate_left
      ·first|exact hq.elim|cases hq.1
      obtain⟨hq1,rfl⟩:=hq;rw[hX] at hq1;cases hq1;refine⟨_,_,_,_,_,rfl,rfl,rfl,rfl,rfl,?_⟩;refine A2 4 rfl (gD dE [.tmp 126] bw ?_);refine A2 5 rfl (px dE ?_);refine ga [6] ?_;refine A2 7 rfl (dN Bz ?_);refine aZ ?_;refine ke 2 [13,12,11,2,0] 2 ?_;refine o1 (cG ?_);refine go 2 ?_;rw[hlast];refine bk (i+1) rfl ?_ [0,1,2,3,4] mz;exact⟨by omega,by omega⟩
end
section
open Go Go.Vd Go.RowKit
attribute [local irreducible] bu bA di ak bL cU
variable {g gl:Nat→List D}
variable {s:ByteArray}
theorem FT{p:Nat}(hp:p≤s.size)(h0:(bd s p).1≠ .empty)(h:48≤bq (bd s p).1 0∧bq (bd s p).1 0≤57):
 (bd s p).1.size≤5∧uW (bd s p).1∧(1<(bd s p).1.size→¬bq (bd s p).1 0=48):=by
 have hle:=fw rf s p hp;revert h0 h;unfold bd;dsimp only;split
 ·intro h0;exact absurd rfl h0
 ·rename_i hn;have hlt:cZ rf s p<s.size:=by omega
  split
  ·rename_i hc;intro _ h;rw[cF s (by omega) (by omega),Nat.add_zero] at h;omega
  ·split
   ·rename_i hc hnm;have h3:=fw (gb · false) s (cZ rf s p+1) (by omega);split
    ·intro h0;exact absurd rfl h0
    ·intro _ h;rw[cF s (by omega) (by omega),Nat.add_zero] at h
     exfalso
     revert hnm;unfold gb;simp;omega
   ·split
    ·have h3:=fw jP s (cZ rf s p+1) (by omega);by_cases h35:bq s (cZ rf s p)=35
     ·simp only[if_pos h35];split
      ·intro h0;exact absurd rfl h0
      ·intro _ h;rw[cF s (by omega) (by omega),Nat.add_zero] at h;omega
     ·simp only[if_neg h35];split
      ·intro h0;exact absurd rfl h0
      ·rename_i hd;intro _ h;rw[cF s (by omega) (by omega),Nat.add_zero] at h ⊢;simp only[ByteArray.size_extract];refine⟨by omega,fun i hi=>?_,fun h1 h48=>hd (.inr (.inr ⟨by omega,h48⟩))⟩;simp only[ByteArray.size_extract] at hi;rw[cF s (by omega) (by omega)];rcases Nat.eq_zero_or_pos i with rfl|hi0
       ·exact h
       ·have:=uh (f:=jP) (s:=s) (p:=cZ rf s p+1) (j:=cZ rf s p+i) (by omega) (by omega)
        simpa[jP] using this
    ·intro h0;exact absurd rfl h0
variable {r r1:RS}
theorem Ff(h1:cw s ⟨#[40]⟩ r=r1)(hk:vt (bd s r1.p).1=0):eF s r=(.mk 0 .empty [] aQ aQ 0 [],r1.fail (bd s r1.p).2.1):=by
 unfold eF bO;dsimp only;rw[h1,if_pos hk];rfl
variable {k:Nat} {nm:ByteArray} {ps:List ByteArray}
theorem Dl{r5:RS}(h1:cw s ⟨#[40]⟩ r=r1)(hk:vt (bd s r1.p).1=k)(h0:¬k=0)(h3:(cW s (aS s r1).2).1=nm)
 (h5:dS (s.size+2) s (cw s ⟨#[40]⟩ (cW s (aS s r1).2).2)=(ps,r5)):bO s r=(k,nm,ps,cw s ⟨#[41]⟩ r5):=by
 unfold bO;dsimp only;rw[h1,hk,if_neg h0,h3,h5]
variable {r6:RS}
theorem Ih(h:bO s r=(3,nm,ps,r6))(hb:¬qy (bd s r6.p)):eF s r=(.mk 3 nm ps aQ aQ 0 [],r6.fail (bd s r6.p).2.1):=by
 unfold eF;dsimp only;rw[h,if_neg (by simp),if_pos ⟨rfl,hb⟩]
theorem Fg{r7 r8 r9 r10:RS}{a:Int}{t v:ae}{cs:List (ByteArray×ae)}(h:bO s r=(k,nm,ps,r6))(h0:¬k=0)(hb:¬(k=3∧¬qy (bd s r6.p)))(ha:fW s k r6=(a,r7))
 (ht:bU (s.size+1) s r7=(t,r8)) (hv:rH s k r8=(v,r9)) (hc:nA s k r9=(cs,r10)):eF s r=(.mk k nm ps t v a cs,cw s ⟨#[41]⟩ r10):=by
 unfold eF;dsimp only;rw[h,if_neg h0,if_neg hb];simp only[iT,ha,ht,hv,hc]
def oA(k m:Nat)(s:ByteArray)(r:RS):List (ByteArray×ae)×RS:=if k=3 then dM m s r else([],r)
variable {m:Nat}
theorem Ip(h:¬(k=3∧r.f=none∧kZ s r=⟨#[40]⟩)):oA k m s r=([],r):=by
 unfold oA;split
 ·rename_i hk;exact Fh fun h2=>h ⟨hk,h2⟩
 ·rfl
theorem Iq{r0 r':RS}{acc:List (ByteArray×ae)}{x:ByteArray×ae}(hinv:r'.p≤s.size∧acc.length+m=s.size+2∧(r'.f=none→s.size-r'.p<m)∧oA k (s.size+2) s r0=(acc++(oA k m s r').1,(oA k m s r').2))
 (hk:k=3) (h:r'.f=none∧kZ s r'=⟨#[40]⟩) (hX:(eR s r').1=x):
 (eR s r').2.p≤s.size∧(acc++[x]).length+(m-1)=s.size+2∧((eR s r').2.f=none→s.size-(eR s r').2.p<m-1)∧
  oA k (s.size+2) s r0=(acc++[x]++(oA k (m-1) s (eR s r').2).1,(oA k (m-1) s (eR s r').2).2):=by
 subst hk;unfold oA at hinv ⊢;simp only[if_true] at hinv ⊢;exact Fi hinv h hX
theorem CQ{w:ByteArray}(h1:¬w=⟨#[97,120,105,111,109]⟩)(h2:¬w=⟨#[100,101,102]⟩)(h3:¬w=⟨#[105,110,100,117,99,116,105,118,101]⟩):vt w=0:=by
 unfold vt;rw[if_neg h1,if_neg h2,if_neg h3]
variable {acc:List dP}
theorem yu(h:fE (s.size+2) s ⟨0,none⟩=(acc,r))(hf:r.f=none):eZ s=(acc,0,0):=by
 unfold eZ;rw[h];simp only[hf]
theorem AG{a:Nat}(h:fE (s.size+2) s ⟨0,none⟩=(acc,r))(hf:r.f=some a):eZ s=([],1,(a:Int)):=by
 unfold eZ;rw[h];simp only[hf]
theorem HS(h:fE (s.size+2) s ⟨0,none⟩=(acc,r))(hf:¬bE r.f=0):eZ s=([],bE r.f,eG r.f):=by
 cases hr:r.f with
 |none=>rw[hr] at hf;exact absurd rfl hf
 |some a=>rw[AG h hr];rfl
end
section
open Go Go.Vd Go.RowKit
variable {s:ByteArray} {p:Nat}
theorem LC(hp:p≤s.size)(h:(bd s p).1≠ .empty):p+1≤(aS s ⟨p,none⟩).2.p:=by
 have hat:=ft (s:=s) hp;rw[iN h];have:=size_pos h;simp only;omega
theorem NK(hp:p≤s.size)(h:vu (bd s p).1)(h1:(bd s p).1≠⟨#[40]⟩):
 0≤ll ((bd s p).1.extract 1 (bd s p).1.size) ((bd s p).1.size-1)∧ll ((bd s p).1.extract 1 (bd s p).1.size) ((bd s p).1.size-1)≤99999:=by
 have h2:bq (bd s p).1 0=35:=by rcases h.2 with h|h;exact h;exact absurd h h1
 have h3:=By hp h.1 h2;exact wZ h3.2.2 _ (by rw[ByteArray.size_extract];omega) (by omega)
theorem Hn{t:ByteArray}(hd:uW t)(h2:t.size≤2):0≤ll t t.size∧ll t t.size≤99:=by
 have key:t.size=0∨t.size=1∨t.size=2:=by omega
 rcases key with h|h|h
 ·rw [h];simp[ll]
 ·have d0:=hd 0 (by omega);rw[h];simp only[ll];omega
 ·have d0:=hd 0 (by omega);have d1:=hd 1 (by omega);rw[h];simp only[ll];omega
end
section
open Go Go.Vd Go.RowKit
def J5(l:aP):Prop:= ∃x:eC,l=x.cC∧vO x.cC∧∀w,x.has w→ij w
mutual
def rD : ae → Prop
  | .mk k n s ls args => (∀ l ∈ ls, J5 l) ∧ uF args ∧
    ((k = 0 ∧ 0 ≤ n ∧ n ≤ 99999 ∧ s = .empty ∧ ls = [] ∧ args = []) ∨ (k = 1 ∧ n = 0 ∧ s = .empty ∧ ls.length = 1 ∧ args = []) ∨ (k = 2 ∧ n = 0 ∧ ij s ∧ args = []) ∨
      ((k = 3 ∨ k = 4 ∨ k = 5) ∧ n = 0 ∧ s = .empty ∧ ls = [] ∧ args.length = 2) ∨ (k = 6 ∧ n = 0 ∧ s = .empty ∧ ls = [] ∧ args.length = 3))
def uF : List ae → Prop
  | [] => True
  | t :: r => rD t ∧ uF r
end
theorem ES{l:List ae}{t:ae}(h1:uF l)(h2:rD t):uF (l++[t]):=by
 induction l with
 |nil=>exact⟨h2,trivial⟩
 |cons a r ih=>exact⟨h1.1,ih h1.2⟩
variable {s:ByteArray} {r:RS}
theorem vq(n:Nat)(hp:r.p≤s.size):J5 (bN n s r).1:=by
 obtain⟨x,h1,h2,_⟩:=xu (s:=s) n hp;exact⟨x,h1,h2,Ht n hp x h1⟩
theorem AQ:∀(n:Nat) {r:RS},r.p≤s.size→∀l∈(dc n s r).1,J5 l:=by
 intro n
 induction n with
 |zero=>intro r hp l hl;simp[dc] at hl
 |succ n ih=>
  intro r hp l hl;simp only[dc] at hl;split at hl
  ·rcases List.mem_cons.1 hl with rfl|hl
   ·exact vq _ hp
   ·exact ih (eJ (s:=s) (s.size+1) hp).2 l hl
  ·simp at hl
theorem ng(hp:r.p≤s.size)(h:(cW s r).2.f=none):ij (cW s r).1:=by
 obtain⟨p,f⟩:=r;unfold cW at h ⊢;dsimp only at h ⊢;split at h
 ·exact absurd h (iS _ _)
 ·rename_i hn;rw[if_neg hn];cases f with
  |none=>
   have h1:dJ (bd s p).1=true:=by
    cases hb:dJ (bd s p).1 with
    |true=>rfl
    |false=>exact absurd (.inr hb) hn
   exact wm hp h1
  |some a=>cases h
theorem JQ:∀{n:Nat} {r:RS},(dc n s r).2.f=none→r.f=none
 |0,r,h=>h
 |n+1,r,h=>by
  simp only[dc] at h;split at h
  ·rename_i hc;exact hc.1
  ·exact h
theorem Cf{s:ByteArray}{n:Nat}:∀{i:Nat} {r:RS},(dX (bU n s) i r).2.f=none→r.f=none
 |0,r,h=>h
 |i+1,r,h=>Cf (i:=i) (rK h)
theorem oF:∀(n:Nat) (r:RS),r.p≤s.size→(bU n s r).2.f=none→s.size<n+r.p→rD (bU n s r).1:=by
 intro n
 induction n with
 |zero=>intro r hp _ hn;omega
 |succ n ih=>
  intro r hp hf hn;obtain⟨p,f⟩:=r;simp only at hp hn;cases f with
  |some a=>cases hf
  |none=>
   have h1:=c6 (s:=s) (r:=⟨p,none⟩) hp;have h2:=c6 (s:=s) (r:=(aS s ⟨p,none⟩).2) h1.2;simp only at h1;by_cases c1:vu (bd s p).1
   ·by_cases c2:(bd s p).1=⟨#[40]⟩
    ·rcases hk:fC (bd s (aS s ⟨p,none⟩).2.p).1 with _|k
     ·rw [rM c2 hk] at hf;exact absurd hf (iS _ _)
     ·rcases hh:jc s (k+1) (aS s (aS s ⟨p,none⟩).2).2 with⟨nm,L,r3⟩;have h3:=tF (s:=s) (k+1) h2.2;rw[hh] at h3;simp only at h3;have h9:=xz (bd s (aS s ⟨p,none⟩).2.p).1;have h10:=LC hp (by rw[c2];decide);have hpart:∀(i:Nat),(dX (bU n s) i r3).2.f=none→uF (dX (bU n s) i r3).1:=by
       intro i
       induction i with
       |zero=>intro _;exact trivial
       |succ i ihi=>
        intro hfi;have h5:=j3 (s:=s) (f:=bU n s) (fun r hr=>eu n r hr) i h3.2;exact ES (ihi (rK hfi)) (ih _ h5.2 hfi (by omega))
      rw[rL c2 hk (by omega) hh] at hf ⊢;have hf2:=jg hf;have hf3:=Cf hf2;have hpl:=wP (bU n s) (partsOf (k+1)) r3;have hga:=hpart _ hf2;generalize(dX (bU n s) (partsOf (k+1)) r3).1=as1 at hpl hga ⊢;unfold jc at hh;split at hh
      ·rename_i hk1;cases hh;refine⟨fun l hl=>?_,hga,.inr (.inl ⟨by omega,rfl,rfl,rfl,?_⟩)⟩
       ·simp only[List.mem_singleton] at hl;subst hl;exact vq _ h2.2
       ·rw [hk1] at hpl;exact List.length_eq_zero_iff.1 hpl
      ·split at hh
       ·rename_i hk1 hk2;cases hh;have h6:=eE (s:=s) h2.2;refine⟨AQ _ h6.2,hga,.inr (.inr (.inl ⟨by omega,rfl,ng h2.2 (JQ hf3),?_⟩))⟩;rw[hk2] at hpl;exact List.length_eq_zero_iff.1 hpl
       ·rename_i hk1 hk2;cases hh;refine⟨fun l hl=>(by cases hl),hga,?_⟩;unfold partsOf at hpl;rw[if_neg (by omega)] at hpl;split at hpl
        ·exact .inr (.inr (.inr (.inr ⟨by omega,rfl,rfl,rfl,hpl⟩)))
        ·exact .inr (.inr (.inr (.inl ⟨by omega,rfl,rfl,rfl,hpl⟩)))
    ·rw [uc c1 c2];have h3:=NK hp c1 c2;exact⟨fun l hl=>(by cases hl),trivial,.inl ⟨rfl,h3.1,h3.2,rfl,rfl,rfl⟩⟩
   ·rw [ud c1] at hf;exact absurd hf (iS _ _)
theorem Ia(h:(iA s r).f=none):r.f=none:=by
 unfold iA at h;dsimp only at h;split at h
 ·exact absurd h (iS _ _)
 ·exact h
theorem Ei(h:(gi s).2.1=0):rD (gi s).1:=by
 unfold gi at h ⊢;split at h
 ·exact absurd (show(2:Int)=0 from h) (by decide)
 ·rename_i hs;rw[if_neg hs];dsimp only at h ⊢;split at h
  ·rename_i hf;simp only;exact oF _ _ (Nat.zero_le _) (Ia hf) (by simp)
  ·exact absurd (show(1:Int)=0 from h) (by decide)
end
section
open Go Go.Vd Go.RowKit
variable {s:ByteArray} {r:RS}
theorem zP(hf:(bO s r).2.2.2.f=none):(bO s r).1≤3∧¬(bO s r).1=0:=by
 unfold bO at hf ⊢;dsimp only at hf ⊢;split at hf
 ·exact absurd hf (iS _ _)
 ·rename_i hk;rw[if_neg hk];exact⟨JU _,hk⟩
def Gk:dP→Prop
 | .mk k nm ps t v a cs=>ij nm∧(∀ w∈ps,ij w)∧rD t∧
  ((k=1∧v=aQ∧a=0∧cs=[])∨(k=2∧rD v∧a=0∧cs=[])∨(k=3∧v=aQ∧0≤a∧a≤99∧∀c∈cs,ij c.1∧rD c.2))
theorem CA:∀(n:Nat) {r:RS},r.p≤s.size→(dS n s r).2.f=none→∀w∈(dS n s r).1,ij w:=by
 intro n
 induction n with
 |zero=>intro r hp _ w hw;simp[dS] at hw
 |succ n ih=>
  intro r hp hf w hw;simp only[dS] at hf hw;split at hf
  ·rename_i hc;rw[if_pos hc] at hw;rcases List.mem_cons.1 hw with rfl|hw
   ·exact ng hp (vV hf)
   ·exact ih (eE (s:=s) hp).2 hf w hw
  ·rename_i hc;rw[if_neg hc] at hw;simp at hw
theorem Fk(hp:r.p≤s.size)(hf:(eR s r).2.f=none):ij (eR s r).1.1∧rD (eR s r).1.2:=by
 have h1:=bY (s:=s) (w:=⟨#[40]⟩) hp;have h2:=bY (s:=s) (w:=jT) h1.2;have h3:=eE (s:=s) h2.2;unfold eR at hf ⊢;have g1:=jg hf;exact⟨ng h2.2 (rK g1),oF _ _ h3.2 g1 (by omega)⟩
theorem Dm:∀(n:Nat) {r:RS},r.p≤s.size→(dM n s r).2.f=none→∀c∈(dM n s r).1,ij c.1∧rD c.2:=by
 intro n
 induction n with
 |zero=>intro r hp _ w hw;simp[dM] at hw
 |succ n ih=>
  intro r hp hf w hw;simp only[dM] at hf hw;split at hf
  ·rename_i hc;rw[if_pos hc] at hw;rcases List.mem_cons.1 hw with rfl|hw
   ·exact Fk hp (Bh hf)
   ·exact ih (tP (s:=s) hp).2 hf w hw
  ·rename_i hc;rw[if_neg hc] at hw;simp at hw
theorem EO(hp:r.p≤s.size)(hf:(bO s r).2.2.2.f=none):ij (bO s r).2.1∧∀w∈(bO s r).2.2.1,ij w:=by
 have h1:=bY (s:=s) (w:=⟨#[40]⟩) hp;have h2:=c6 (s:=s) h1.2;have h3:=eE (s:=s) h2.2;have h4:=bY (s:=s) (w:=⟨#[40]⟩) h3.2;unfold bO at hf ⊢;dsimp only at hf ⊢;split at hf
 ·exact absurd hf (iS _ _)
 ·rename_i hk;rw[if_neg hk];have g1:=jg hf;exact⟨ng h2.2 (jg (vV g1)),CA _ h4.2 g1⟩
theorem Fe(hp:r.p≤s.size)(hf:(eF s r).2.f=none):Gk (eF s r).1:=by
 have hh:=ny (s:=s) hp;unfold eF at hf ⊢;dsimp only at hf ⊢;split at hf
 ·rename_i hk;exact absurd (zP hf).2 (fun h=>h hk)
 ·rename_i hk;rw[if_neg hk];split at hf
  ·exact absurd hf (iS _ _)
  ·rename_i hb;rw[if_neg hb];have ha:=oC (s:=s) (k:=(bO s r).1) hh.2;have hfh:=GN (Jc hf);have hg:=zP hfh;have hs:=EO hp hfh;generalize hk1:(bO s r).1=k at*
   generalize hn1:(bO s r).2.1=nm at*
   generalize hp1:(bO s r).2.2.1=ps at*
   generalize hr1:(bO s r).2.2.2=r6 at*
   have har:(¬ k=3→(fW s k r6).1=0)∧(k=3→0≤(fW s k r6).1∧(fW s k r6).1≤99):=by
    unfold fW;refine⟨fun h=>by rw[if_neg h],fun h=>?_⟩;rw[if_pos h];have hab:qy (bd s r6.p):=Classical.byContradiction fun h2=>hb ⟨h,h2⟩
    obtain⟨_,had,_⟩:=FT hh.2 hab.1 ⟨hab.2.1,hab.2.2.1⟩;exact Hn had hab.2.2.2
   generalize(fW s k r6).1=a at*
   generalize(fW s k r6).2=r7 at*
   unfold iT at hf ⊢;dsimp only at hf ⊢;have f1:=jg hf;have f2:=Ky f1;have f3:=Mx f2;have t2:=eu (s:=s) (s.size+1) r7 ha.2;have v2:=vR (s:=s) (k:=k) t2.2;have gt:=oF (s:=s) (s.size+1) r7 ha.2 f3 (by omega);refine⟨hs.1,hs.2,gt,?_⟩;have hk123:k=1∨k=2∨k=3:=by omega
   rcases hk123 with rfl|rfl|rfl
   ·refine .inl ⟨rfl,?_,har.1 (by decide),?_⟩
    ·unfold rH;rw[if_neg (by decide)]
    ·unfold nA;rw[if_neg (by decide)]
   ·refine .inr (.inl ⟨rfl,?_,har.1 (by decide),?_⟩)
    ·unfold rH at f2 ⊢;rw[if_pos rfl] at f2 ⊢;exact oF _ _ t2.2 f2 (by omega)
    ·unfold nA;rw[if_neg (by decide)]
   ·refine .inr (.inr ⟨rfl,?_,(har.2 rfl).1,(har.2 rfl).2,?_⟩)
    ·unfold rH;rw[if_neg (by decide)]
    ·unfold nA at f1 ⊢;rw[if_pos rfl] at f1 ⊢;exact Dm _ v2.2 f1
theorem E5:∀(n:Nat) {r:RS},r.p≤s.size→(fE n s r).2.f=none→∀d∈(fE n s r).1,Gk d:=by
 intro n
 induction n with
 |zero=>intro r hp _ d hd;simp[fE] at hd
 |succ n ih=>
  intro r hp hf d hd;simp only[fE] at hf hd;split at hf
  ·rename_i hc;rw[if_pos hc] at hd;have hdn:(eF s r).2.f=none:=by
    cases hx:(eF s r).2.f with
    |none=>rfl
    |some a=>
     rw[uL (by rintro⟨e,_⟩;rw[hx] at e;cases e)] at hf;rw[hx] at hf;cases hf
   rcases List.mem_cons.1 hd with rfl|hd
   ·exact Fe hp hdn
   ·exact ih (xU (s:=s) hp).2 hf d hd
  ·rename_i hc;rw[if_neg hc] at hd;simp at hd
theorem AF(h:(fT s).2.1=0):∀d∈(fT s).1,Gk d:=by
 unfold fT at h ⊢;split at h
 ·exact absurd h (by decide)
 ·rename_i hs;rw[if_neg hs];unfold eZ at h ⊢;split at h
  ·rename_i hf;simp only;exact E5 _ (Nat.zero_le _) hf
  ·exact absurd (show(1:Int)=0 from h) (by decide)
end
section
open Go Go.Vd Go.RowKit
def Ps(l:aP):Prop:= ∃x:eC,l=x.cC∧vO x.cC
def Cy(k n:Int)(s:ByteArray)(ls:List aP)(a:Nat)(V:Prop)(C:Prop):Prop:=
 (k=0∧V∧s=.empty∧ls=[]∧a=0)∨(k=1∧n=0∧s=.empty∧ls.length=1∧a=0)∨(k=2∧n=0∧C∧a=0)∨
  ((k=3∨k=4∨k=5)∧n=0∧s=.empty∧ls=[]∧a=2)∨(k=6∧n=0∧s=.empty∧ls=[]∧a=3)
variable {k n:Int} {s:ByteArray} {ls:List aP}
theorem Cy.imp{a:Nat}{V C V' C':Prop}(h:Cy k n s ls a V C)(hv:k=0→V→V')(hc:k=2→C→C'):Cy k n s ls a V' C':=by
 rcases h with⟨h1,h2,h3⟩|h|⟨h1,h2,h3,h4⟩|h|h
 ·exact .inl ⟨h1,hv h1 h2,h3⟩
 ·exact .inr (.inl h)
 ·exact .inr (.inr (.inl ⟨h1,h2,hc h1 h3,h4⟩))
 ·exact .inr (.inr (.inr (.inl h)))
 ·exact .inr (.inr (.inr (.inr h)))
mutual
def iD(B:Int):ae→Prop
 | .mk k n s ls args=>(∀ l∈ls,Ps l)∧uk B args∧Cy k n s ls args.length (0≤n∧n≤B) True
def uk(B:Int):List ae→Prop
 |[]=>True
 |t::r=>iD B t∧uk B r
end
theorem BI{B:Int}:∀{l:List ae} {t:ae},uk B l→t∈l→iD B t
 |[],t,_,h=>by cases h
 |a::r,t,ho,h=>by
  rcases List.mem_cons.1 h with rfl|h
  ·exact ho.1
  ·exact BI ho.2 h
variable {B:Int} {t:ae}
theorem wD{l:List ae}{i:Nat}(h:uk B l)(hi:l[i]? =some t):iD B t:=BI h (List.mem_of_getElem? hi)
variable {args:List ae}
theorem pS(h:iD B (.mk k n s ls args))(hk:k=0):0≤n∧n≤B∧s=.empty∧ls=[]∧args=[]:=by
 obtain⟨_,_,h3⟩:=h;rcases h3 with h3|h3|h3|h3|h3
 ·exact ⟨h3.2.1.1,h3.2.1.2,h3.2.2.1,h3.2.2.2.1,List.length_eq_zero_iff.1 h3.2.2.2.2⟩
 all_goals omega
mutual
theorem jF{B B':Int}(hb:B≤B'):∀{t:ae},iD B t→iD B' t
 | .mk k n s ls args,h=>⟨h.1,y9 hb h.2.1,h.2.2.imp (fun _ h=>⟨h.1,by omega⟩) fun _ h=>h⟩
theorem y9{B B':Int}(hb:B≤B'):∀{l:List ae},uk B l→uk B' l
 |[],_=>trivial
 |t::r,h=>⟨jF hb h.1,y9 hb h.2⟩
end
mutual
theorem pT:∀{t:ae},rD t→iD 99999 t
 | .mk k n s ls args,h=>by
  refine⟨fun l hl=>(h.1 l hl).imp fun x h=>⟨h.1,h.2.1⟩,zc h.2.1,?_⟩;rcases h.2.2 with h|h|h|h|h
  ·exact .inl ⟨h.1,⟨h.2.1,h.2.2.1⟩,h.2.2.2.1,h.2.2.2.2.1,by rw[h.2.2.2.2.2];rfl⟩
  ·exact .inr (.inl ⟨h.1,h.2.1,h.2.2.1,h.2.2.2.1,by rw[h.2.2.2.2];rfl⟩)
  ·exact .inr (.inr (.inl ⟨h.1,h.2.1,trivial,by rw[h.2.2.2];rfl⟩))
  ·exact .inr (.inr (.inr (.inl h)))
  ·exact .inr (.inr (.inr (.inr h)))
theorem zc:∀{l:List ae},uF l→uk 99999 l
 |[],_=>trivial
 |t::r,h=>⟨pT h.1,zc h.2⟩
end
def iQ(ps:List ByteArray)(l:aP):Prop:= ∃x:eC,l=x.cC∧vO x.cC∧∀p,x.has p→p∈ps
abbrev Sg:=ByteArray→Option Nat
mutual
def Wt(sg:Sg)(ps:List ByteArray):ae→Int→Prop
 | .mk k n s ls args,c=>(∀ l∈ls,iQ ps l)∧gV sg ps (decide (4≤k)) args c∧Cy k n s ls args.length (0≤n∧n<c) (sg s=some ls.length)
def gV(sg:Sg)(ps:List ByteArray)(b:Bool):List ae→Int→Prop
 |[],_=>True
 |t::r,c=>Wt sg ps t (if b&&r.isEmpty then c+1 else c)∧gV sg ps b r c
end
def yS(a b:Sg):Prop:= ∀s n,a s=some n→b s=some n
variable {l:aP}
theorem iQ.mono{ps qs:List ByteArray}(h:iQ ps l)(hp:∀p∈ps,p∈qs):iQ qs l:=by
 obtain⟨x,h1,h2,h3⟩:=h;exact⟨x,h1,h2,fun p hx=>hp p (h3 p hx)⟩
theorem iQ.ok{ps:List ByteArray}(h:iQ ps l):Ps l:=h.imp fun x h=>⟨h.1,h.2.1⟩
section
variable {sg sg':Sg} {ps qs:List ByteArray}
mutual
theorem Wt.mono(hs:yS sg sg')(hp:∀p∈ps,p∈qs):∀{t:ae} {c c':Int},Wt sg ps t c→c≤c'→Wt sg' qs t c'
 | .mk k n s ls args,c,c',h,hc=>⟨fun l hl=>(h.1 l hl).mono hp,gV.mono hs hp h.2.1 hc,h.2.2.imp (fun _ h=>⟨h.1,by omega⟩) fun _ h=>hs _ _ h⟩
theorem gV.mono(hs:yS sg sg')(hp:∀p∈ps,p∈qs):∀{l:List ae} {b:Bool} {c c':Int},gV sg ps b l c→c≤c'→gV sg' qs b l c'
 |[],b,c,c',_,_=>trivial
 |t::r,b,c,c',h,hc=>⟨Wt.mono hs hp h.1 (by split<;>omega),gV.mono hs hp h.2 hc⟩
end
theorem yS.refl(sg:Sg):yS sg sg:=fun _ _ h=>h
variable {c:Int}
theorem Wt.up{c':Int}(h:Wt sg ps t c)(hc:c≤c'):Wt sg ps t c':=h.mono (yS.refl _) (fun _ h=>h) hc
mutual
theorem Wt.sh:∀{t:ae} {c:Int},Wt sg ps t c→∀{B:Int},c+t.size≤B+1→iD B t
 | .mk k n s ls args,c,h,B,hB=>by
  simp only[ae.size] at hB;exact⟨fun l hl=>(h.1 l hl).ok,gV.sh h.2.1 (by omega),h.2.2.imp (fun _ h=>⟨h.1,by omega⟩) fun _ _=>trivial⟩
theorem gV.sh:∀{l:List ae} {b:Bool} {c:Int},gV sg ps b l c→∀{B:Int},c+aj l≤B→uk B l
 |[],_,_,_,_,_=>trivial
 |t::r,b,c,h,B,hB=>by
  simp only[aj] at hB;exact⟨Wt.sh h.1 (by split<;>omega),gV.sh h.2 (by omega)⟩
end
mutual
theorem Wt.lift{m fr:Int}(hm:0≤m):∀{t:ae} {c d:Int},Wt sg ps t c→Wt sg ps (b0 (dK m fr) t d) (c+m)
 | .mk k n s ls args,c,d,h=>by
  by_cases hk:k=0
  ·subst hk;have hv:=h.2.2;rcases hv with hv|hv|hv|hv|hv
   ·obtain ⟨_,⟨h0,h1⟩,rfl,rfl,ha⟩:=hv;have ha:=List.length_eq_zero_iff.1 ha;subst ha;rw[cO,dK];split
    ·exact ⟨fun l hl=>(by cases hl),trivial,.inl ⟨rfl,⟨by omega,by omega⟩,rfl,rfl,rfl⟩⟩
    ·exact ⟨fun l hl=>(by cases hl),trivial,.inl ⟨rfl,⟨by omega,by omega⟩,rfl,rfl,rfl⟩⟩
   all_goals omega
  ·rw [b0,if_neg hk];refine⟨h.1,gV.lift hm h.2.1,?_⟩;rw[fB];exact h.2.2.imp (fun h=>absurd h hk) fun _ h=>h
theorem gV.lift{m fr:Int}(hm:0≤m):∀{l:List ae} {b:Bool} {c d:Int},gV sg ps b l c→gV sg ps b (bQ (dK m fr) b l d) (c+m)
 |[],b,c,d,_=>by simp[bQ,gV]
 |t::r,b,c,d,h=>by
  rw[bQ,gV];refine⟨?_,gV.lift hm h.2⟩;rw[jG];have:=Wt.lift (fr:=fr) hm (d:=if (b&&r.isEmpty)=true then d+1 else d) h.1;refine this.up ?_;split<;>omega
end
theorem Wt.NO{m fr:Int}(hm:0≤m)(h:Wt sg ps t c):Wt sg ps (dz t m fr) (c+m):=by
 rw[dY];exact h.lift hm
mutual
theorem Wt.inst{v:ae}{c:Int}(hc:0≤c)(hv:Wt sg ps v c):∀{t:ae} {d:Int},0≤d→Wt sg ps t (c+1+d)→Wt sg ps (b0 (de v) t d) (c+d)
 | .mk k n s ls args,d,hd,h=>by
  by_cases hk:k=0
  ·subst hk;rcases h.2.2 with h2|h2|h2|h2|h2
   ·obtain ⟨_,⟨h0,h1⟩,rfl,rfl,ha⟩:=h2;have ha:=List.length_eq_zero_iff.1 ha;subst ha;rw[cO,de];split
    ·exact ⟨fun l hl=>(by cases hl),trivial,.inl ⟨rfl,⟨by omega,by omega⟩,rfl,rfl,rfl⟩⟩
    ·split
     ·exact hv.NO hd
     ·exact ⟨fun l hl=>(by cases hl),trivial,.inl ⟨rfl,⟨by omega,by omega⟩,rfl,rfl,rfl⟩⟩
   all_goals omega
  ·rw [b0,if_neg hk];refine⟨h.1,gV.inst hc hv hd h.2.1,?_⟩;rw[fB];exact h.2.2.imp (fun h=>absurd h hk) fun _ h=>h
theorem gV.inst{v:ae}{c:Int}(hc:0≤c)(hv:Wt sg ps v c):∀{l:List ae} {b:Bool} {d:Int},0≤d→gV sg ps b l (c+1+d)→gV sg ps b (bQ (de v) b l d) (c+d)
 |[],b,d,_,_=>by simp[bQ,gV]
 |t::r,b,d,hd,h=>by
  rw[bQ,gV];refine⟨?_,gV.inst hc hv hd h.2⟩;rw[jG];have h1:=h.1;split at h1
  ·rename_i e;rw[if_pos e,if_pos e];have:=Wt.inst hc hv (d:=d+1) (by omega) (h1.up (by omega));exact this.up (by omega)
  ·rename_i e;rw[if_neg e,if_neg e];exact Wt.inst hc hv hd h1
end
variable {b v:ae}
theorem Wt.sub(hc:0≤c)(hb:Wt sg ps b (c+1))(hv:Wt sg ps v c):Wt sg ps (dp b v) c:=by
 have:=Wt.inst hc hv (t:=b) (d:=0) (Int.le_refl _) (by rw[Int.add_zero];exact hb)
 rwa [Int.add_zero] at this
mutual
theorem Wt.ua{v:ae}{c B:Int}(hc:0≤c):∀{t:ae} {d:Int},0≤d→iD B t→Wt sg ps (b0 (de v) t d) (c+d)→Wt sg ps t (c+1+d)
 | .mk k n s ls args,d,hd,hs,h=>by
  by_cases hk:k=0
  ·subst hk;obtain⟨h0,_,rfl,rfl,rfl⟩:=pS hs rfl;rw[cO,de] at h;refine⟨fun l hl=>(by cases hl),trivial,.inl ⟨rfl,⟨h0,?_⟩,rfl,rfl,rfl⟩⟩;split at h
   ·omega
   ·split at h
    ·omega
    ·rcases h.2.2 with h2|h2|h2|h2|h2
     ·have:=h2.2.1.2;omega
     all_goals omega
  ·rw [b0,if_neg hk] at h;refine⟨h.1,gV.ua hc hd hs.2.1 h.2.1,?_⟩;have h2:=h.2.2;rw[fB] at h2;exact h2.imp (fun h=>absurd h hk) fun _ h=>h
theorem gV.ua{v:ae}{c B:Int}(hc:0≤c):∀{l:List ae} {b:Bool} {d:Int},0≤d→uk B l→gV sg ps b (bQ (de v) b l d) (c+d)→gV sg ps b l (c+1+d)
 |[],b,d,_,_,_=>trivial
 |t::r,b,d,hd,hs,h=>by
  rw[bQ,gV,jG] at h;refine⟨?_,gV.ua hc hd hs.2 h.2⟩;have h1:=h.1;split at h1
  ·rename_i e;rw[if_pos e];have:=Wt.ua hc (d:=d+1) (by omega) hs.1 (h1.up (by omega));exact this.up (by omega)
  ·rename_i e;rw[if_neg e];exact Wt.ua hc hd hs.1 h1
end
theorem Wt.MA(hc:0≤c)(hs:iD B b)(h:Wt sg ps (dp b v) c):Wt sg ps b (c+1):=by
 have:=Wt.ua (v:=v) (B:=B) hc (t:=b) (d:=0) (Int.le_refl _) hs (by rw[Int.add_zero];exact h)
 rwa [Int.add_zero] at this
theorem gV.get:∀{l:List ae} {b:Bool} {c:Int} {i:Nat} {t:ae},gV sg ps b l c→l[i]? =some t→Wt sg ps t (if b=true∧i+1=l.length then c+1 else c)
 |[],b,c,i,t,_,h=>by simp at h
 |a::r,b,c,0,t,hp,h=>by
  simp at h;subst h;have:=hp.1;cases r<;>simpa using this
 |a::r,b,c,i+1,t,hp,h=>by
  have:=gV.get (l:=r) (i:=i) (t:=t) hp.2 (by simpa using h)
  simpa only[List.length_cons,Nat.add_right_cancel_iff] using this
theorem Wt.two(h:Wt sg ps (.mk k n s ls args) c)(hk:k=3∨k=4∨k=5):∃a b,args=[a,b]∧n=0∧s=.empty∧ls=[]∧Wt sg ps a c∧Wt sg ps b (if k=3 then c else c+1):=by
 rcases h.2.2 with h2|h2|h2|h2|h2
 ·omega
 ·omega
 ·omega
 ·obtain ⟨_,hn,hs,hl,ha⟩:=h2
  match args,ha with
  |[a,b],_=>
   have h3:=h.2.1;simp only[gV,List.isEmpty_cons,List.isEmpty_nil,Bool.and_false,Bool.and_true,Bool.false_eq_true,if_false,decide_eq_true_eq] at h3;refine⟨a,b,rfl,hn,hs,hl,h3.1,?_⟩;have h4:=h3.2.1;by_cases h5:k=3
   ·rw [if_pos h5];rw[if_neg (by omega)] at h4;exact h4
   ·rw [if_neg h5];rw[if_pos (by omega)] at h4;exact h4
 ·omega
theorem Wt.three(h:Wt sg ps (.mk k n s ls args) c)(hk:k=6):∃a v b,args=[a,v,b]∧n=0∧s=.empty∧ls=[]∧Wt sg ps a c∧Wt sg ps v c∧Wt sg ps b (c+1):=by
 rcases h.2.2 with h2|h2|h2|h2|h2
 ·omega
 ·omega
 ·omega
 ·omega
 ·obtain ⟨_,hn,hs,hl,ha⟩:=h2
  match args,ha with
  |[a,v,b],_=>
   have h3:=h.2.1;simp only[gV,List.isEmpty_cons,List.isEmpty_nil,Bool.and_false,Bool.and_true,Bool.false_eq_true,if_false,decide_eq_true_eq] at h3;refine⟨a,v,b,rfl,hn,hs,hl,h3.1,h3.2.1,?_⟩;have h4:=h3.2.2.1;rw[if_pos (by omega)] at h4;exact h4
variable {a:ae}
theorem Wt.Rw(hk:k=3∨k=4∨k=5)(ha:Wt sg ps a c)(hb:Wt sg ps b (if k=3 then c else c+1)):Wt sg ps (.mk k 0 .empty [] [a,b]) c:=by
 refine⟨fun l hl=>(by cases hl),?_,.inr (.inr (.inr (.inl ⟨hk,rfl,rfl,rfl,rfl⟩)))⟩;simp only[gV,List.isEmpty_cons,List.isEmpty_nil,Bool.and_false,Bool.and_true,Bool.false_eq_true,if_false,decide_eq_true_eq];refine⟨ha,?_,trivial⟩;by_cases h5:k=3
 ·rw [if_pos h5] at hb;rw[if_neg (by omega)];exact hb
 ·rw [if_neg h5] at hb;rw[if_pos (by omega)];exact hb
theorem Wt.app(ha:Wt sg ps a c)(hb:Wt sg ps b c):Wt sg ps (.mk 3 0 .empty [] [a,b]) c:=Wt.Rw (.inl rfl) ha (by rw[if_pos rfl];exact hb)
theorem Wt.bind(hk:k=4∨k=5)(ha:Wt sg ps a c)(hb:Wt sg ps b (c+1)):Wt sg ps (.mk k 0 .empty [] [a,b]) c:=Wt.Rw (.inr hk) ha (by rw[if_neg (by omega)];exact hb)
theorem Wt.var(h0:0≤n)(h1:n<c):Wt sg ps (.mk 0 n .empty [] []) c:=⟨fun l hl=>(by cases hl),trivial,.inl ⟨rfl,⟨h0,h1⟩,rfl,rfl,rfl⟩⟩
theorem Wt.sort(h:iQ ps l):Wt sg ps (.mk 1 0 .empty [l] []) c:=⟨fun x hx=>by simp only[List.mem_singleton] at hx;subst hx;exact h,trivial,.inr (.inl ⟨rfl,rfl,rfl,rfl,rfl⟩)⟩
theorem Wt.apply{f:ae}{bs:List ae}(hf:Wt sg ps f c)(hb:∀b∈bs,Wt sg ps b c):Wt sg ps (bt f bs) c:=by
 unfold bt
 induction bs generalizing f with
 |nil=>exact hf
 |cons a r ih=>exact ih (Wt.app hf (hb a List.mem_cons_self)) fun b h=>hb b (List.mem_cons_of_mem _ h)
theorem Wt.spine:∀(n:Nat) {t:ae} {c:Int},t.size≤n→Wt sg ps t c→rh t∧Wt sg ps (bf t).1 c∧(∀ b∈(bf t).2,Wt sg ps b c)∧bt (bf t).1 (bf t).2=t:=by
 intro n
 induction n with
 |zero=>intro t c h;obtain⟨k,m,s,ls,args,rfl⟩:=ae.case t;simp[ae.size] at h
 |succ n ih=>
  intro t c hn h;obtain⟨k,m,s,ls,args,rfl⟩:=ae.case t
  by_cases hk:k=3
  ·subst hk;obtain⟨a,b,rfl,rfl,rfl,rfl,ha,hb⟩:=h.two (.inl rfl);rw[if_pos rfl] at hb;simp only[ae.size,aj] at hn;obtain⟨h1,h2,h3,h4⟩:=ih (by omega) ha;rw[jh];refine⟨fun _=>h1,h2,fun x hx=>?_,?_⟩
   ·rcases List.mem_append.1 hx with hx|hx
    ·exact h3 x hx
    ·simp only[List.mem_singleton] at hx;subst hx;exact hb
   ·show bt (bf a).1 ((bf a).2++[b])=_;unfold bt at h4 ⊢;rw[List.foldl_append,h4];rfl
  ·rw [kH hk];exact⟨by
    match args with
    |[a,b]=>intro e;exact absurd e hk
    |[]=>exact hk
    |[a]=>exact hk
    |a::b::c::r=>exact hk,h,fun b hb=>(by cases hb),rfl⟩
end
end
section
open Go Go.Vd Go.RowKit
mutual
def ew(ps:List ByteArray)(us:List aP):ae→ae
 | .mk k n s ls args=>.mk k n s (ls.map fun x=>x.subst ps us) (dw ps us args)
def dw(ps:List ByteArray)(us:List aP):List ae→List ae
 |[]=>[]
 |t::r=>ew ps us t::dw ps us r
end
theorem qK{ps:List ByteArray}{us:List aP}:∀l:List ae,(dw ps us l).length=l.length
 |[]=>rfl
 |t::r=>by simp[dw,qK r]
theorem uf{ps:List ByteArray}{us:List aP}:∀{l:List ae} {i:Nat} {t:ae},l[i]? =some t→(dw ps us l)[i]? =some (ew ps us t)
 |[],i,t,h=>by simp at h
 |a::r,0,t,h=>by simp at h;subst h;simp[dw]
 |a::r,i+1,t,h=>by simpa[dw] using uf (l:=r) (i:=i) (t:=t) (by simpa using h)
variable {i:Nat}
theorem xk{l:List aP}{x:aP}(h:l[i]? =some x):bF (l.take i)++[x.cells]=bF (l.take (i+1)):=by
 rw[List.take_add_one,h,qb];rfl
theorem wj{l:List ae}{x:ae}(h:l[i]? =some x):aH (l.take i)++[x.cells]=aH (l.take (i+1)):=by
 rw[List.take_add_one,h,dj];rfl
theorem rR:∀{l:List aP} {i:Nat} {t:aP},l[i]? =some t→t.size≤bh l
 |[],i,t,h=>by simp at h
 |a::r,0,t,h=>by simp at h;subst h;simp[bh]
 |a::r,i+1,t,h=>by
  have:=rR (l:=r) (i:=i) (t:=t) (by simpa using h);simp[bh];omega
theorem oL:∀l:List aP,l.length≤bh l
 |[]=>by simp
 | .mk k s args::r=>by have:=oL r;simp[bh,aP.size];omega
theorem dF(l m:List ae):aj (l++m)=aj l+aj m:=by
 induction l with
 |nil=>simp[aj]
 |cons a r ih=>simp[aj,ih];omega
theorem dQ:∀(n:Nat) (t:ae),t.size≤n→(bf t).1.size+aj (bf t).2≤t.size:=by
 intro n
 induction n with
 |zero=>intro t h;obtain⟨k,m,s,ls,args,rfl⟩:=ae.case t;simp[ae.size] at h
 |succ n ih=>
  intro t h
  match t with
  | .mk k m s ls [f,a]=>
   simp only[ae.size,aj] at h;by_cases hk:k=3
   ·have h1:=ih f (by omega);rw[bf,if_pos hk];simp only[dF,aj,ae.size];omega
   ·rw [bf,if_neg hk];simp[aj]
  | .mk k m s ls []=>simp[bf,aj]
  | .mk k m s ls [a]=>simp[bf,aj]
  | .mk k m s ls (a::b::c::r)=>simp[bf,aj]
theorem cB(f:ae)(bs:List ae):(bt f bs).size=f.size+aj bs+bs.length:=by
 unfold bt
 induction bs generalizing f with
 |nil=>simp[aj]
 |cons a r ih=>rw[List.foldl_cons,ih];simp only[ae.size,bh,aj,List.length_cons];omega
end
section
open Go Go.Vd Go.RowKit
theorem HO{ps:List ByteArray}{s:ByteArray}(h:s∈ps):∃i,ps.findIdx? (· =s)=some i∧i<ps.length:=by
 induction ps with
 |nil=>cases h
 |cons p r ih=>
  by_cases e:p=s
  ·exact ⟨0,by simp[List.findIdx?_cons,e],by simp⟩
  ·rcases List.mem_cons.1 h with h|h
   ·exact absurd h.symm e
   ·obtain ⟨i,h1,h2⟩:=ih h;exact⟨i+1,by simp[List.findIdx?_cons,e,h1],by simp;omega⟩
theorem j5{ps qs:List ByteArray}{us:List aP}(hl:ps.length≤us.length)(hu:∀u∈us,iQ qs u):∀x:eC,vO x.cC→(∀ p,x.has p→p∈ps)→iQ qs (x.cC.subst ps us)
 | .zero,_,_=>⟨.zero,rfl,⟨by decide,by decide,fun e=>absurd e (by decide),trivial⟩,fun p h=>h.elim⟩
 | .succ a,hf,h=>by
  obtain⟨y,h1,h2,h3⟩:=j5 hl hu a hf.2.2.2.1 h;refine⟨.succ y,?_,⟨by decide,by decide,fun e=>absurd e (by decide),h2,trivial⟩,h3⟩;show aP.subst ps us (.mk 1 .empty [a.cC])=.mk 1 .empty [y.cC];simp only[aP.subst,dW,h1];rfl
 | .max a b,hf,h=>by
  obtain⟨y,h1,h2,h3⟩:=j5 hl hu a hf.2.2.2.1 fun p hp=>h p (.inl hp)
  obtain⟨z,g1,g2,g3⟩:=j5 hl hu b hf.2.2.2.2.1 fun p hp=>h p (.inr hp)
  refine⟨.max y z,?_,⟨by decide,by decide,fun e=>absurd e (by decide),h2,g2,trivial⟩,fun p hp=>hp.elim (h3 p) (g3 p)⟩;show aP.subst ps us (.mk 2 .empty [a.cC,b.cC])=.mk 2 .empty [y.cC,z.cC];simp only[aP.subst,dW,h1,g1];rfl
 | .imax a b,hf,h=>by
  obtain⟨y,h1,h2,h3⟩:=j5 hl hu a hf.2.2.2.1 fun p hp=>h p (.inl hp)
  obtain⟨z,g1,g2,g3⟩:=j5 hl hu b hf.2.2.2.2.1 fun p hp=>h p (.inr hp)
  refine⟨.imax y z,?_,⟨by decide,by decide,fun e=>absurd e (by decide),h2,g2,trivial⟩,fun p hp=>hp.elim (h3 p) (g3 p)⟩;show aP.subst ps us (.mk 3 .empty [a.cC,b.cC])=.mk 3 .empty [y.cC,z.cC];simp only[aP.subst,dW,h1,g1];rfl
 | .param s,hf,h=>by
  obtain⟨i,h1,h2⟩:=HO (h s rfl);have hi:i<us.length:=by omega
  show iQ qs (aP.subst ps us (.mk 4 s []));simp only[aP.subst,if_true,h1];rw[List.getD_eq_getElem?_getD,List.getElem?_eq_getElem hi];exact hu _ (List.getElem_mem hi)
theorem iQ.subst{ps qs:List ByteArray}{us:List aP}{l:aP}(hl:ps.length≤us.length)(hu:∀u∈us,iQ qs u)(h:iQ ps l):iQ qs (l.subst ps us):=by
 obtain⟨x,rfl,h2,h3⟩:=h;exact j5 hl hu x h2 h3
theorem BD(ps:List ByteArray)(us:List aP)(r:List ae):(dw ps us r).isEmpty=r.isEmpty:=by cases r<;>simp[dw]
mutual
theorem Wt.IJ{sg:Sg}{ps qs:List ByteArray}{us:List aP}(hl:ps.length≤us.length)(hu:∀u∈us,iQ qs u):∀{t:ae} {c:Int},Wt sg ps t c→Wt sg qs (ew ps us t) c
 | .mk k n s ls args,c,h=>by
  rw[ew];refine⟨fun l hm=>?_,gV.IJ hl hu h.2.1,?_⟩
  ·obtain ⟨x,hx,rfl⟩:=List.mem_map.1 hm;exact(h.1 x hx).subst hl hu
  ·rw [qK];rcases h.2.2 with h|h|h|h|h
   ·exact .inl ⟨h.1,h.2.1,h.2.2.1,by rw[h.2.2.2.1];rfl,h.2.2.2.2⟩
   ·exact .inr (.inl ⟨h.1,h.2.1,h.2.2.1,by rw[List.length_map];exact h.2.2.2.1,h.2.2.2.2⟩)
   ·exact .inr (.inr (.inl ⟨h.1,h.2.1,by rw[List.length_map];exact h.2.2.1,h.2.2.2⟩))
   ·exact .inr (.inr (.inr (.inl ⟨h.1,h.2.1,h.2.2.1,by rw[h.2.2.2.1];rfl,h.2.2.2.2⟩)))
   ·exact .inr (.inr (.inr (.inr ⟨h.1,h.2.1,h.2.2.1,by rw[h.2.2.2.1];rfl,h.2.2.2.2⟩)))
theorem gV.IJ{sg:Sg}{ps qs:List ByteArray}{us:List aP}(hl:ps.length≤us.length)(hu:∀u∈us,iQ qs u):∀{l:List ae} {b:Bool} {c:Int},gV sg ps b l c→gV sg qs b (dw ps us l) c
 |[],b,c,_=>by simp[dw,gV]
 |t::r,b,c,h=>by
  rw[dw,gV,BD];exact⟨Wt.IJ hl hu h.1,gV.IJ hl hu h.2⟩
end
mutual
def mJ:ae→Int→Nat
 | .mk k n s ls args,v=>if k=0∧n=v then 1 else jL (decide (4≤k)) args v
def jL(b:Bool):List ae→Int→Nat
 |[],_=>0
 |t::r,v=>mJ t (if b&&r.isEmpty then v+1 else v)+jL b r v
end
mutual
theorem uj(m fr:Int):∀(t:ae) (d:Int),(b0 (dK m fr) t d).size=t.size
 | .mk k n s ls args,d=>by
  by_cases hk:k=0
  ·rw [b0,if_pos hk,dK];split<;>rfl
  ·rw [b0,if_neg hk];simp only[ae.size,wA m fr args]
theorem wA(m fr:Int):∀(l:List ae) (b:Bool) (d:Int),aj (bQ (dK m fr) b l d)=aj l
 |[],b,d=>by simp[bQ]
 |t::r,b,d=>by simp only[bQ,aj,uj m fr t,wA m fr r]
end
theorem jk(t:ae)(m fr:Int):(dz t m fr).size=t.size:=by rw[dY,uj]
mutual
theorem y7(v:ae):∀(t:ae) (d:Int),(b0 (de v) t d).size≤t.size+mJ t d*v.size
 | .mk k n s ls args,d=>by
  by_cases hk:k=0
  ·rw [b0,if_pos hk,de,mJ];split
   ·rw [if_neg (by omega)];simp only[ae.size];omega
   ·split
    ·rw [if_pos ⟨hk,by omega⟩,jk];simp only[ae.size];omega
    ·rw [if_neg (by omega)];simp only[ae.size];omega
  ·rw [b0,if_neg hk,mJ,if_neg (fun h=>hk h.1)];have:=wB v args (decide (4≤k)) d;simp only[ae.size];omega
theorem wB(v:ae):∀(l:List ae) (b:Bool) (d:Int),aj (bQ (de v) b l d)≤aj l+jL b l d*v.size
 |[],b,d=>by simp[bQ,aj]
 |t::r,b,d=>by
  have h1:=y7 v t (if b&&r.isEmpty then d+1 else d);have h2:=wB v r b d;simp only[bQ,aj,jL,Nat.add_mul];omega
end
structure O1 where
 two:Nat→Nat→Nat
 lam:Nat→Nat→Nat
 RK:Nat→Nat→Nat→Nat
 leaf:Nat
 Q7:Nat
def gq(x:Nat)(ρ:Nat→Nat):Nat→Nat
 |0=>x
 |i+1=>ρ i
def zE(al:O1):ae→(Nat→Nat)→Nat
 | .mk k n s ls [a,b],ρ=>if k=0 then ρ n.toNat else if 4≤k then al.lam (zE al a ρ) (zE al b (gq al.Q7 ρ)) else al.two (zE al a ρ) (zE al b ρ)
 | .mk k n s ls [a,v,b],ρ=>if k=0 then ρ n.toNat else if 4≤k then al.RK (zE al a ρ) (zE al v ρ) (zE al b (gq (zE al v ρ) ρ)) else al.leaf
 | .mk k n s ls _,ρ=>if k=0 then ρ n.toNat else al.leaf
def rS(m d:Nat)(ρ:Nat→Nat)(i:Nat):Nat:=if i<d then ρ i else ρ (i+m)
theorem wC(m d x:Nat)(ρ:Nat→Nat):rS m (d+1) (gq x ρ)=gq x (rS m d ρ):=by
 funext i;cases i with
 |zero=>simp[rS,gq]
 |succ i=>
  simp only[rS,gq,Nat.add_lt_add_iff_right];split
  ·rfl
  ·rw [show i+1+m=(i+m)+1 by omega]
variable {B:Int}
theorem K8(al:O1)(m:Nat):∀(n:Nat) (t:ae) (d:Nat) (ρ:Nat→Nat),t.size≤n→iD B t→zE al (b0 (dK m 0) t d) ρ=zE al t (rS m d ρ):=by
 intro n
 induction n with
 |zero=>intro t d ρ h;obtain⟨k,m,s,ls,args,rfl⟩:=ae.case t;simp[ae.size] at h
 |succ n ih=>
  intro t d ρ hn hs;obtain⟨k,v,s,ls,args,rfl⟩:=ae.case t
  by_cases hk:k=0
  ·subst hk;obtain⟨h0,_,rfl,rfl,rfl⟩:=pS hs rfl;rw[cO,dK];simp only[Int.zero_add];split
   ·simp only[zE,if_true,rS];rw[if_neg (by omega)];congr 1;omega
   ·simp only[zE,if_true,rS];rw[if_pos (by omega)]
  ·rw [b0,if_neg hk];have h2:=hs.2.2;simp only[ae.size] at hn;rcases h2 with h2|h2|h2|h2|h2
   ·omega
   ·obtain ⟨_,_,_,_,ha⟩:=h2
    match args,ha with
    |[],_=>simp only[bQ,zE,if_neg hk]
   ·obtain ⟨_,_,_,ha⟩:=h2
    match args,ha with
    |[],_=>simp only[bQ,zE,if_neg hk]
   ·obtain ⟨hk3,_,_,_,ha⟩:=h2
    match args,ha with
    |[a,b],_=>
     simp only[aj] at hn;have h3:=hs.2.1;simp only[bQ,List.isEmpty_cons,List.isEmpty_nil,Bool.and_false,Bool.and_true,Bool.false_eq_true,if_false,decide_eq_true_eq];rw[zE,zE,if_neg hk,if_neg hk];by_cases h4:4≤k
     ·rw [if_pos h4,if_pos h4,if_pos h4,ih a d ρ (by omega) h3.1,←wC,show(d:Int)+1=((d+1:Nat):Int) by omega,ih b (d+1) _ (by omega) h3.2.1]
     ·rw [if_neg h4,if_neg h4,if_neg h4,ih a d ρ (by omega) h3.1,ih b d ρ (by omega) h3.2.1]
   ·obtain ⟨hk3,_,_,_,ha⟩:=h2
    match args,ha with
    |[a,v,b],_=>
     simp only[aj] at hn;have h3:=hs.2.1;simp only[bQ,List.isEmpty_cons,List.isEmpty_nil,Bool.and_false,Bool.and_true,Bool.false_eq_true,if_false,decide_eq_true_eq];rw[zE,zE,if_neg hk,if_neg hk,if_pos (by omega),if_pos (by omega),if_pos (by omega),ih a d ρ (by omega) h3.1,ih v d ρ (by omega) h3.2.1,←wC,show(d:Int)+1=((d+1:Nat):Int) by omega,ih b (d+1) _ (by omega) h3.2.2.1]
variable {B':Int}
theorem K9(al:O1)(v:ae)(hv:iD B' v):∀(n:Nat) (t:ae) (d:Nat) (ρ:Nat→Nat),t.size≤n→iD B t→zE al (b0 (de v) t d) ρ=zE al t (fun i=>if i<d then ρ i else if i=d then zE al v (fun j=>ρ (j+d)) else ρ (i-1)):=by
 intro n
 induction n with
 |zero=>intro t d ρ h;obtain⟨k,m,s,ls,args,rfl⟩:=ae.case t;simp[ae.size] at h
 |succ n ih=>
  intro t d ρ hn hs;obtain⟨k,w,s,ls,args,rfl⟩:=ae.case t
  have hcons:∀x,(fun i=>if i<d+1 then gq x ρ i else if i=d+1 then zE al v (fun j=>gq x ρ (j+(d+1))) else gq x ρ (i-1))=gq x (fun i=>if i<d then ρ i else if i=d then zE al v (fun j=>ρ (j+d)) else ρ (i-1)):=by
   intro x;funext i;cases i with
   |zero=>simp[gq]
   |succ i=>
    simp only[gq,Nat.add_lt_add_iff_right,Nat.add_right_cancel_iff];split
    ·rfl
    ·split
     ·rfl
     ·cases i with
      |zero=>omega
      |succ i=>simp[gq]
  by_cases hk:k=0
  ·subst hk;obtain⟨h0,_,rfl,rfl,rfl⟩:=pS hs rfl;rw[cO,de];split
   ·simp only[zE,if_true];rw[if_pos (by omega)]
   ·split
    ·have hz:zE al (b0 (dK (d:Int) 0) v 0) ρ=_:=K8 al d v.size v 0 ρ (Nat.le_refl _) hv;simp only[zE,if_true];rw[if_neg (by omega),if_pos (by omega),dY,hz]
     congr 1
    ·simp only[zE,if_true];rw[if_neg (by omega),if_neg (by omega)];congr 1;omega
  ·rw [b0,if_neg hk];have h2:=hs.2.2;simp only[ae.size] at hn;rcases h2 with h2|h2|h2|h2|h2
   ·omega
   ·obtain ⟨_,_,_,_,ha⟩:=h2
    match args,ha with
    |[],_=>simp only[bQ,zE,if_neg hk]
   ·obtain ⟨_,_,_,ha⟩:=h2
    match args,ha with
    |[],_=>simp only[bQ,zE,if_neg hk]
   ·obtain ⟨hk3,_,_,_,ha⟩:=h2
    match args,ha with
    |[a,b],_=>
     simp only[aj] at hn;have h3:=hs.2.1;simp only[bQ,List.isEmpty_cons,List.isEmpty_nil,Bool.and_false,Bool.and_true,Bool.false_eq_true,if_false,decide_eq_true_eq];rw[zE,zE,if_neg hk,if_neg hk];by_cases h4:4≤k
     ·rw [if_pos h4,if_pos h4,if_pos h4,ih a d ρ (by omega) h3.1,←hcons,show(d:Int)+1=((d+1:Nat):Int) by omega,ih b (d+1) _ (by omega) h3.2.1]
     ·rw [if_neg h4,if_neg h4,if_neg h4,ih a d ρ (by omega) h3.1,ih b d ρ (by omega) h3.2.1]
   ·obtain ⟨hk3,_,_,_,ha⟩:=h2
    match args,ha with
    |[a,v',b],_=>
     simp only[aj] at hn;have h3:=hs.2.1;simp only[bQ,List.isEmpty_cons,List.isEmpty_nil,Bool.and_false,Bool.and_true,Bool.false_eq_true,if_false,decide_eq_true_eq];rw[zE,zE,if_neg hk,if_neg hk,if_pos (by omega),if_pos (by omega),if_pos (by omega),ih a d ρ (by omega) h3.1,ih v' d ρ (by omega) h3.2.1,←hcons,show(d:Int)+1=((d+1:Nat):Int) by omega,ih b (d+1) _ (by omega) h3.2.2.1]
theorem IK(al:O1){b v:ae}(hv:iD B' v)(hb:iD B b)(ρ:Nat→Nat):zE al (dp b v) ρ=zE al b (gq (zE al v ρ) ρ):=by
 have:=K9 al v hv b.size b 0 ρ (Nat.le_refl _) hb;unfold dp;have h2:zE al (b0 (de v) b 0) ρ=_:=this;rw[h2]
 congr 1
 funext i;cases i with
 |zero=>simp[gq]
 |succ i=>simp[gq]
end
end Go.Proofs.YtndbnldjidciiaaGreatDoor
namespace Go.Vd
def dP.k:dP→Int| .mk k _ _ _ _ _ _=>k
def dP.nm:dP→ByteArray| .mk _ s _ _ _ _ _=>s
def dP.ps:dP→List ByteArray| .mk _ _ p _ _ _ _=>p
def dP.ty:dP→ae| .mk _ _ _ t _ _ _=>t
def dP.vl:dP→ae| .mk _ _ _ _ v _ _=>v
def dP.ar:dP→Int| .mk _ _ _ _ _ a _=>a
def dP.cs:dP→List (ByteArray×ae)| .mk _ _ _ _ _ _ c=>c
end Go.Vd
namespace Go.Proofs.YtndbnldjidciiaaGreatDoor
section
open Go Go.Vd Go.RowKit
structure cy where
 d:dP
 rp:List ByteArray
 rt:ae
def cy.cells(e:cy):List D:=e.d.cells++(.sl 1 (strs e.rp)::e.rt.cells)
def cy.dd(e:cy):D:=.agg e.cells
def pJ(l:List cy):List (List D):=l.map cy.cells
theorem tK(l:List cy):(pJ l).length=l.length:=by simp[pJ]
theorem Df(l m:List cy):pJ (l++m)=pJ l++pJ m:=by simp[pJ]
theorem cy.case(x:cy):∃k s ps k1 n1 s1 l1 a1 k2 n2 s2 l2 a2 a cs rp k3 n3 s3 l3 a3,x=⟨.mk k s ps (.mk k1 n1 s1 l1 a1) (.mk k2 n2 s2 l2 a2) a cs,rp,.mk k3 n3 s3 l3 a3⟩:=by
 obtain⟨⟨k,s,ps,⟨k1,n1,s1,l1,a1⟩,⟨k2,n2,s2,l2,a2⟩,a,cs⟩,rp,⟨k3,n3,s3,l3,a3⟩⟩:=x;exact⟨_,_,_,_,_,_,_,_,_,_,_,_,_,_,_,_,_,_,_,_,_,rfl⟩
variable {l:List cy} {i:Nat}
theorem Gv(h:i<l.length):∃k s ps k1 n1 s1 l1 a1 k2 n2 s2 l2 a2 a cs rp k3 n3 s3 l3 a3,l[i]? =some ⟨.mk k s ps (.mk k1 n1 s1 l1 a1) (.mk k2 n2 s2 l2 a2) a cs,rp,.mk k3 n3 s3 l3 a3⟩:=by
 have:l[i]? =some l[i]:=by simp[h]
 rw[this];obtain⟨k,s,ps,k1,n1,s1,l1,a1,k2,n2,s2,l2,a2,a,cs,rp,k3,n3,s3,l3,a3,e⟩:=cy.case l[i]
 rw[e];exact⟨_,_,_,_,_,_,_,_,_,_,_,_,_,_,_,_,_,_,_,_,_,rfl⟩
theorem sN{k:Int}{s:ByteArray}{ps:List ByteArray}{k1 n1:Int}{s1:ByteArray}{l1:List aP}{a1:List ae}{k2 n2:Int}{s2:ByteArray}{l2:List aP}{a2:List ae}{a:Int}{cs:List (ByteArray×ae)}{rp:List ByteArray}{k3 n3:Int}{s3:ByteArray}{l3:List aP}{a3:List ae}
 (h:l[i]? =some ⟨.mk k s ps (.mk k1 n1 s1 l1 a1) (.mk k2 n2 s2 l2 a2) a cs,rp,.mk k3 n3 s3 l3 a3⟩):(pJ l)[((i:Nat):Int).toNat]? =some [.v (.int .i64 k),.v (.string s),.sl 1 (strs ps),.v (.int .i64 k1),.v (.int .i64 n1),.v (.string s1),.sl 3 (bF l1),.sl 5 (aH a1),.v (.int .i64 k2),.v (.int .i64 n2),.v (.string s2),.sl 3 (bF l2),.sl 5 (aH a2),.v (.int .i64 a),.sl 6 (gM cs),.sl 1 (strs rp),.v (.int .i64 k3),.v (.int .i64 n3),.v (.string s3),.sl 3 (bF l3),.sl 5 (aH a3)]:=by
 simp[pJ,h,cy.cells,dP.Dq,ae.cells]
def Mv:dP:=.mk 0 .empty [] aQ aQ 0 []
def Am:cy:=⟨Mv,[],aQ⟩
def wK:ByteArray:=⟨#[46,114,101,99]⟩
def eH(nm:ByteArray):List (ByteArray×ae)→Option Nat
 |[]=>none
 |c::r=>if c.1=nm then some 0 else(eH nm r).map (· +1)
def bM(nm:ByteArray):List cy→Int×cy×Nat
 |[]=>(0,Am,0)
 |e::r=>if e.d.nm=nm then(e.d.k,e,0) else
  match eH nm e.d.cs with
  |some i=>(4,e,i)
  |none=>if e.d.k=3∧e.d.nm++wK=nm then(5,e,0) else bM nm r
theorem drop_cons{α:Type}{l:List α}{x:α}(h:l[i]? =some x):l.drop i=x::l.drop (i+1):=by
 obtain⟨hi,rfl⟩:=List.getElem?_eq_some_iff.1 h;exact List.drop_eq_getElem_cons hi
theorem xV{nm:ByteArray}:∀{l:List (ByteArray×ae)} {i:Nat} {c:ByteArray×ae},(∀ j x,j<i→l[j]? =some x→¬x.1=nm)→l[i]? =some c→c.1=nm→eH nm l=some i
 |[],i,c,_,h,_=>by simp at h
 |a::r,0,c,_,h,e=>by simp at h;subst h;simp[eH,e]
 |a::r,i+1,c,h0,h,e=>by
  have h1:=h0 0 a (by omega) rfl;rw[eH,if_neg h1,xV (i:=i) (fun j x hj hx=>h0 (j+1) x (by omega) (by simpa using hx)) (by simpa using h) e];rfl
theorem vB{nm:ByteArray}:∀{l:List (ByteArray×ae)},(∀ (j:Nat) x,l[j]? =some x→¬x.1=nm)→eH nm l=none
 |[],_=>rfl
 |a::r,h0=>by
  rw[eH,if_neg (h0 0 a rfl),vB fun j x hx=>h0 (j+1) x (by simpa using hx)];rfl
theorem sO{nm:ByteArray}:∀{l:List (ByteArray×ae)} {i:Nat},eH nm l=some i→∃c,l[i]? =some c∧c.1=nm
 |[],i,h=>by cases h
 |a::r,i,h=>by
  rw[eH] at h;split at h
  ·rename_i e;cases h;exact⟨a,rfl,e⟩
  ·obtain ⟨j,hj,rfl⟩:=Option.map_eq_some_iff.1 h;obtain⟨c,h1,h2⟩:=sO hj;exact⟨c,by simpa using h1,h2⟩
def ir(nm:ByteArray)(es:List cy):Option (List ByteArray×ae):=
 let f:=bM nm es
 if f.1=0 then none else if f.1=4 then(f.2.1.d.cs[f.2.2]?).map fun c=>(f.2.1.d.ps,c.2) else if f.1=5 then some (f.2.1.rp,f.2.1.rt) else some (f.2.1.d.ps,f.2.1.d.ty)
def eh(es:List cy):Sg:=fun nm=>(ir nm es).map fun t=>t.1.length
theorem uJ{nm:ByteArray}:∀{es:List cy},(bM nm es).1≠0→(bM nm es).2.1∈es
 |[],h=>absurd rfl h
 |e::r,h=>by
  rw[bM] at h ⊢;split
  ·exact List.mem_cons_self
  ·rename_i h1;rw[if_neg h1] at h;split
   ·exact List.mem_cons_self
   ·rename_i h2;rw[h2] at h;simp only at h;split
    ·exact List.mem_cons_self
    ·rename_i h3;rw[if_neg h3] at h;exact List.mem_cons_of_mem _ (uJ h)
theorem o8{nm:ByteArray}:∀{es:List cy},(∀ e∈es,e.d.k≠4)→(bM nm es).1=4→∃c,(bM nm es).2.1.d.cs[(bM nm es).2.2]? =some c∧c.1=nm
 |[],_,h=>by cases h
 |e::r,hk,h=>by
  rw[bM] at h ⊢;split
  ·rename_i h1;rw[if_pos h1] at h;exact absurd h (hk e List.mem_cons_self)
  ·rename_i h1;rw[if_neg h1] at h;split
   ·rename_i i h2;exact sO h2
   ·rename_i h2;rw[h2] at h;simp only at h;split
    ·rename_i h3;rw[if_pos h3] at h;cases h
    ·rename_i h3;rw[if_neg h3] at h;exact o8 (fun e he=>hk e (List.mem_cons_of_mem _ he)) h
def bg:ae→Nat
 | .mk k _ _ _ [_,b]=>if k=5 then bg b+1 else 0
 |_=>0
end
section
open Go Go.Vd Go.RowKit
attribute [local irreducible] bu bA di ak bL cU
variable {g gl:Nat→List D}
theorem xh{F:ae→Int→ae}{b:Bool}{d:Int}{l:List ae}{i:Nat}{t:ae}(h:(bQ F b l d)[i]? =some t):aH ((bQ F b l d).take i)++[t.cells]=aH ((bQ F b l d).take (i+1)):=by
 rw[List.take_add_one,h,dj];rfl
theorem nB(k m:Int)(s:ByteArray)(ls:List aP)(args:List ae)(i:Int)(hb:args.length≤1099511627776):cD Tryz.prog gl 99 [(ae.mk k m s ls args).d,.v (.int .i64 i)] (· =.v (.bool (decide (4≤k)&&decide (i=(aH args).length-1)))):=by
 have hal:=aO args;refine bD Tryz.func99 Tryz.ntmps99 ?_;refine gc 12 ?_;refine' oa (yt:=14) (d:=8) 6 ?a1 ?b1 ?_
 case a1=>
  intro hc hK;refine go 4 ?_;refine gy ?_;refine o1 (iC ?_);refine go 1 ?_;exact hK [_,_,_,_,_,_] rfl rfl
 case b1=>
  intro _ hK;refine go 6 ?_;exact hK [_,_,_,_,_,_] rfl
 refine go 4 ?_;refine ez ?_;rfl
theorem jX(k m:Int)(s:ByteArray)(ls:List aP)(args bs:List ae):cD Tryz.prog gl 67 [(ae.mk k m s ls args).d,.sl 5 (aH bs)] (· =(ae.mk k m s ls bs).d):=by
 refine bD Tryz.func67 Tryz.ntmps67 ?_;refine gc 22 ?_;refine ez ?_;rfl
variable {B:Int}
theorem ik{n0:Int}(hB:B≤1125899906842624)(h0:0≤n0∧n0≤1099511627776):∀(n:Nat) (k m:Int) (s:ByteArray) (ls:List aP) (args:List ae) (fr:Int),(ae.mk k m s ls args).size≤n→iD B (.mk k m s ls args)→0≤fr→fr+(ae.mk k m s ls args).size≤1099511627776→
 cD Tryz.prog gl 55 [(ae.mk k m s ls args).d,.v (.int .i64 n0),.v (.int .i64 fr)] (· =(b0 (dK n0 0) (.mk k m s ls args) fr).d):=by
 intro n
 induction n with
 |zero=>intro k m s ls args d h;simp[ae.size] at h
 |succ n ih=>
  intro k m s ls args fr hsz hg hd0 hd1;have hsz2:=hsz;simp only[ae.size] at hsz2 hd1;have hal:=aO args;have hsa:=br args;have hml:=fB (dK n0 0) (decide (4≤k)) fr args;refine bD Tryz.func55 Tryz.ntmps55 ?_;refine gc 14 ?_;refine cj (fun h1=>?_) (fun h1=>?_)
  ·refine kc 2 [6,3,1,2] 0 ?_;obtain rfl:=h1;have hgv:=pS hg rfl;obtain⟨hm0,hm1,rfl,rfl,rfl⟩:=hgv;refine gc 7 ?_;refine cJ (fun h2=>?_) (fun h2=>?_)
   ·refine kc 2 [6,3] 8 ?_;refine ed ((ae.mk 0 m .empty [] []).d) ?_;rw[cO,dK,if_neg (by omega)]
   refine kc 0 [6,3,1] 5 ?_;refine o1 (cG ?_);refine go 7 ?_;refine ed ((ae.mk 0 (m+n0) .empty [] []).d) ?_;rw[cO,dK,if_pos (by omega)]
  refine kc 2 [6,3,1,2] 12 ?_;refine bz 39 5 rfl ?_;refine lp (ι:=Nat) (fun i=>[(8,int i),(7,.own 2 5 (aH ((bQ (dK n0 0) (decide (4≤k)) args fr).take i)))]) (fun i=>[.cells [.d (.v (.int .i64 k)),.d (.v (.int .i64 m)),.d (.v (.string s)),.d (.sl 3 (bF ls)),.d (.sl 5 (aH args))] 39,.cells [.d (.v (.int .i64 0)),.d (.v (.int .i64 0)),.d (.v (.string .empty)),.d (.v (.slice none 0 0)),.d (.v (.slice none 0 0))] 39,.row 39 5]) [6,3,1,2] (fun i=>i≤args.length) (fun i=>args.length-i) (0) ([0,1,2]) rfl ?I2 ?M2 ?H2
  case I2=>
   exact Nat.zero_le _
  case M2=>
   refine mo ?_ (aJ (ef rfl (by(rw[List.take_zero];exact Fit.nil rfl)) (aJ (aJ (aJ (aJ dC))))))
   repeat (first|exact cH|refine bj ?_|refine qx ?_)
  case H2=>
   rintro i hinv
   try dsimp only at hinv
   refine kc 0 [8,7,6,3,1,2] 10 ?_;refine cJ (fun h7=>?_) (fun h7=>?_)
   ·refine kc 6 [7,6,3] 0 ?_;obtain rfl:i=args.length:=(by omega);rw[List.take_of_length_le (by omega)];have hws:=jX (gl:=gl) k m s ls args (bQ (dK n0 0) (decide (4≤k)) args fr);refine gc 3 ?_;refine oc (cv Iu rfl rfl (hws) (bo (bo .nil)) ?_);refine go 4 ?_;refine ed ((ae.mk k m s ls (bQ (dK n0 0) (decide (4≤k)) args fr)).d) ?_;rw[b0,if_neg h1]
   refine kc 5 [8,7,6,3,1,2] 0 ?_;obtain⟨k2,m2,s2,l2,a2,hget⟩:=bK (show i<args.length by omega);have hg1:=bG hget;have hg2:=n5 (dK n0 0) (decide (4≤k)) fr hget;have hgg:=wD hg.2.1 hget;obtain⟨k3,m3,s3,l3,a3,hY⟩:=ae.case (b0 (dK n0 0) (.mk k2 m2 s2 l2 a2) (if decide (4≤k)=true∧i+1=args.length then fr+1 else fr));refine gc 10 ?_;refine oc (cv Md rfl rfl (nB k m s ls args i (by omega)) (bo (an .nil)) ?_);refine ko 2 [33,9,8,7,6,3,1,2] 0 ?_;refine xc (ι:=Unit) (fun _=>[(9,int (if decide (4≤k)=true∧i+1=args.length then fr+1 else fr))]) [8,7,6,3,1,2] (fun _=>True) rfl ?A3 ?B3
   case A3=>
    refine cJ (fun h10=>?_) (fun h10=>?_)
    ·refine gc 1 ?_;refine bi (()) rfl ?_ ?_
     ·trivial
     ·refine mo ?_ (ef rfl (by exact Fit.of_eq (by first|(rw[if_pos (by simp only[decide_eq_true_eq];omega)];rfl)|(rw[if_neg (by simp only[decide_eq_true_eq];omega)];rfl))) (aJ (aJ (aJ (aJ (aJ (aJ dC)))))))
      repeat (first|exact cH|refine bj ?_|refine cr ?_)
    refine gc 2 ?_;refine o1 (cG ?_);refine go 2 ?_;refine bi (()) rfl ?_ ?_
    ·trivial
    ·refine mo ?_ (ef rfl (by exact Fit.of_eq (by first|(rw[if_pos (by simp only[decide_eq_true_eq];omega)];rfl)|(rw[if_neg (by simp only[decide_eq_true_eq];omega)];rfl))) (aJ (aJ (aJ (aJ (aJ (aJ dC)))))))
     repeat (first|exact cH|refine bj ?_|refine cr ?_)
   case B3=>
    rintro _ hcut
    try dsimp only at hcut
    refine kp [9,8,7,6,3,1,2] ?_;have hihx:=ih k2 m2 s2 l2 a2 (if decide (4≤k)=true∧i+1=args.length then fr+1 else fr) (by omega) hgg (by split<;>omega) (by split<;>omega);rw[hY] at hihx hg2;have hnx:aH ((bQ (dK n0 0) (decide (4≤k)) args fr).take i)++[[.v (.int .i64 k3),.v (.int .i64 m3),.v (.string s3),.sl 3 (bF l3),.sl 5 (aH a3)]]=aH ((bQ (dK n0 0) (decide (4≤k)) args fr).take (i+1)):=xh hg2;have htl:=aO ((bQ (dK n0 0) (decide (4≤k)) args fr).take i);have htk:=List.length_take (i:=i) (l:=bQ (dK n0 0) (decide (4≤k)) args fr);refine gc 5 ?_;refine o1 (cu bB bH ?_ (he:=by exact(bW hget)));refine go 3 ?_;refine oc (cv Ds rfl rfl (hihx) (bo (an (an .nil))) ?_);refine oc (gD dE [.tmp 44] bw ?_);refine oc (px dE ?_);refine ko 4 [7,8,6,3,1,2] 2 ?_;refine o1 (cG ?_);refine go 2 ?_;rw[hnx];refine bk (i+1) rfl ?_ [0,1,2] mz;exact⟨by omega,by omega⟩
theorem yz(hB:B≤1125899906842624)(kv nv:Int)(sv:ByteArray)(lv:List aP)(av:List ae)(hgv':iD B (.mk kv nv sv lv av))(hsv:(ae.mk kv nv sv lv av).size≤1099511627776):∀(n:Nat) (k m:Int) (s:ByteArray) (ls:List aP) (args:List ae) (fr:Int),(ae.mk k m s ls args).size≤n→iD B (.mk k m s ls args)→0≤fr→fr+(ae.mk k m s ls args).size≤1099511627776→
 cD Tryz.prog gl 121 [(ae.mk k m s ls args).d,(ae.mk kv nv sv lv av).d,.v (.int .i64 fr)] (· =(b0 (de (.mk kv nv sv lv av)) (.mk k m s ls args) fr).d):=by
 intro n
 induction n with
 |zero=>intro k m s ls args d h;simp[ae.size] at h
 |succ n ih=>
  intro k m s ls args fr hsz hg hd0 hd1;have hsz2:=hsz;simp only[ae.size] at hsz2 hd1;have hal:=aO args;have hsa:=br args;have hml:=fB (de (.mk kv nv sv lv av)) (decide (4≤k)) fr args;refine bD Tryz.func121 Tryz.ntmps121 ?_;refine gc 15 ?_;refine cj (fun h1=>?_) (fun h1=>?_)
  ·refine kc 2 [6,4,3,2] 0 ?_;obtain rfl:=h1;have hgv:=pS hg rfl;obtain⟨hm0,hm1,rfl,rfl,rfl⟩:=hgv;have hli:=ik (gl:=gl) (n0:=fr) hB ⟨hd0,by omega⟩ _ kv nv sv lv av 0 (Nat.le_refl _) hgv' (Int.le_refl _) (by omega);rw[← dY] at hli;obtain⟨k1,m1,s1,l1,a1,hX⟩:=ae.case (dz (.mk kv nv sv lv av) fr 0)
   rw[hX] at hli;refine gc 7 ?_;refine cj (fun h2=>?_) (fun h2=>?_)
   ·refine kc 0 [6,4,2] 4 ?_;refine oc (cv Ds rfl rfl (hli) (bo (an (an .nil))) ?_);refine go 6 ?_;refine ed ((ae.mk k1 m1 s1 l1 a1).d) ?_;rw[cO,de,if_neg (by omega),if_pos (by omega),hX]
   refine kc 3 [6,3,2] 8 ?_;refine cJ (fun h4=>?_) (fun h4=>?_)
   ·refine kc 2 [6,3] 8 ?_;refine ed ((ae.mk 0 m .empty [] []).d) ?_;rw[cO,de,if_pos (by omega)]
   refine kc 0 [6,3] 4 ?_;refine o1 (iC ?_);refine go 7 ?_;refine ed ((ae.mk 0 (m-1) .empty [] []).d) ?_;rw[cO,de,if_neg (by omega),if_neg (by omega)]
  refine kc 2 [6,4,3,2] 12 ?_;refine bz 39 5 rfl ?_;refine lp (ι:=Nat) (fun i=>[(8,int i),(7,.own 3 5 (aH ((bQ (de (.mk kv nv sv lv av)) (decide (4≤k)) args fr).take i)))]) (fun i=>[.cells [.d (.v (.int .i64 k)),.d (.v (.int .i64 m)),.d (.v (.string s)),.d (.sl 3 (bF ls)),.d (.sl 5 (aH args))] 39,.cells [.d (.v (.int .i64 kv)),.d (.v (.int .i64 nv)),.d (.v (.string sv)),.d (.sl 3 (bF lv)),.d (.sl 5 (aH av))] 39,.cells [.d (.v (.int .i64 0)),.d (.v (.int .i64 0)),.d (.v (.string .empty)),.d (.v (.slice none 0 0)),.d (.v (.slice none 0 0))] 39,.row 39 5]) [6,4,3,2] (fun i=>i≤args.length) (fun i=>args.length-i) (0) ([0,1,2,3]) rfl ?I4 ?M4 ?H4
  case I4=>
   exact Nat.zero_le _
  case M4=>
   refine mo ?_ (aJ (ef rfl (by(rw[List.take_zero];exact Fit.nil rfl)) (aJ (aJ (aJ (aJ dC))))))
   repeat (first|exact cH|refine bj ?_|refine qx ?_)
  case H4=>
   rintro i hinv
   try dsimp only at hinv
   refine kc 0 [8,7,6,4,3,2] 10 ?_;refine cJ (fun h9=>?_) (fun h9=>?_)
   ·refine kc 6 [7,6,3] 0 ?_;obtain rfl:i=args.length:=(by omega);rw[List.take_of_length_le (by omega)];have hws:=jX (gl:=gl) k m s ls args (bQ (de (.mk kv nv sv lv av)) (decide (4≤k)) args fr);refine gc 3 ?_;refine oc (cv Iu rfl rfl (hws) (bo (bo .nil)) ?_);refine go 4 ?_;refine ed ((ae.mk k m s ls (bQ (de (.mk kv nv sv lv av)) (decide (4≤k)) args fr)).d) ?_;rw[b0,if_neg h1]
   refine kc 5 [8,7,6,4,3,2] 0 ?_;obtain⟨k2,m2,s2,l2,a2,hget⟩:=bK (show i<args.length by omega);have hg1:=bG hget;have hg2:=n5 (de (.mk kv nv sv lv av)) (decide (4≤k)) fr hget;have hgg:=wD hg.2.1 hget;obtain⟨k3,m3,s3,l3,a3,hY⟩:=ae.case (b0 (de (.mk kv nv sv lv av)) (.mk k2 m2 s2 l2 a2) (if decide (4≤k)=true∧i+1=args.length then fr+1 else fr));refine gc 10 ?_;refine oc (cv Md rfl rfl (nB k m s ls args i (by omega)) (bo (an .nil)) ?_);refine ko 2 [39,9,8,7,6,4,3,2] 0 ?_;refine xc (ι:=Unit) (fun _=>[(9,int (if decide (4≤k)=true∧i+1=args.length then fr+1 else fr))]) [8,7,6,4,3,2] (fun _=>True) rfl ?A5 ?B5
   case A5=>
    refine cJ (fun h12=>?_) (fun h12=>?_)
    ·refine gc 1 ?_;refine bi (()) rfl ?_ ?_
     ·trivial
     ·refine mo ?_ (ef rfl (by exact Fit.of_eq (by first|(rw[if_pos (by simp only[decide_eq_true_eq];omega)];rfl)|(rw[if_neg (by simp only[decide_eq_true_eq];omega)];rfl))) (aJ (aJ (aJ (aJ (aJ (aJ dC)))))))
      repeat (first|exact cH|refine bj ?_|refine cr ?_)
    refine gc 2 ?_;refine o1 (cG ?_);refine go 2 ?_;refine bi (()) rfl ?_ ?_
    ·trivial
    ·refine mo ?_ (ef rfl (by exact Fit.of_eq (by first|(rw[if_pos (by simp only[decide_eq_true_eq];omega)];rfl)|(rw[if_neg (by simp only[decide_eq_true_eq];omega)];rfl))) (aJ (aJ (aJ (aJ (aJ (aJ dC)))))))
     repeat (first|exact cH|refine bj ?_|refine cr ?_)
   case B5=>
    rintro _ hcut
    try dsimp only at hcut
    refine kp [9,8,7,6,4,3,2] ?_;have hihx:=ih k2 m2 s2 l2 a2 (if decide (4≤k)=true∧i+1=args.length then fr+1 else fr) (by omega) hgg (by split<;>omega) (by split<;>omega);rw[hY] at hihx hg2;have hnx:aH ((bQ (de (.mk kv nv sv lv av)) (decide (4≤k)) args fr).take i)++[[.v (.int .i64 k3),.v (.int .i64 m3),.v (.string s3),.sl 3 (bF l3),.sl 5 (aH a3)]]=aH ((bQ (de (.mk kv nv sv lv av)) (decide (4≤k)) args fr).take (i+1)):=xh hg2;have htl:=aO ((bQ (de (.mk kv nv sv lv av)) (decide (4≤k)) args fr).take i);have htk:=List.length_take (i:=i) (l:=bQ (de (.mk kv nv sv lv av)) (decide (4≤k)) args fr);refine gz [0,1,2,3] mixed ?_;refine A1 4 rfl (cu bB bH ⟨_,rfl,?_⟩ (he:=by exact(bW hget)));refine ga [5,6,7] ?_;refine A2 8 rfl (cv Nd rfl rfl (hihx) (bo (bo (an .nil))) ?_);refine A2 9 rfl (gD dE [.tmp 50] bw ?_);refine A2 10 rfl (px dE ?_);refine ga [11] ?_;refine aZ ?_;refine ke 2 [7,8,6,4,3,2] 2 ?_;refine o1 (cG ?_);refine go 2 ?_;rw[hnx];refine bk (i+1) rfl ?_ [0,1,2,3] mz;exact⟨by omega,by omega⟩
theorem qe(hB:B≤1125899906842624)(kv nv:Int)(sv:ByteArray)(lv:List aP)(av:List ae)(hgv:iD B (.mk kv nv sv lv av))(hsv:(ae.mk kv nv sv lv av).size≤1099511627776)(k m:Int)(s:ByteArray)(ls:List aP)(args:List ae)(hg:iD B (.mk k m s ls args))(hsz:(ae.mk k m s ls args).size≤1099511627776):
 cD Tryz.prog gl 82 [(ae.mk k m s ls args).d,(ae.mk kv nv sv lv av).d] (· =(dp (.mk k m s ls args) (.mk kv nv sv lv av)).d):=by
 have hc:=yz (gl:=gl) hB kv nv sv lv av hgv hsv _ k m s ls args 0 (Nat.le_refl _) hg (Int.le_refl _) (by omega);rw[dp];obtain⟨k1,m1,s1,l1,a1,hX⟩:=ae.case (b0 (de (.mk kv nv sv lv av)) (.mk k m s ls args) 0)
 rw[hX] at hc ⊢;refine bD Tryz.func82 Tryz.ntmps82 ?_;refine gc 11 ?_;refine oc (cv Nd rfl rfl (hc) (bo (bo (an .nil))) ?_);refine go 4 ?_;refine ez ?_;rfl
end
section
open Go Go.Vd Go.RowKit
attribute [local irreducible] bu bA di ak bL cU
variable {g gl:Nat→List D}
theorem qX(n:Int):cD Tryz.prog gl 83 [.v (.int .i64 n)] (· =(ae.mk 0 n .empty [] []).d):=by
 refine bD Tryz.func83 Tryz.ntmps83 ?_;refine gc 13 ?_;refine ed ((ae.mk 0 n .empty [] []).d) ?_;rfl
theorem jt(k:Int)(s:ByteArray)(args:List aP):cD Tryz.prog gl 57 [(aP.mk k s args).d] (· =(ae.mk 1 0 .empty [.mk k s args] []).d):=by
 refine bD Tryz.func57 Tryz.ntmps57 ?_;refine gc 9 ?_;refine oc (gD ji [.tmp 3] eL ?_);refine go 5 ?_;refine ed ((ae.mk 1 0 .empty [.mk k s args] []).d) ?_;rfl
theorem tD(k m:Int)(s:ByteArray)(ls:List aP)(args:List ae)(k2 m2:Int)(s2:ByteArray)(ls2:List aP)(args2:List ae):cD Tryz.prog gl 62 [(ae.mk k m s ls args).d,(ae.mk k2 m2 s2 ls2 args2).d] (· =(ae.mk 5 0 .empty [] [.mk k m s ls args,.mk k2 m2 s2 ls2 args2]).d):=by
 refine bD Tryz.func62 Tryz.ntmps62 ?_;refine gc 11 ?_;refine oc (gD dE [.tmp 5,.tmp 6] bw ?_);refine go 5 ?_;refine ed ((ae.mk 5 0 .empty [] [.mk k m s ls args,.mk k2 m2 s2 ls2 args2]).d) ?_;rfl
theorem Hv(k m:Int)(s:ByteArray)(ls:List aP)(args:List ae)(k2 m2:Int)(s2:ByteArray)(ls2:List aP)(args2:List ae):cD Tryz.prog gl 151 [(ae.mk k m s ls args).d,(ae.mk k2 m2 s2 ls2 args2).d] (· =(ae.mk 4 0 .empty [] [.mk k m s ls args,.mk k2 m2 s2 ls2 args2]).d):=by
 refine bD Tryz.func151 Tryz.ntmps151 ?_;refine gc 11 ?_;refine oc (gD dE [.tmp 5,.tmp 6] bw ?_);refine go 5 ?_;refine ed ((ae.mk 4 0 .empty [] [.mk k m s ls args,.mk k2 m2 s2 ls2 args2]).d) ?_;rfl
theorem dt(k m:Int)(s:ByteArray)(ls:List aP)(args:List ae)(k2 m2:Int)(s2:ByteArray)(ls2:List aP)(args2:List ae):cD Tryz.prog gl 66 [(ae.mk k m s ls args).d,(ae.mk k2 m2 s2 ls2 args2).d] (· =(ae.mk 3 0 .empty [] [.mk k m s ls args,.mk k2 m2 s2 ls2 args2]).d):=by
 refine bD Tryz.func66 Tryz.ntmps66 ?_;refine gc 11 ?_;refine oc (gD dE [.tmp 5,.tmp 6] bw ?_);refine go 5 ?_;refine ed ((ae.mk 3 0 .empty [] [.mk k m s ls args,.mk k2 m2 s2 ls2 args2]).d) ?_;rfl
theorem y4(l:List ByteArray)(i:Nat):(strs l).take ((i:Nat):Int).toNat=strs (l.take i):=by simp[strs,List.map_take]
theorem xd{l:List ByteArray}{i:Nat}(hi:i<l.length)(h:(l.take i).Nodup)(hm:vL l[i] (l.take i)=false):(l.take (i+1)).Nodup:=by
 rw[List.take_add_one,List.getElem?_eq_getElem hi,List.nodup_append];refine⟨h,by simp,fun x hx y hy e=>?_⟩;simp at hy;subst hy e;rw[iP.2 hx] at hm;cases hm
theorem wi(l:List ByteArray)(hb:l.length≤1099511627776):cD Tryz.prog gl 161 [eA l] fun d=> ∃b:Bool,d=.v (.bool b)∧(b=false→l.length≤6∧l.Nodup):=by
 have hlen:=cQ l;refine bD Tryz.func161 Tryz.ntmps161 ?_;refine kc 12 [3,0] 0 ?_;refine lP (ι:=Nat) (fun i=>[(3,int i)]) [0] (fun i=>i≤l.length∧(l.take i).Nodup) (fun i=>l.length-i) (0) rfl ?I1 ?M1 ?H1
 case I1=>
  exact⟨Nat.zero_le _,by simp⟩
 case M1=>
  exact mz
 case H1=>
  rintro i hinv
  try dsimp only at hinv
  refine kc 0 [3,0] 9 ?_;refine cJ (fun h2=>?_) (fun h2=>?_)
  ·refine kc 5 [0] 9 ?_;refine ez ?_;have h9:=hinv.2;rw[List.take_of_length_le (by omega)] at h9;exact⟨_,rfl,fun h=>⟨by simp only[decide_eq_false_iff_not] at h;omega,h9⟩⟩
  refine kc 5 [3,0] 0 ?_;have hst:=y4 l i;refine gz [0,1] mixed ?_;refine A1 2 rfl (cu pN ue ⟨_,rfl,?_⟩ (he:=by exact(kj (by omega))));refine ga [3,4,5] ?_;refine A1 6 rfl (fD pN ue rfl rfl rfl rfl rfl rfl (by omega) (hst) ⟨_,rfl,?_⟩);refine A2 7 rfl (cv Ad rfl rfl (jx (l[i]'(by omega)) (l.take i) (by rw[List.length_take];omega)) (an (an .nil)) ?_);refine ga [8] ?_;refine aZ ?_;refine ke 1 [4,3,0] 5 ?_;refine cj (fun h5=>?_) (fun h5=>?_)
  ·refine kc 0 [] 11 ?_;refine ez ?_;exact⟨true,rfl,fun h=>by cases h⟩
  refine gc 5 ?_;refine o1 (cG ?_);refine go 2 ?_;refine bi (i+1) rfl ?_ mz;exact⟨⟨by omega,xd (by omega) hinv.2 h5⟩,by omega⟩
end
end Go.Proofs.YtndbnldjidciiaaGreatDoor
namespace Go.Vd
open Go Go.RowKit
theorem eC.fU:∀(l:eC) {ah:List ByteArray},ah.Nodup→(l.params ah).Nodup
 | .zero,_,h=>h
 | .succ a,_,h=>a.fU h
 | .max a b,_,h=>b.fU (a.fU h)
 | .imax a b,_,h=>b.fU (a.fU h)
 | .param s,ah,h=>by
  simp only[eC.params];split
  ·exact h
  ·rename_i h2;rw[List.nodup_append];refine⟨h,by simp,fun x hx y hy e=>?_⟩;simp at hy;subst hy e;exact h2 (iP.2 hx)
theorem eC.jn:∀(l:eC) {ah:List ByteArray} {p:ByteArray},p∈l.params ah→p∈ah∨l.has p
 | .zero,_,_,h=>.inl h
 | .succ a,_,_,h=>a.jn h
 | .max a b,_,_,h=>(b.jn h).elim (fun h=>(a.jn h).imp (fun h=>h) .inl) (fun h=>.inr (.inr h))
 | .imax a b,_,_,h=>(b.jn h).elim (fun h=>(a.jn h).imp (fun h=>h) .inl) (fun h=>.inr (.inr h))
 | .param s,ah,p,h=>by
  simp only[eC.params] at h;split at h
  ·exact .inl h
  ·rcases List.mem_append.1 h with h|h
   ·exact .inl h
   ·simp at h;exact .inr h
end Go.Vd
namespace Go.Proofs.YtndbnldjidciiaaGreatDoor
section
open Go Go.Vd Go.RowKit
attribute [local irreducible] bu bA di ak bL cU
variable {g gl:Nat→List D}
variable {B:Int}
theorem D4{k n:Int}{s:ByteArray}{ls:List aP}{args:List ae}(h:iD B (.mk k n s ls args))(hk:k=3∨k=4∨k=5):∃k1 n1 s1 l1 a1 k2 n2 s2 l2 a2,args=[.mk k1 n1 s1 l1 a1,.mk k2 n2 s2 l2 a2]∧iD B (.mk k1 n1 s1 l1 a1)∧iD B (.mk k2 n2 s2 l2 a2):=by
 rcases h.2.2 with h2|h2|h2|h2|h2
 ·omega
 ·omega
 ·omega
 ·obtain ⟨_,hn,hs,hl,ha⟩:=h2
  match args,ha with
  |[⟨k1,n1,s1,l1,a1⟩,⟨k2,n2,s2,l2,a2⟩],_=>exact⟨_,_,_,_,_,_,_,_,_,_,rfl,h.2.1.1,h.2.1.2.1⟩
 ·omega
theorem dT:∀(n:Nat) (t:ae),t.size≤n→bg t<t.size+1:=by
 intro n
 induction n with
 |zero=>intro t h;obtain⟨k,m,s,ls,args,rfl⟩:=ae.case t;simp[ae.size] at h
 |succ n ih=>
  intro t h
  match t with
  | .mk k m s ls [a,b]=>
   rw[bg];simp only[ae.size,aj] at h ⊢;have:=ih b (by omega);split<;>omega
  | .mk k m s ls []=>simp[bg]
  | .mk k m s ls [a]=>simp[bg]
  | .mk k m s ls (a::b::c::r)=>simp[bg]
theorem iK(k m:Int)(s:ByteArray)(ls:List aP)(args:List ae)(hs:iD B (.mk k m s ls args))(hz:(ae.mk k m s ls args).size≤1099511627776):cD Tryz.prog gl 122 [(ae.mk k m s ls args).d] (· =.v (.int .i64 (bg (.mk k m s ls args)))):=by
 have hp:=dT _ (.mk k m s ls args) (Nat.le_refl _);generalize hr:bg (.mk k m s ls args)=r at hp ⊢;have hr2:=hr;refine bD Tryz.func122 Tryz.ntmps122 ?_;refine kc 13 [3,1] 0 ?_;refine lp (ι:=Nat×Int×Int×ByteArray×List aP×List ae) (fun⟨i,k',m',s',ls',args'⟩=>[(3,int i)]) (fun⟨i,k',m',s',ls',args'⟩=>[.cells [.d (.v (.int .i64 k')),.d (.v (.int .i64 m')),.d (.v (.string s')),.d (.sl 3 (bF ls')),.d (.sl 5 (aH args'))] 39]) [1] (fun⟨i,k',m',s',ls',args'⟩=>r=i+bg (.mk k' m' s' ls' args')∧iD B (.mk k' m' s' ls' args')) (fun⟨i,k',m',s',ls',args'⟩=>(ae.mk k' m' s' ls' args').size) ((0,k,m,s,ls,args)) ([0]) rfl ?I1 ?M1 ?H1
 case I1=>
  exact⟨by rw[Nat.zero_add];exact hr.symm,hs⟩
 case M1=>
  exact mz
 case H1=>
  rintro⟨i,k',m',s',ls',args'⟩ hinv
  try dsimp only at hinv
  refine kc 0 [3,1] 8 ?_;refine cJ (fun h2=>?_) (fun h2=>?_)
  ·refine kc 5 [3] 7 ?_;refine ez ?_;have hp1:=hinv.1;have:bg (.mk k' m' s' ls' args')=0:=(by match args' with|[a,b]=>(rw[bg,if_neg h2])|[]=>rfl|[a]=>rfl|a::b::c::r=>rfl);rw[this] at hp1;rw[hp1];rfl
  refine gc 4 ?_;obtain⟨k1,m1,s1,l1,a1,k2,m2,s2,l2,a2,rfl,hs1,hs2⟩:=D4 hinv.2 (.inr (.inr h2));have hp1:=hinv.1;rw[bg,if_pos h2] at hp1;refine gc 2 ?_;refine o1 (cG ?_);refine ko 3 [3,1] 3 ?_;refine o1 (cu bB bH ?_ (he:=by exact(rfl)));refine go 4 ?_;refine bk (i+1,k2,m2,s2,l2,a2) rfl ?_ [0] mz;exact⟨⟨by rw[hinv.1,bg,if_pos h2];omega,hs2⟩,by simp only[ae.size,aj];omega⟩
def er:Nat→ae→ae
 |0,t=>t
 |n+1,.mk k m s ls [a,b]=>er n b
 |n+1,t=>t
theorem tL(n:Nat)(k m:Int)(s:ByteArray)(ls:List aP)(args:List ae)(hs:iD B (.mk k m s ls args))(hn:n≤bg (.mk k m s ls args))(hz:(ae.mk k m s ls args).size≤1099511627776):cD Tryz.prog gl 162 [(ae.mk k m s ls args).d,.v (.int .i64 n)] (· =(er n (.mk k m s ls args)).d):=by
 have hp:=dT _ (.mk k m s ls args) (Nat.le_refl _);obtain⟨kR,mR,sR,lR,aR,hR⟩:=ae.case (er n (.mk k m s ls args))
 rw[hR];refine bD Tryz.func162 Tryz.ntmps162 ?_;refine kc 13 [5,4,2,1] 0 ?_;refine lp (ι:=Nat×Int×Int×ByteArray×List aP×List ae) (fun⟨i,k',m',s',ls',args'⟩=>[(5,int i)]) (fun⟨i,k',m',s',ls',args'⟩=>[.cells [.d (.v (.int .i64 k')),.d (.v (.int .i64 m')),.d (.v (.string s')),.d (.sl 3 (bF ls')),.d (.sl 5 (aH args'))] 39,.cells [.d (.v (.int .i64 0)),.d (.v (.int .i64 0)),.d (.v (.string .empty)),.d (.v (.slice none 0 0)),.d (.v (.slice none 0 0))] 39]) [4,2,1] (fun⟨i,k',m',s',ls',args'⟩=>i≤n∧n-i≤bg (.mk k' m' s' ls' args')∧er (n-i) (.mk k' m' s' ls' args')=.mk kR mR sR lR aR∧iD B (.mk k' m' s' ls' args')) (fun⟨i,k',m',s',ls',args'⟩=>n-i) ((0,k,m,s,ls,args)) ([0,1]) rfl ?I2 ?M2 ?H2
 case I2=>
  exact⟨Nat.zero_le _,hn,hR,hs⟩
 case M2=>
  exact mz
 case H2=>
  rintro⟨i,k',m',s',ls',args'⟩ hinv
  try dsimp only at hinv
  refine kc 0 [5,4,2,1] 8 ?_;refine cJ (fun h2=>?_) (fun h2=>?_)
  ·refine kc 6 [4,2] 0 ?_;have h9:=hinv.2.2.1;rw[show n-i=0 by omega] at h9;simp only[er,ae.mk.injEq] at h9;obtain⟨rfl,rfl,rfl,rfl,rfl⟩:=h9;refine gc 6 ?_;refine ez ?_;rfl
  refine gc 4 ?_;have hk5:k'=5:=Classical.byContradiction fun h=>by
   have:bg (.mk k' m' s' ls' args')=0:=(by match args' with|[a,b]=>(rw[bg,if_neg h])|[]=>rfl|[a]=>rfl|a::b::c::r=>rfl);omega
  obtain⟨k1,m1,s1,l1,a1,k2,m2,s2,l2,a2,rfl,hs1,hs2⟩:=D4 hinv.2.2.2 (.inr (.inr hk5));have hE:=hinv.2.2.1;have hp1:=hinv.2.1;rw[bg,if_pos hk5] at hp1;refine gc 3 ?_;refine o1 (cu bB bH ?_ (he:=by exact(rfl)));refine ko 5 [5,4,2,1] 2 ?_;refine o1 (cG ?_);refine go 2 ?_;refine bk (i+1,k2,m2,s2,l2,a2) rfl ?_ [0,1] mz;exact⟨⟨by omega,by omega,by rw[← hE,show n-i=(n-(i+1))+1 by omega];rfl,hs2⟩,show n-(i+1)<n-i by omega⟩
theorem jB(ctx:List ae)(k m:Int)(s:ByteArray)(ls:List aP)(args:List ae)(hb:ctx.length≤1099511627776):cD Tryz.prog gl 61 [.sl 5 (aH ctx),(ae.mk k m s ls args).d] (· =.sl 5 (aH (ctx++[.mk k m s ls args]))):=by
 have hlen:=aO ctx;refine bD Tryz.func61 Tryz.ntmps61 ?_;refine gc 15 ?_;refine oc (T:=fun _=>False) (iL dE rfl rfl rfl rfl rfl rfl (by simp only[List.length_cons,List.length_nil,Nat.reduceAdd];rfl) rfl rfl (by decide) (by first|decide|(simp only[maxLen,List.length_cons,List.length_nil,List.length_append,List.length_map];omega)|omega) rfl rfl rfl ?_);refine ko 3 [5,3] 4 ?_;refine oc (gD dE [.tmp 10] bw ?_);refine oc (px dE ?_);refine go 4 ?_;refine ez ?_;rw[dj];rfl
theorem rE(x:eC)(ps:List ByteArray)(hb:x.size≤1099511627776)(hp:ps.length≤1099511627776):cD Tryz.prog gl 56 [x.cC.d,eA ps] fun d=> ∃b:Bool,d=.v (.bool b)∧(b=true→∀p,x.has p→p∈ps):=by
 have hsz:=x.fS;have hpl:=x.fc [];have hplen:=x.cC.wS [];obtain⟨k,s,args,hX⟩:=aP.case x.cC
 rw[hX] at hsz hpl hplen;rw[hX];have hq:=Ch (gl:=gl) _ k s args [] (Nat.le_refl _) (by simp;omega);rw[hpl] at hq hplen;simp only[List.length_nil,Nat.zero_add] at hplen;have hsl:=cQ (x.params []);refine bD Tryz.func56 Tryz.ntmps56 ?_;refine gc 7 ?_;refine bz 9 1 rfl ?_;refine gc 2 ?_;refine oc (ck Dw rfl rfl (hq) [1] rfl (qx .nil) (bo (.cons (.nil rfl) .nil)) ?_);refine ko 4 [5,1] 6 ?_;refine lP (ι:=Nat) (fun i=>[(6,int i)]) [5,1] (fun i=>i≤(x.params []).length∧∀p∈(x.params []).take i,p∈ps) (fun i=>(x.params []).length-i) (0) rfl ?I3 ?M3 ?H3
 case I3=>
  exact⟨Nat.zero_le _,by simp⟩
 case M3=>
  exact mz
 case H3=>
  rintro i hinv
  try dsimp only at hinv
  refine kc 0 [6,5,1] 9 ?_;refine cJ (fun h3=>?_) (fun h3=>?_)
  ·refine kc 5 [] 6 ?_;refine ez ?_;have h9:=hinv.2;rw[List.take_of_length_le (by omega)] at h9;exact⟨true,rfl,fun _ p hp=>h9 p (x.jv hp)⟩
  refine kc 4 [6,5,1] 4 ?_;refine o1 (F9 pN ue ?_ (he:=by exact(kj (by omega))));refine go 2 ?_;refine oc (cv Ad rfl rfl (jx ((x.params [])[i]'(by omega)) ps (by omega)) (an (an .nil)) ?_);refine ko 3 [7,6,5,1] 6 ?_;refine cj (fun h6=>?_) (fun h6=>?_)
  ·refine kc 0 [] 11 ?_;refine ez ?_;exact⟨false,rfl,fun h=>by cases h⟩
  refine gc 5 ?_;refine o1 (cG ?_);refine go 2 ?_;refine bi (i+1) rfl ?_ mz
  ·refine ⟨⟨by omega,fun p hp=>?_⟩,by omega⟩;rw[List.take_add_one,List.getElem?_eq_getElem (by omega)] at hp;rcases List.mem_append.1 hp with hp|hp
   ·exact hinv.2 p hp
   ·simp at hp;subst hp;exact iP.1 h6
end
section
open Go Go.Vd Go.RowKit
attribute [local irreducible] bu bA di ak bL cU
variable {g gl:Nat→List D}
def bc(es:List cy)(w:Bool):Ob:=.cells [.own 1 21 (pJ es),.d (.v (.bool w))] 47
def tO(k m:Int)(s:ByteArray)(ls:List aP)(args:List ae):Ob:=.cells [.d (.v (.int .i64 k)),.d (.v (.int .i64 m)),.d (.v (.string s)),.d (.sl 3 (bF ls)),.d (.sl 5 (aH args))] 39
def zO:Ob:=.cells [.d (.v (.int .i64 0)),.d (.v (.int .i64 0)),.d (.v (.string .empty)),.d (.v (.slice none 0 0)),.d (.v (.slice none 0 0))] 39
def tR:Ob:=.row 39 5
def ba:Ob:=.row 63 21
def QC(es:List cy):Prop:=es.length≤1099511627776∧∀e∈es,e.d.cs.length≤1099511627776∧e.d.nm.size≤1099511627776
variable {nm:ByteArray} {es:List cy} {i:Nat} {e:cy}
theorem HP(hg:es[i]? =some e)(h:e.d.nm=nm):bM nm (es.drop i)=(e.d.k,e,0):=by
 rw[drop_cons hg,bM,if_pos h]
theorem Kg{j:Nat}(hg:es[i]? =some e)(h:¬e.d.nm=nm)(hi:eH nm e.d.cs=some j):bM nm (es.drop i)=(4,e,j):=by
 rw[drop_cons hg,bM,if_neg h,hi]
theorem E3(hg:es[i]? =some e)(h:¬e.d.nm=nm)(hi:eH nm e.d.cs=none)(hr:e.d.k=3∧e.d.nm++wK=nm):bM nm (es.drop i)=(5,e,0):=by
 rw[drop_cons hg,bM,if_neg h,hi];exact if_pos hr
theorem E4(hg:es[i]? =some e)(h:¬e.d.nm=nm)(hi:eH nm e.d.cs=none)(hr:¬(e.d.k=3∧e.d.nm++wK=nm)):bM nm (es.drop i)=bM nm (es.drop (i+1)):=by
 rw[drop_cons hg,bM,if_neg h,hi];exact if_neg hr
theorem find_spec(es:List cy)(w:Bool)(nm:ByteArray)(hE:QC es):
 et Tryz.prog gl 47 [bc es w,ba] [.cb 0 0,.d (.v (.string nm))] fun out ob'=>out=.ret (.d (.bZ [.v (.int .i64 (bM nm es).1),(bM nm es).2.1.dd,.v (.int .i64 (bM nm es).2.2)]))∧ob'=[bc es w,ba]:=by
 have hlen:=tK es;have hb:=hE.1;rcases hF:bM nm es with⟨kf,⟨⟨kd,sd,pd,⟨k1,n1,s1,l1,a1⟩,⟨k2,n2,s2,l2,a2⟩,ad,cd'⟩,rpd,⟨k3,n3,s3,l3,a3⟩⟩,jf⟩;refine bS Tryz.func47 Tryz.ntmps47 2 ?_;refine kc 14 [7,5,0,1] 0 ?_;refine lp (ι:=Nat) (fun i=>[(7,int i)]) (fun i=>[bc es w,ba,.cells [.d (.v (.int .i64 0)),.d (.v (.string .empty)),.d (.v (.slice none 0 0)),.d (.v (.int .i64 0)),.d (.v (.int .i64 0)),.d (.v (.string .empty)),.d (.v (.slice none 0 0)),.d (.v (.slice none 0 0)),.d (.v (.int .i64 0)),.d (.v (.int .i64 0)),.d (.v (.string .empty)),.d (.v (.slice none 0 0)),.d (.v (.slice none 0 0)),.d (.v (.int .i64 0)),.d (.v (.slice none 0 0)),.d (.v (.slice none 0 0)),.d (.v (.int .i64 0)),.d (.v (.int .i64 0)),.d (.v (.string .empty)),.d (.v (.slice none 0 0)),.d (.v (.slice none 0 0))] 63]) [5,0,1] (fun i=>i≤es.length∧bM nm es=bM nm (es.drop i)) (fun i=>es.length-i) (0) ([0,1,2]) rfl ?I2 ?M2 ?H2
 case I2=>
  exact⟨Nat.zero_le _,rfl⟩
 case M2=>
  exact mz
 case H2=>
  rintro i hinv
  try dsimp only at hinv
  refine kc 0 [7,5,0,1] 12 ?_;refine cJ (fun h2=>?_) (fun h2=>?_)
  ·refine kc 6 [5] 0 ?_;rw[hinv.2,List.drop_of_length_le (by omega)] at hF;simp only[bM,Am,Mv,aQ,Prod.mk.injEq,cy.mk.injEq,dP.mk.injEq,ae.mk.injEq,dP.k] at hF;obtain⟨rfl,⟨⟨rfl,rfl,rfl,⟨rfl,rfl,rfl,rfl,rfl⟩,⟨rfl,rfl,rfl,rfl,rfl⟩,rfl,rfl⟩,rfl,rfl,rfl,rfl,rfl,rfl⟩,rfl⟩:=hF;refine gc 8 ?_;refine eo (.bZ [.v (.int .i64 0),Am.dd,.v (.int .i64 0)]) [0,1] [bc es w,ba] ?_
   ·exact ⟨rfl,rfl⟩
  refine kc 5 [7,5,0,1] 0 ?_;obtain⟨ek,en,ep,ek1,en1,es1,el1,ea1,ek2,en2,es2,el2,ea2,ea,ec,erp,ek3,en3,es3,el3,ea3,hget⟩:=Gv (show i<es.length by omega);have hcl:=iU ec;have hcb:ec.length≤1099511627776∧en.size≤1099511627776:=hE.2 _ (List.mem_of_getElem? hget);refine gc 6 ?_;refine o1 (F9 Bw DV ?_ (he:=by exact(sN hget)));refine ko 7 [8,7,5,0,1] 8 ?_;refine cj (fun h5=>?_) (fun h5=>?_)
  ·refine kc 1 [8,7,5,0] 0 ?_;rw[hinv.2,HP hget h5] at hF;simp only[Prod.mk.injEq,cy.mk.injEq,dP.mk.injEq,ae.mk.injEq,dP.k] at hF;obtain⟨rfl,⟨⟨rfl,rfl,rfl,⟨rfl,rfl,rfl,rfl,rfl⟩,⟨rfl,rfl,rfl,rfl,rfl⟩,rfl,rfl⟩,rfl,rfl,rfl,rfl,rfl,rfl⟩,rfl⟩:=hF;refine gz [0,1,2,3,4,5,6] mixed ?_;refine A1 7 rfl (F9 Bw DV ⟨_,rfl,?_⟩ (he:=by exact(sN hget)));refine ga [8,9] ?_;refine A2 10 rfl (dN DU ?_);refine ga [11] ?_;refine aZ ?_;refine ge 8 ?_;refine sZ [0,1] [bc es w,ba] ?_
   ·exact ⟨rfl,rfl⟩
  refine kc 4 [8,7,5,0,1] 0 ?_;have houter:=hinv;refine gc 5 ?_;refine lP (ι:=Nat) (fun j=>[(9,int j)]) [8,7,5,0,1] (fun j=>j≤ec.length∧∀q x,q<j→ec[q]? =some x→¬x.1=nm) (fun j=>ec.length-j) (0) rfl ?I3 ?M3 ?H3
  case I3=>
   exact⟨Nat.zero_le _,fun q x h=>absurd h (Nat.not_lt_zero _)⟩
  case M3=>
   exact mz
  case H3=>
   rintro j hinv
   try dsimp only at hinv
   refine kc 0 [9,8,7,5,0,1] 10 ?_;refine cj (fun h8=>?_) (fun h8=>?_)
   ·refine kc 5 [9,8,7,5,0,1] 0 ?_;obtain⟨cn,ck,cm,cs,cl,ca,hgc⟩:=rb (show j<ec.length by omega);refine gc 4 ?_;refine o1 (cu yj Ap ?_ (he:=by exact(pk hgc)));refine go 6 ?_;refine cJ (fun h10=>?_) (fun h10=>?_)
    ·refine kc 3 [9,8,7,5,0,1] 2 ?_;refine o1 (cG ?_);refine go 2 ?_;refine bi (j+1) rfl ?_ mz
     ·refine ⟨⟨by omega,fun q x hq hx=>?_⟩,by omega⟩;rcases Nat.lt_or_ge q j with h|h
      ·exact hinv.2 q x h hx
      ·obtain rfl:q=j:=by omega
       rw[hgc] at hx;cases hx;exact h10
    refine kc 1 [9,7,5,0] 0 ?_;have hix:eH nm ec=some j:=xV hinv.2 hgc h10;rw[houter.2,Kg hget h5 hix] at hF;simp only[Prod.mk.injEq,cy.mk.injEq,dP.mk.injEq,ae.mk.injEq,dP.k] at hF;obtain⟨rfl,⟨⟨rfl,rfl,rfl,⟨rfl,rfl,rfl,rfl,rfl⟩,⟨rfl,rfl,rfl,rfl,rfl⟩,rfl,rfl⟩,rfl,rfl,rfl,rfl,rfl,rfl⟩,rfl⟩:=hF;refine gz [0,1,2,3,4] mixed ?_;refine A1 5 rfl (F9 Bw DV ⟨_,rfl,?_⟩ (he:=by exact(sN hget)));refine ga [6,7,8] ?_;refine A2 9 rfl (dN DU ?_);refine ga [10] ?_;refine aZ ?_;refine ge 12 ?_;refine sZ [0,1] [bc es w,ba] ?_
    ·exact ⟨rfl,rfl⟩
   refine kc 6 [8,7,5,0,1] 0 ?_;have hix:eH nm ec=none:=vB fun q x hx=>hinv.2 q x (by have:=(List.getElem?_eq_some_iff.1 hx).1;omega) hx
   replace hinv:=houter
   refine gc 5 ?_;refine' oa (yt:=71) (d:=66) 5 ?a1 ?b1 ?_
   case a1=>
    intro hc hK;refine go 2 ?_;refine gy ?_;refine o1 (uM ?_ (hb:=by(try simp only[ByteArray.size_append,qL,List.size_toArray,List.length_cons,List.length_nil]);omega));refine go 2 ?_;exact hK [_,_,_,_,_] rfl rfl
   case b1=>
    intro _ hK;refine go 5 ?_;exact hK [_,_,_,_,_] rfl
   refine go 2 ?_;refine cJ (fun h12=>?_) (fun h12=>?_)
   ·refine kc 3 [7,5,0,1] 2 ?_;refine o1 (cG ?_);refine go 2 ?_;refine bk (i+1) rfl ?_ [0,1,2] mz;exact⟨⟨by omega,by rw[hinv.2];exact E4 hget h5 hix (by rintro⟨h,h'⟩;rcases h12 with h2|h2;exact h2 h;exact h2 h')⟩,by omega⟩
   refine kc 1 [7,5,0] 0 ?_;rw[hinv.2,E3 hget h5 hix h12] at hF;simp only[Prod.mk.injEq,cy.mk.injEq,dP.mk.injEq,ae.mk.injEq,dP.k] at hF;obtain⟨rfl,⟨⟨rfl,rfl,rfl,⟨rfl,rfl,rfl,rfl,rfl⟩,⟨rfl,rfl,rfl,rfl,rfl⟩,rfl,rfl⟩,rfl,rfl,rfl,rfl,rfl,rfl⟩,rfl⟩:=hF;refine gz [0,1,2,3,4] mixed ?_;refine A1 5 rfl (F9 Bw DV ⟨_,rfl,?_⟩ (he:=by exact(sN hget)));refine ga [6,7] ?_;refine A2 8 rfl (dN DU ?_);refine ga [9] ?_;refine aZ ?_;refine ge 7 ?_;refine sZ [0,1] [bc es w,ba] ?_
   ·exact ⟨rfl,rfl⟩
end
section
open Go Go.Vd Go.RowKit
attribute [local irreducible] bu bA di ak bL cU
variable {g gl:Nat→List D}
theorem gA:∀{ls:List aP} {i:Nat} {l:aP},ls[i]? =some l→bh (ls.take (i+1))=bh (ls.take i)+l.size
 |[],i,l,h=>by simp at h
 |a::r,0,l,h=>by simp at h;subst h;simp[bh]
 |a::r,i+1,l,h=>by
  have:=gA (ls:=r) (i:=i) (l:=l) (by simpa using h);simp only[List.take_succ_cons,bh,this];omega
theorem gw:∀(ls:List aP) (i:Nat),bh (ls.take i)≤bh ls
 |[],i=>by simp
 |a::r,0=>by simp[bh]
 |a::r,i+1=>by have:=gw r i;simp only[List.take_succ_cons,bh];omega
theorem mP:∀{ls:List ae} {i:Nat} {l:ae},ls[i]? =some l→aj (ls.take (i+1))=aj (ls.take i)+l.size
 |[],i,l,h=>by simp at h
 |a::r,0,l,h=>by simp at h;subst h;simp[aj]
 |a::r,i+1,l,h=>by
  have:=mP (ls:=r) (i:=i) (l:=l) (by simpa using h);simp only[List.take_succ_cons,aj,this];omega
theorem kP:∀(ls:List ae) (i:Nat),aj (ls.take i)≤aj ls
 |[],i=>by simp
 |a::r,0=>by simp[aj]
 |a::r,i+1=>by have:=kP r i;simp only[List.take_succ_cons,aj];omega
theorem eI:∀{l:List aP} {i:Nat} {t:aP},l[i]? =some t→t.size≤bh l
 |[],i,t,h=>by simp at h
 |a::r,0,t,h=>by simp at h;subst h;simp[bh]
 |a::r,i+1,t,h=>by
  have:=eI (l:=r) (i:=i) (t:=t) (by simpa using h);simp[bh];omega
theorem kN:∀l:List aP,l.length≤bh l
 |[]=>by simp
 | .mk k s args::r=>by have:=kN r;simp[bh,aP.size];omega
theorem pD:∀(n:Nat) (k:Int) (s:ByteArray) (args:List aP) (most:Int),(aP.mk k s args).size≤n→(aP.mk k s args).size≤1152921504606846976→0≤most→most≤1099511627776→
 cD Tryz.prog gl 103 [(aP.mk k s args).d,.v (.int .i64 most)] fun d=> ∃r:Int,d=.v (.int .i64 r)∧1≤r∧r≤(aP.mk k s args).size∧(r≤most→r=(aP.mk k s args).size):=by
 intro n
 induction n with
 |zero=>intro k s args most h;simp[aP.size] at h
 |succ n ih=>
  intro k s args most hsz hb hm0 hm1;simp only[aP.size] at hsz hb;have hal:=bV args;have hsl:=kN args;refine bD Tryz.func103 Tryz.ntmps103 ?_;refine kc 18 [6,5,2,1] 0 ?_;refine lP (ι:=Nat×Int) (fun⟨i,c⟩=>[(6,int i),(5,int c)]) [2,1] (fun⟨i,c⟩=>i≤args.length∧1≤c∧c≤1+bh (args.take i)∧(c≤most→c=1+bh (args.take i))) (fun⟨i,c⟩=>args.length-i) ((0,1)) rfl ?I6 ?M6 ?H6
  case I6=>
   exact⟨Nat.zero_le _,by omega,by simp[bh],fun _=>by simp[bh]⟩
  case M6=>
   exact mz
  case H6=>
   rintro⟨i,c⟩ hinv
   try dsimp only at hinv
   refine kc 0 [6,5,2,1] 9 ?_;refine' oa (yt:=16) (d:=13) 3 ?a1 ?b1 ?_
   case a1=>
    intro hc hK;refine go 3 ?_;exact hK [_,_,_] rfl rfl
   case b1=>
    intro _ hK;refine go 3 ?_;exact hK [_,_,_] rfl
   refine go 2 ?_;refine cJ (fun h3=>?_) (fun h3=>?_)
   ·refine kc 5 [5] 2 ?_;have hg2:=gw args i;have hend:c≤most→i=args.length:=(fun h=>by omega);refine go 5 ?_;refine ez ?_;exact⟨c,rfl,hinv.2.1,by simp only[aP.size];omega,fun h=>by rw[hinv.2.2.2 h,hend h,List.take_length];simp only[aP.size];omega⟩
   refine kc 5 [6,5,2,1] 0 ?_;obtain⟨k',s',a',hget⟩:=dh (show i<args.length by omega);have hg1:=eI hget;have hg2:=gw args i;refine gc 4 ?_;refine o1 (cu fo fH ?_ (he:=by exact(dD hget)));refine go 3 ?_;refine o1 (iC ?_);refine oc (T:=fun _=>False) (bJ Dv rfl rfl rfl rfl (ih k' s' a' (most-c) (by omega) (by omega) (by omega) (by omega)) (bo (an .nil)) (fun d hd=>?_));obtain⟨r,rfl,hr1,hr2,hr3⟩:=hd;refine ko 3 [7,6,5,2,1] 3 ?_;refine o1 (cG ?_);refine ko 4 [5,6,2,1] 2 ?_;refine o1 (cG ?_);refine go 2 ?_;refine bi (i+1,c+r) rfl ?_ mz;exact⟨⟨by omega,by omega,by rw[gA hget];omega,fun h=>by rw[gA hget];omega⟩,show args.length-(i+1)<args.length-i by omega⟩
theorem ld:∀(n:Nat) (k m:Int) (s:ByteArray) (ls:List aP) (args:List ae) (most:Int),(ae.mk k m s ls args).size≤n→(ae.mk k m s ls args).size≤1152921504606846976→0≤most→most≤1099511627776→
 cD Tryz.prog gl 102 [(ae.mk k m s ls args).d,.v (.int .i64 most)] fun d=> ∃r:Int,d=.v (.int .i64 r)∧1≤r∧r≤(ae.mk k m s ls args).size∧(r≤most→r=(ae.mk k m s ls args).size):=by
 intro n
 induction n with
 |zero=>intro k m s ls args most h;simp[ae.size] at h
 |succ n ih=>
  intro k m s ls args most hsz hb hm0 hm1;simp only[ae.size] at hsz hb;have hal:=aO args;have hll:=bV ls;have hsl:=kN ls;have hsa:=br args;refine bD Tryz.func102 Tryz.ntmps102 ?_;refine kc 18 [6,5,2,1] 0 ?_;refine lP (ι:=Nat×Int) (fun⟨i,c⟩=>[(6,int i),(5,int c)]) [2,1] (fun⟨i,c⟩=>i≤ls.length∧1≤c∧c≤1+bh (ls.take i)∧(c≤most→c=1+bh (ls.take i))) (fun⟨i,c⟩=>ls.length-i) ((0,1)) rfl ?I7 ?M7 ?H7
  case I7=>
   exact⟨Nat.zero_le _,by omega,by simp[bh],fun _=>by simp[bh]⟩
  case M7=>
   exact mz
  case H7=>
   rintro⟨i,c⟩ hinv
   try dsimp only at hinv
   refine kc 0 [6,5,2,1] 9 ?_;refine' oa (yt:=18) (d:=15) 3 ?a2 ?b2 ?_
   case a2=>
    intro hc hK;refine go 3 ?_;exact hK [_,_,_] rfl rfl
   case b2=>
    intro _ hK;refine go 3 ?_;exact hK [_,_,_] rfl
   refine go 2 ?_;refine cj (fun h3=>?_) (fun h3=>?_)
   ·refine kc 5 [6,5,2,1] 0 ?_;obtain⟨k',s',a',hget⟩:=dh (show i<ls.length by omega);have hg1:=eI hget;have hg2:=gw ls i;refine gc 4 ?_;refine o1 (cu fo fH ?_ (he:=by exact(dD hget)));refine go 3 ?_;refine o1 (iC ?_);refine oc (T:=fun _=>False) (bJ Dv rfl rfl rfl rfl (pD _ k' s' a' (most-c) (Nat.le_refl _) (by omega) (by omega) (by omega)) (bo (an .nil)) (fun d hd=>?_));obtain⟨r,rfl,hr1,hr2,hr3⟩:=hd;refine ko 3 [7,6,5,2,1] 3 ?_;refine o1 (cG ?_);refine ko 4 [5,6,2,1] 2 ?_;refine o1 (cG ?_);refine go 2 ?_;refine bi (i+1,c+r) rfl ?_ mz;exact⟨⟨by omega,by omega,by rw[gA hget];omega,fun h=>by rw[gA hget];omega⟩,show ls.length-(i+1)<ls.length-i by omega⟩
   refine kc 7 [5,2,1] 0 ?_;have hg3:=gw ls i;have hc2:c≤1+bh ls:=(by omega);have hc3:c≤most→c=1+bh ls:=(fun h=>by
    have h4:i=ls.length:=by omega
    rw[hinv.2.2.2 h,h4,List.take_length])
   have hc1:=hinv.2.1;refine gc 5 ?_;refine lP (ι:=Nat×Int) (fun⟨j,e⟩=>[(8,int j),(5,int e)]) [2,1] (fun⟨j,e⟩=>j≤args.length∧1≤e∧e≤1+bh ls+aj (args.take j)∧(e≤most→e=1+bh ls+aj (args.take j))) (fun⟨j,e⟩=>args.length-j) ((0,c)) rfl ?I8 ?M8 ?H8
   case I8=>
    exact⟨Nat.zero_le _,hc1,by simp[aj];omega,fun h=>by simp[aj];exact hc3 h⟩
   case M8=>
    exact mz
   case H8=>
    rintro⟨j,e⟩ hinv
    try dsimp only at hinv
    refine kc 0 [8,5,2,1] 9 ?_;refine' oa (yt:=42) (d:=39) 3 ?a3 ?b3 ?_
    case a3=>
     intro hc hK;refine go 3 ?_;exact hK [_,_,_] rfl rfl
    case b3=>
     intro _ hK;refine go 3 ?_;exact hK [_,_,_] rfl
    refine go 2 ?_;refine cJ (fun h8=>?_) (fun h8=>?_)
    ·refine kc 5 [5] 2 ?_;have hg2:=kP args j;have hend:e≤most→j=args.length:=(fun h=>by omega);refine go 5 ?_;refine ez ?_;exact⟨e,rfl,hinv.2.1,by simp only[ae.size];omega,fun h=>by rw[hinv.2.2.2 h,hend h,List.take_length];simp only[ae.size];omega⟩
    refine kc 5 [8,5,2,1] 0 ?_;obtain⟨k2,m2,s2,l2,a2,hget⟩:=bK (show j<args.length by omega);have hg1:=bG hget;have hg2:=kP args j;refine gc 4 ?_;refine o1 (cu bB bH ?_ (he:=by exact(bW hget)));refine go 3 ?_;refine o1 (iC ?_);refine oc (T:=fun _=>False) (bJ vE rfl rfl rfl rfl (ih k2 m2 s2 l2 a2 (most-e) (by omega) (by omega) (by omega) (by omega)) (bo (an .nil)) (fun d hd=>?_));obtain⟨r,rfl,hr1,hr2,hr3⟩:=hd;refine ko 3 [9,8,5,2,1] 3 ?_;refine o1 (cG ?_);refine ko 4 [5,8,2,1] 2 ?_;refine o1 (cG ?_);refine go 2 ?_;refine bi ((j+1,e+r)) rfl ?_ ?_
    ·exact ⟨⟨by omega,by omega,by rw[mP hget];omega,fun h=>by rw[mP hget];omega⟩,show args.length-(j+1)<args.length-j by omega⟩
    ·exact mz
end
section
open Go Go.Vd Go.RowKit
attribute [local irreducible] bu bA di ak bL cU
variable {g gl:Nat→List D}
mutual
theorem tZ:∀(t:ae) (v:Int),mJ t v≤t.size
 | .mk k n s ls args,v=>by
  have:=rI args (decide (4≤k)) v;rw[mJ];simp only[ae.size];split<;>omega
theorem rI:∀(l:List ae) (b:Bool) (v:Int),jL b l v≤aj l
 |[],b,v=>by simp[jL]
 |t::r,b,v=>by
  have h1:=tZ t (if b&&r.isEmpty then v+1 else v);have h2:=rI r b v;simp only[jL,aj];omega
end
variable {l:List ae} {i:Nat} {x:ae}
theorem wh{b:Bool}{v:Int}(h:l[i]? =some x):jL b (l.drop i) v=mJ x (if b=true∧i+1=l.length then v+1 else v)+jL b (l.drop (i+1)) v:=by
 obtain⟨hi,rfl⟩:=List.getElem?_eq_some_iff.1 h;rw[List.drop_eq_getElem_cons hi,jL];have e:(b&&(l.drop (i+1)).isEmpty)=true↔(b=true∧i+1=l.length):=by
  rw[Bool.and_eq_true,List.isEmpty_iff,List.drop_eq_nil_iff];constructor
  ·rintro ⟨h1,h2⟩;exact⟨h1,by omega⟩
  ·rintro ⟨h1,h2⟩;exact⟨h1,by omega⟩
 by_cases hc:b=true∧i+1=l.length
 ·rw [if_pos (e.2 hc),if_pos hc]
 ·rw [if_neg (fun h=>hc (e.1 h)),if_neg hc]
variable {B:Int}
theorem EC:∀(n:Nat) (k m:Int) (s:ByteArray) (ls:List aP) (args:List ae) (v:Int),(ae.mk k m s ls args).size≤n→(ae.mk k m s ls args).size≤1099511627776→0≤v→v+(ae.mk k m s ls args).size≤2199023255552→iD B (.mk k m s ls args)→
 cD Tryz.prog gl 132 [(ae.mk k m s ls args).d,.v (.int .i64 v)] (· =.v (.int .i64 (mJ (.mk k m s ls args) v))):=by
 intro n
 induction n with
 |zero=>intro k m s ls args v h;simp[ae.size] at h
 |succ n ih=>
  intro k m s ls args v hsz hb hv0 hv1 hs;have hus:=tZ (.mk k m s ls args) v;simp only[ae.size] at hsz hb hv1 hus;have hal:=aO args;have hsa:=br args;have hss:=rI args (decide (4≤k)) v;generalize hr:mJ (.mk k m s ls args) v=r at hus ⊢;rw[mJ] at hr;refine bD Tryz.func132 Tryz.ntmps132 ?_;refine gc 13 ?_;refine' oa (yt:=16) (d:=12) 4 ?a1 ?b1 ?_
  case a1=>
   intro hc hK;refine go 4 ?_;exact hK [_,_,_,_] rfl rfl
  case b1=>
   intro _ hK;refine go 4 ?_;exact hK [_,_,_,_] rfl
  refine go 2 ?_;refine cj (fun h1=>?_) (fun h1=>?_)
  ·refine kc 0 [] 7 ?_;refine ez ?_
   (rw[if_pos (by omega)] at hr;rw[← hr];rfl)
  refine kc 3 [2,1] 0 ?_;rw[if_neg (by omega)] at hr;refine gc 11 ?_;refine lP (ι:=Nat×Nat) (fun⟨i,c⟩=>[(6,int i),(5,int c)]) [2,1] (fun⟨i,c⟩=>i≤args.length∧c+jL (decide (4≤k)) (args.drop i) v=r) (fun⟨i,c⟩=>args.length-i) ((0,0)) rfl ?I2 ?M2 ?H2
  case I2=>
   exact⟨Nat.zero_le _,by simpa using hr⟩
  case M2=>
   exact mz
  case H2=>
   rintro⟨i,c⟩ hinv
   try dsimp only at hinv
   refine kc 0 [6,5,2,1] 10 ?_;refine cJ (fun h5=>?_) (fun h5=>?_)
   ·refine kc 5 [5] 7 ?_;refine ez ?_;have h9:=hinv.2;rw[List.drop_of_length_le (by omega)] at h9;simp only[jL,Nat.add_zero] at h9;rw[← h9]
   refine kc 5 [6,5,2,1] 0 ?_;obtain⟨k2,m2,s2,l2,a2,hget⟩:=bK (show i<args.length by omega);have hg1:=bG hget;have hg3:=wh (b:=decide (4≤k)) (v:=v) hget;have hgg:=wD hs.2.1 hget;refine gc 10 ?_;refine oc (cv Md rfl rfl (nB k m s ls args i (by omega)) (bo (an .nil)) ?_);refine ko 2 [28,7,6,5,2,1] 0 ?_;refine xc (ι:=Unit) (fun _=>[(7,int (if decide (4≤k)=true∧i+1=args.length then v+1 else v))]) [6,5,2,1] (fun _=>True) rfl ?A3 ?B3
   case A3=>
    refine cJ (fun h8=>?_) (fun h8=>?_)
    ·refine gc 1 ?_;refine bi (()) rfl ?_ ?_
     ·trivial
     ·refine mo ?_ (ef rfl (by exact Fit.of_eq (by first|(rw[if_pos (by simp only[decide_eq_true_eq];omega)];rfl)|(rw[if_neg (by simp only[decide_eq_true_eq];omega)];rfl))) (aJ (aJ (aJ (aJ dC)))))
      repeat (first|exact cH|refine bj ?_)
    refine gc 2 ?_;refine o1 (cG ?_);refine go 2 ?_;refine bi (()) rfl ?_ ?_
    ·trivial
    ·refine mo ?_ (ef rfl (by exact Fit.of_eq (by first|(rw[if_pos (by simp only[decide_eq_true_eq];omega)];rfl)|(rw[if_neg (by simp only[decide_eq_true_eq];omega)];rfl))) (aJ (aJ (aJ (aJ dC)))))
     repeat (first|exact cH|refine bj ?_)
   case B3=>
    rintro _ hcut
    try dsimp only at hcut
    refine kc 0 [7,6,5,2,1] 1 ?_;have hihx:=ih k2 m2 s2 l2 a2 (if decide (4≤k)=true∧i+1=args.length then v+1 else v) (by omega) (by omega) (by split<;>omega) (by split<;>omega) hgg;have hle:c+mJ (.mk k2 m2 s2 l2 a2) (if decide (4≤k)=true∧i+1=args.length then v+1 else v)≤r:=(by have:=hinv.2;omega);refine gc 4 ?_;refine o1 (cu bB bH ?_ (he:=by exact(bW hget)));refine go 2 ?_;refine oc (cv MZ rfl rfl (hihx) (bo (an .nil)) ?_);refine ko 3 [8,6,5,2,1] 3 ?_;refine o1 (cG ?_);refine ko 4 [5,6,2,1] 2 ?_;refine o1 (cG ?_);refine go 2 ?_;refine bi (i+1,c+mJ (.mk k2 m2 s2 l2 a2) (if decide (4≤k)=true∧i+1=args.length then v+1 else v)) rfl ?_ mz;exact⟨⟨by omega,by rw[← hinv.2,wh hget];omega⟩,show args.length-(i+1)<args.length-i by omega⟩
theorem ED{B':Int}(k m:Int)(s:ByteArray)(ls:List aP)(args:List ae)(k2 m2:Int)(s2:ByteArray)(ls2:List aP)(args2:List ae)(hs1:(ae.mk k m s ls args).size≤1099511627776)(hs2:(ae.mk k2 m2 s2 ls2 args2).size≤1099511627776)(h1:iD B (.mk k m s ls args)):
 cD Tryz.prog gl 106 [(ae.mk k m s ls args).d,(ae.mk k2 m2 s2 ls2 args2).d] fun d=> ∃b:Bool,d=.v (.bool b)∧(b=false→(ae.mk k m s ls args).size+mJ (.mk k m s ls args) 0*(ae.mk k2 m2 s2 ls2 args2).size≤20000):=by
 have hus:=tZ (.mk k m s ls args) 0;refine bD Tryz.func106 Tryz.ntmps106 ?_;refine gc 10 ?_;refine oc (T:=fun _=>False) (bJ vE rfl rfl rfl rfl (ld _ k m s ls args 20000 (Nat.le_refl _) (by omega) (by omega) (by omega)) (bo (an .nil)) (fun d hd=>?_));obtain⟨r,rfl,hr1,hr2,hr3⟩:=hd;refine ko 4 [5,3,2] 6 ?_;refine cj (fun h2=>?_) (fun h2=>?_)
 ·refine kc 0 [] 7 ?_;refine ez ?_;exact⟨true,rfl,fun h=>by cases h⟩
 refine gc 5 ?_;refine oc (cv MZ rfl rfl (EC _ k m s ls args 0 (Nat.le_refl _) hs1 (by omega) (by omega) h1) (bo (an .nil)) ?_);refine ko 3 [6,5,3] 3 ?_;refine oc (T:=fun _=>False) (bJ vE rfl rfl rfl rfl (ld _ k2 m2 s2 ls2 args2 20000 (Nat.le_refl _) (by omega) (by omega) (by omega)) (bo (an .nil)) (fun d hd=>?_));obtain⟨q,rfl,hq1,hq2,hq3⟩:=hd;refine go 4 ?_;generalize mJ (.mk k m s ls args) 0=u at hus ⊢;have hmul:0≤(u:Int)*q:=Int.mul_nonneg (by omega) (by omega);have hmul2:(u:Int)*q≤20000*1099511627776:=Int.mul_le_mul (by omega) (by omega) (by omega) (by omega);refine gc 4 ?_;refine o1 (AZ rfl rfl rfl (by omega) ?_);refine o1 (cG ?_);refine go 5 ?_;refine ez ?_;refine⟨_,rfl,fun h=>?_⟩;simp only[decide_eq_false_iff_not,Int.not_lt] at h;have hr:=hr3 (by omega);rcases Nat.eq_zero_or_pos u with h0|h0
 ·subst h0;omega
 ·have h5:1*q≤(u:Int)*q:=Int.mul_le_mul_of_nonneg_right (by omega) (by omega);have hq:=hq3 (by omega);rw[hq] at h;have h6:((u*(ae.mk k2 m2 s2 ls2 args2).size:Nat):Int)=(u:Int)*((ae.mk k2 m2 s2 ls2 args2).size:Nat):=Int.natCast_mul _ _;omega
mutual
def jq:aP→Nat
 | .mk k s args=>if k=4 then 1 else ff args
def ff:List aP→Nat
 |[]=>0
 |l::r=>jq l+ff r
end
mutual
def gu:ae→Nat
 | .mk k n s ls args=>ff ls+gj args
def gj:List ae→Nat
 |[]=>0
 |t::r=>gu t+gj r
end
mutual
theorem vo:∀l:aP,jq l≤l.size
 | .mk k s args=>by have:=oX args;rw[jq];simp only[aP.size];split<;>omega
theorem oX:∀l:List aP,ff l≤bh l
 |[]=>by simp[ff]
 |a::r=>by have:=vo a;have:=oX r;simp only[ff,bh];omega
end
mutual
theorem pO:∀t:ae,gu t≤t.size
 | .mk k n s ls args=>by have:=oX ls;have:=tf args;simp only[gu,ae.size];omega
theorem tf:∀l:List ae,gj l≤aj l
 |[]=>by simp[gj]
 |a::r=>by have:=pO a;have:=tf r;simp only[gj,aj];omega
end
mutual
theorem xl(ps:List ByteArray)(us:List aP)(M:Nat)(hu:∀l∈us,l.size≤M):∀l:aP,(l.subst ps us).size≤l.size+jq l*M
 | .mk k s args=>by
  have h:=vp ps us M hu args;simp only[aP.subst,jq,aP.size];split
  ·split
   ·rename_i i hi;rw[List.getD_eq_getElem?_getD];cases hg:us[i]? with
    |none=>simp[aP.size]
    |some x=>simp only[Option.getD_some];have:=hu x (List.mem_of_getElem? hg);omega
   ·simp only[aP.size];omega
  ·simp only[aP.size];omega
theorem vp(ps:List ByteArray)(us:List aP)(M:Nat)(hu:∀l∈us,l.size≤M):∀l:List aP,bh (dW ps us l)≤bh l+ff l*M
 |[]=>by simp[dW,bh]
 |a::r=>by
  have h1:=xl ps us M hu a;have h2:=vp ps us M hu r;simp only[dW,bh,ff,Nat.add_mul];omega
end
theorem xm(ps:List ByteArray)(us:List aP)(M:Nat)(hu:∀l∈us,l.size≤M):∀l:List aP,bh (l.map fun x=>x.subst ps us)≤bh l+ff l*M
 |[]=>by simp[bh]
 |a::r=>by
  have h1:=xl ps us M hu a;have h2:=xm ps us M hu r;simp only[List.map_cons,bh,ff,Nat.add_mul];omega
mutual
theorem wo(ps:List ByteArray)(us:List aP)(M:Nat)(hu:∀l∈us,l.size≤M):∀t:ae,(ew ps us t).size≤t.size+gu t*M
 | .mk k n s l args=>by
  have h1:=xm ps us M hu l;have h2:=u0 ps us M hu args;simp only[ew,ae.size,gu,Nat.add_mul];omega
theorem u0(ps:List ByteArray)(us:List aP)(M:Nat)(hu:∀l∈us,l.size≤M):∀l:List ae,aj (dw ps us l)≤aj l+gj l*M
 |[]=>by simp[dw,aj]
 |t::r=>by
  have h1:=wo ps us M hu t;have h2:=u0 ps us M hu r;simp only[dw,aj,gj,Nat.add_mul];omega
end
theorem jV{l:List aP}{x:aP}(h:l[i]? =some x):ff (l.drop i)=jq x+ff (l.drop (i+1)):=by
 obtain⟨hi,rfl⟩:=List.getElem?_eq_some_iff.1 h;rw[List.drop_eq_getElem_cons hi,ff]
theorem tg(h:l[i]? =some x):gj (l.drop i)=gu x+gj (l.drop (i+1)):=by
 obtain⟨hi,rfl⟩:=List.getElem?_eq_some_iff.1 h;rw[List.drop_eq_getElem_cons hi,gj]
theorem vM:∀(n:Nat) (k:Int) (s:ByteArray) (args:List aP),(aP.mk k s args).size≤n→(aP.mk k s args).size≤1099511627776→
 cD Tryz.prog gl 130 [(aP.mk k s args).d] (· =.v (.int .i64 (jq (.mk k s args)))):=by
 intro n
 induction n with
 |zero=>intro k s args h;simp[aP.size] at h
 |succ n ih=>
  intro k s args hsz hb;have hus:=vo (.mk k s args);simp only[aP.size] at hsz hb hus;have hal:=bV args;have hsl:=kN args;generalize hr:jq (.mk k s args)=r at hus ⊢;rw[jq] at hr;refine bD Tryz.func130 Tryz.ntmps130 ?_;refine gc 14 ?_;refine cj (fun h1=>?_) (fun h1=>?_)
  ·refine kc 0 [] 7 ?_;refine ez ?_
   (rw[if_pos (by omega)] at hr;subst hr;first|rfl|skip)
  refine kc 3 [1] 0 ?_;rw[if_neg (by omega)] at hr;refine gc 11 ?_;refine lP (ι:=Nat×Nat) (fun⟨i,c⟩=>[(4,int i),(3,int c)]) [1] (fun⟨i,c⟩=>i≤args.length∧c+ff (args.drop i)=r) (fun⟨i,c⟩=>args.length-i) ((0,0)) rfl ?I4 ?M4 ?H4
  case I4=>
   exact⟨Nat.zero_le _,by simpa using hr⟩
  case M4=>
   exact mz
  case H4=>
   rintro⟨i,c⟩ hinv
   try dsimp only at hinv
   refine kc 0 [4,3,1] 10 ?_;refine cJ (fun h5=>?_) (fun h5=>?_)
   ·refine kc 5 [3] 7 ?_;refine ez ?_;have h9:=hinv.2;rw[List.drop_of_length_le (by omega)] at h9;simp only[ff,Nat.add_zero] at h9;rw[← h9]
   refine kc 5 [4,3,1] 0 ?_;obtain⟨k2,s2,a2,hget⟩:=dh (show i<args.length by omega);have hg1:=eI hget;have hg3:=jV hget;have hle:c+jq (.mk k2 s2 a2)≤r:=(by have:=hinv.2;omega);refine gc 4 ?_;refine o1 (cu fo fH ?_ (he:=by exact(dD hget)));refine go 1 ?_;refine oc (cv Na rfl rfl (ih k2 s2 a2 (by omega) (by omega)) (bo .nil) ?_);refine ko 3 [5,4,3,1] 3 ?_;refine o1 (cG ?_);refine ko 4 [3,4,1] 2 ?_;refine o1 (cG ?_);refine go 2 ?_;refine bi (i+1,c+jq (.mk k2 s2 a2)) rfl ?_ mz;exact⟨⟨by omega,by rw[← hinv.2,jV hget];omega⟩,show args.length-(i+1)<args.length-i by omega⟩
theorem xv:∀(n:Nat) (k m:Int) (s:ByteArray) (ls:List aP) (args:List ae),(ae.mk k m s ls args).size≤n→(ae.mk k m s ls args).size≤1099511627776→
 cD Tryz.prog gl 104 [(ae.mk k m s ls args).d] (· =.v (.int .i64 (gu (.mk k m s ls args)))):=by
 intro n
 induction n with
 |zero=>intro k m s ls args h;simp[ae.size] at h
 |succ n ih=>
  intro k m s ls args hsz hb;have hus:=pO (.mk k m s ls args);simp only[ae.size] at hsz hb hus;have hal:=aO args;have hsa:=br args;have hll:=bV ls;have hsl:=kN ls;generalize hr:gu (.mk k m s ls args)=r at hus ⊢;rw[gu] at hr;refine bD Tryz.func104 Tryz.ntmps104 ?_;refine kc 18 [4,3,1] 0 ?_;refine lP (ι:=Nat×Nat) (fun⟨i,c⟩=>[(4,int i),(3,int c)]) [1] (fun⟨i,c⟩=>i≤ls.length∧c+ff (ls.drop i)+gj args=r) (fun⟨i,c⟩=>ls.length-i) ((0,0)) rfl ?I5 ?M5 ?H5
  case I5=>
   exact⟨Nat.zero_le _,by simpa using hr⟩
  case M5=>
   exact mz
  case H5=>
   rintro⟨i,c⟩ hinv
   try dsimp only at hinv
   refine kc 0 [4,3,1] 10 ?_;refine cj (fun h3=>?_) (fun h3=>?_)
   ·refine kc 5 [4,3,1] 0 ?_;obtain⟨k2,s2,a2,hget⟩:=dh (show i<ls.length by omega);have hg1:=eI hget;have hg3:=jV hget;have hle:c+jq (.mk k2 s2 a2)≤r:=(by have:=hinv.2;omega);refine gc 4 ?_;refine o1 (cu fo fH ?_ (he:=by exact(dD hget)));refine go 1 ?_;refine oc (cv Na rfl rfl (vM _ k2 s2 a2 (Nat.le_refl _) (by omega)) (bo .nil) ?_);refine ko 3 [5,4,3,1] 3 ?_;refine o1 (cG ?_);refine ko 4 [3,4,1] 2 ?_;refine o1 (cG ?_);refine go 2 ?_;refine bi (i+1,c+jq (.mk k2 s2 a2)) rfl ?_ mz;exact⟨⟨by omega,by rw[← hinv.2,jV hget];omega⟩,show ls.length-(i+1)<ls.length-i by omega⟩
   refine kc 7 [3,1] 0 ?_;have hc1:c+gj args=r:=(by have h9:=hinv.2;rw[List.drop_of_length_le (by omega)] at h9;simpa[ff] using h9);refine gc 5 ?_;refine lP (ι:=Nat×Nat) (fun⟨j,e⟩=>[(6,int j),(3,int e)]) [1] (fun⟨j,e⟩=>j≤args.length∧e+gj (args.drop j)=r) (fun⟨j,e⟩=>args.length-j) ((0,c)) rfl ?I6 ?M6 ?H6
   case I6=>
    exact⟨Nat.zero_le _,by simpa using hc1⟩
   case M6=>
    exact mz
   case H6=>
    rintro⟨j,e⟩ hinv
    try dsimp only at hinv
    refine kc 0 [6,3,1] 10 ?_;refine cJ (fun h8=>?_) (fun h8=>?_)
    ·refine kc 5 [3] 7 ?_;refine ez ?_;have h9:=hinv.2;rw[List.drop_of_length_le (by omega)] at h9;simp only[gj,Nat.add_zero] at h9;rw[← h9]
    refine kc 5 [6,3,1] 0 ?_;obtain⟨k2,m2,s2,l2,a2,hget⟩:=bK (show j<args.length by omega);have hg1:=bG hget;have hg3:=tg hget;have hle:e+gu (.mk k2 m2 s2 l2 a2)≤r:=(by have:=hinv.2;omega);refine gc 4 ?_;refine o1 (cu bB bH ?_ (he:=by exact(bW hget)));refine go 1 ?_;refine oc (cv Ni rfl rfl (ih k2 m2 s2 l2 a2 (by omega) (by omega)) (bo .nil) ?_);refine ko 3 [7,6,3,1] 3 ?_;refine o1 (cG ?_);refine ko 4 [3,6,1] 2 ?_;refine o1 (cG ?_);refine go 2 ?_;refine bi (j+1,e+gu (.mk k2 m2 s2 l2 a2)) rfl ?_ mz;exact⟨⟨by omega,by rw[← hinv.2,tg hget];omega⟩,show args.length-(j+1)<args.length-j by omega⟩
end
section
open Go Go.Vd Go.RowKit
attribute [local irreducible] bu bA di ak bL
variable {gl:Nat→List D}
end
section
open Go Go.Vd Go.RowKit
attribute [local irreducible] bu bA di ak bL
variable {gl:Nat→List D}
theorem vI(ps:List ByteArray)(ls:List aP)(hl:ps.length≤ls.length)(hl2:ps.length≤281474976710656):∀(n:Nat) (k:Int) (s:ByteArray) (args:List aP),(aP.mk k s args).size≤n→(aP.mk k s args).size≤1099511627776→
 cD Tryz.prog gl 131 [(aP.mk k s args).d,eA ps,.sl 3 (bF ls)] (· =((aP.mk k s args).subst ps ls).d):=by
 have hlp:=cQ ps;have hll:=bV ls;intro n
 induction n with
 |zero=>intro k s args h;simp[aP.size] at h
 |succ n ih=>
  intro k s args hn hb;have hsz:bh args≤n:=by simp[aP.size] at hn;omega
  have hlen:=bV args;have hlb:=iv args;simp only[aP.size] at hb;refine bD Tryz.func131 Tryz.ntmps131 ?_;refine gc 14 ?_;refine cj (fun h1=>?_) (fun h1=>?_)
  ·refine kc 1 [6,3,1,2] 6 ?_;refine lP (ι:=Nat) (fun i=>[(7,int i)]) [6,3,1,2] (fun i=>i≤ps.length∧s∉ps.take i) (fun i=>ps.length-i) (0) rfl ?I1 ?M1 ?H1
   case I1=>
    exact⟨Nat.zero_le _,by simp⟩
   case M1=>
    exact mz
   case H1=>
    rintro i hinv
    try dsimp only at hinv
    refine kc 0 [7,6,3,1,2] 9 ?_;refine cJ (fun h3=>?_) (fun h3=>?_)
    ·refine kc 5 [6,3] 8 ?_;refine ez ?_;have hk:k=4:=by omega
     have h:=hinv.2;rw[List.take_of_length_le (by omega)] at h;simp only[aP.subst,if_pos hk,o7 h];rfl
    refine kc 5 [7,6,3,1,2] 0 ?_;refine gz [0,1] mixed ?_;refine A1 2 rfl (cu pN ue ⟨_,rfl,?_⟩ (he:=by exact(kj (by omega))));refine ga [3,4,5,6] ?_;refine aZ ?_;refine ge 1 ?_;refine cJ (fun h5=>?_) (fun h5=>?_)
    ·refine kc 3 [7,6,3,1,2] 2 ?_;refine o1 (cG ?_);refine go 2 ?_;refine bi (i+1) rfl ?_ mz;exact⟨⟨by omega,iM (by omega) hinv.2 h5⟩,by omega⟩
    refine kc 0 [7,6,2] 4 ?_;obtain⟨k',s',a',hget⟩:=dh (show i<ls.length by omega);refine o1 (cu fo fH ?_ (he:=by exact(dD hget)));refine go 11 ?_;refine ez ?_;have hk:k=4:=by omega
    have hf:=o6 (show i<ps.length by omega) hinv.2 h5;simp only[aP.subst,if_pos hk,hf,List.getD_eq_getElem?_getD,hget,Option.getD_some];rfl
  refine kc 14 [8,6,3,1,2] 6 ?_;refine bz 121 3 rfl ?_;refine lp (ι:=Nat) (fun i=>[(9,int i)]) (fun i=>[.cells [.d (.v (.int .i64 k)),.d (.v (.string s)),.d (.sl 3 (bF args))] 121,.cells [.d (.v (.int .i64 0)),.d (.v (.string .empty)),.d (.v (.slice none 0 0))] 121,.cells [.d (.v (.int .i64 k)),.d (.v (.string s)),.own 3 3 (bF (dW ps ls (args.take i)))] 121,.row 121 3]) [8,6,3,1,2] (fun i=>i≤args.length) (fun i=>args.length-i) (0) ([0,1,2,3]) rfl ?I2 ?M2 ?H2
  case I2=>
   exact Nat.zero_le _
  case M2=>
   refine mo ?_ (aJ (aJ (aJ (aJ (aJ (aJ dC))))))
   repeat (first|exact cH|exact yH|refine bj ?_|refine qx ?_|refine Bi ?_ ?_|refine an ?_|refine .cons (.nil rfl) ?_)
  case H2=>
   rintro i hinv
   try dsimp only at hinv
   refine kc 0 [9,8,6,3,1,2] 10 ?_;refine cJ (fun h10=>?_) (fun h10=>?_)
   ·refine kc 5 [8,6] 7 ?_;refine ez ?_;have hk:¬k=4:=by omega
    simp only[aP.subst,if_neg hk];rw[List.take_of_length_le (by omega)];rfl
   refine kc 4 [9,8,6,3,1,2] 0 ?_;obtain⟨k',s',a',hget⟩:=dh (show i<args.length by omega);obtain⟨k2,s2,a2,hs2⟩:=aP.case ((aP.mk k' s' a').subst ps ls)
   have hsz':=jE hget;have hlast:bF (dW ps ls (args.take i))++[[.v (.int .i64 k2),.v (.string s2),.sl 3 (bF a2)]]=bF (dW ps ls (args.take (i+1))):=by
    rw[u5 hget,qb,hs2];rfl
   have hll2:=bV (dW ps ls (args.take i));have hll3:=rP ps ls (args.take i);simp only[List.length_take] at hll3;refine gz [0,1,2,3,4] mixed ?_;refine A1 5 rfl (cu fo fH ⟨_,rfl,?_⟩ (he:=by exact(dD hget)));refine ga [6,7,8] ?_;refine A2 (T:=fun _=>False) 9 rfl (bJ M0 rfl rfl rfl rfl (ih k' s' a' (by omega) (by omega)) (bo (an (an .nil))) (fun d hd=>?_));rw[hs2] at hd;obtain rfl:=hd;refine A2 10 rfl (gD ji [.tmp 52] eL ?_);refine A2 11 rfl (px ji ?_);refine ga [12] ?_;refine A2 13 rfl (dN vH ?_);refine aZ ?_;refine ke 2 [9,8,6,3,1,2] 2 ?_;refine o1 (cG ?_);refine go 2 ?_;rw[hlast];refine bk (i+1) rfl ?_ [0,1,2,3] mz;exact⟨by omega,by omega⟩
end
section
open Go Go.Vd Go.RowKit
attribute [local irreducible] bu bA di ak bL cU
variable {g gl:Nat→List D}
theorem Ay(ps:List ByteArray)(us:List aP)(hl:ps.length≤us.length)(hl2:ps.length≤281474976710656):∀(n:Nat) (k m:Int) (s:ByteArray) (ls:List aP) (args:List ae),(ae.mk k m s ls args).size≤n→(ae.mk k m s ls args).size≤1099511627776→
 cD Tryz.prog gl 105 [(ae.mk k m s ls args).d,eA ps,.sl 3 (bF us)] (· =(ew ps us (.mk k m s ls args)).d):=by
 intro n
 induction n with
 |zero=>intro k m s ls args h;simp[ae.size] at h
 |succ n ih=>
  intro k m s ls args hsz hb;simp only[ae.size] at hsz hb;have hal:=aO args;have hsa:=br args;have hll:=bV ls;have hsl:=oL ls;have hpl:=cQ ps;have hml:=qK (ps:=ps) (us:=us) args;refine bD Tryz.func105 Tryz.ntmps105 ?_;refine kc 20 [7,6,3,1,2] 6 ?_;refine bz 121 3 rfl ?_;refine lp (ι:=Nat) (fun i=>[(8,int i)]) (fun i=>[.cells [.d (.v (.int .i64 k)),.d (.v (.int .i64 m)),.d (.v (.string s)),.d (.sl 3 (bF ls)),.d (.sl 5 (aH args))] 39,.cells [.d (.v (.int .i64 0)),.d (.v (.int .i64 0)),.d (.v (.string .empty)),.d (.v (.slice none 0 0)),.d (.v (.slice none 0 0))] 39,.cells [.d (.v (.int .i64 k)),.d (.v (.int .i64 m)),.d (.v (.string s)),.own 3 3 (bF ((ls.map fun x=>x.subst ps us).take i)),.d (.v (.slice none 0 0))] 39,.row 121 3]) [7,6,3,1,2] (fun i=>i≤ls.length) (fun i=>ls.length-i) (0) ([0,1,2,3]) rfl ?I1 ?M1 ?H1
  case I1=>
   exact Nat.zero_le _
  case M1=>
   refine mo ?_ (aJ (aJ (aJ (aJ (aJ (aJ dC))))))
   repeat (first|exact cH|exact yH|refine bj ?_|refine qx ?_|refine Bi ?_ ?_|refine an ?_|refine .cons (.nil rfl) ?_)
  case H1=>
   rintro i hinv
   try dsimp only at hinv
   refine kc 0 [8,7,6,3,1,2] 10 ?_;refine cj (fun h3=>?_) (fun h3=>?_)
   ·refine kc 4 [8,7,6,3,1,2] 0 ?_;obtain⟨k2,s2,a2,hget⟩:=dh (show i<ls.length by omega);have hg1:=rR hget;obtain⟨k3,s3,a3,hY⟩:=aP.case ((aP.mk k2 s2 a2).subst ps us)
    have hsu:=vI (gl:=gl) ps us hl hl2 _ k2 s2 a2 (Nat.le_refl _) (by omega);rw[hY] at hsu;have hgm:(ls.map fun x=>x.subst ps us)[i]? =some (.mk k3 s3 a3):=(by rw[List.getElem?_map,hget,Option.map_some,hY]);have hnx:bF ((ls.map fun x=>x.subst ps us).take i)++[[.v (.int .i64 k3),.v (.string s3),.sl 3 (bF a3)]]=bF ((ls.map fun x=>x.subst ps us).take (i+1)):=xk hgm;have htl:=bV ((ls.map fun x=>x.subst ps us).take i);have htk:=List.length_take (i:=i) (l:=ls.map fun x=>x.subst ps us);refine gz [0,1,2,3,4] mixed ?_;refine A1 5 rfl (cu fo fH ⟨_,rfl,?_⟩ (he:=by exact(dD hget)));refine ga [6,7,8] ?_;refine A2 9 rfl (cv M0 rfl rfl (hsu) (bo (an (an .nil))) ?_);refine A2 10 rfl (gD ji [.tmp 33] eL ?_);refine A2 11 rfl (px ji ?_);refine ga [12] ?_;refine A2 13 rfl (dN vH ?_);refine aZ ?_;refine ke 2 [8,7,6,3,1,2] 2 ?_;refine o1 (cG ?_);refine go 2 ?_;rw[hnx];refine bk (i+1) rfl ?_ [0,1,2,3] mz;exact⟨by omega,by omega⟩
   refine kc 7 [7,6,3,1,2] 0 ?_;obtain rfl:i=ls.length:=(by omega);rw[List.take_of_length_le (by rw[List.length_map];omega)];refine gc 5 ?_;refine bz 39 5 rfl ?_;refine lp (ι:=Nat) (fun j=>[(9,int j)]) (fun j=>[.cells [.d (.v (.int .i64 k)),.d (.v (.int .i64 m)),.d (.v (.string s)),.d (.sl 3 (bF ls)),.d (.sl 5 (aH args))] 39,.cells [.d (.v (.int .i64 0)),.d (.v (.int .i64 0)),.d (.v (.string .empty)),.d (.v (.slice none 0 0)),.d (.v (.slice none 0 0))] 39,.cells [.d (.v (.int .i64 k)),.d (.v (.int .i64 m)),.d (.v (.string s)),.own 3 3 (bF (ls.map fun x=>x.subst ps us)),.own 4 5 (aH ((dw ps us args).take j))] 39,.row 121 3,.row 39 5]) [7,6,3,1,2] (fun j=>j≤args.length) (fun j=>args.length-j) (0) ([0,1,2,3,4]) rfl ?I2 ?M2 ?H2
   case I2=>
    exact Nat.zero_le _
   case M2=>
    refine mo ?_ (aJ (aJ (aJ (aJ (aJ (aJ dC))))))
    repeat (first|exact cH|exact yH|refine bj ?_|refine cr ?_|refine qx ?_|refine Bi ?_ ?_|refine an ?_|refine .cons (.nil rfl) ?_)
   case H2=>
    rintro j hinv
    try dsimp only at hinv
    refine kc 0 [9,7,6,3,1,2] 10 ?_;refine cJ (fun h7=>?_) (fun h7=>?_)
    ·refine kc 6 [7,6] 0 ?_;obtain rfl:j=args.length:=(by omega);rw[List.take_of_length_le (by omega)];refine gc 6 ?_;refine ed ((ae.mk k m s (ls.map fun x=>x.subst ps us) (dw ps us args)).d) ?_;rw[ew]
    refine kc 4 [9,7,6,3,1,2] 0 ?_;obtain⟨k2,m2,s2,l2,a2,hget⟩:=bK (show j<args.length by omega);have hg1:=bG hget;obtain⟨k3,m3,s3,l3,a3,hY⟩:=ae.case (ew ps us (.mk k2 m2 s2 l2 a2))
    have hsu:=ih k2 m2 s2 l2 a2 (by omega) (by omega);have hgm:=uf (ps:=ps) (us:=us) hget;rw[hY] at hsu hgm;have hnx:aH ((dw ps us args).take j)++[[.v (.int .i64 k3),.v (.int .i64 m3),.v (.string s3),.sl 3 (bF l3),.sl 5 (aH a3)]]=aH ((dw ps us args).take (j+1)):=wj hgm;have htl:=aO ((dw ps us args).take j);have htk:=List.length_take (i:=j) (l:=dw ps us args);refine gz [0,1,2,3,4] mixed ?_;refine A1 5 rfl (cu bB bH ⟨_,rfl,?_⟩ (he:=by exact(bW hget)));refine ga [6,7,8] ?_;refine A2 9 rfl (cv Nh rfl rfl (hsu) (bo (an (an .nil))) ?_);refine A2 10 rfl (gD dE [.tmp 53] bw ?_);refine A2 11 rfl (px dE ?_);refine ga [12] ?_;refine A2 13 rfl (dN Bz ?_);refine aZ ?_;refine ke 2 [9,7,6,3,1,2] 2 ?_;refine o1 (cG ?_);refine go 2 ?_;rw[hnx];refine bk (j+1) rfl ?_ [0,1,2,3,4] mz;exact⟨by omega,by omega⟩
end
section
open Go Go.Vd Go.RowKit
attribute [local irreducible] bu bA di ak bL cU
variable {g gl:Nat→List D}
def iW(d m:Int)(t:Bool)(p:Int):Ob:=.cells [.d (.v (.int .i64 d)),.d (.v (.int .i64 m)),.d (.v (.bool t)),.d (.v (.int .i64 p))] 87
theorem G7(d m:Int)(t:Bool)(p:Int)(hd:0≤d∧d≤1099511627776):
 et Tryz.prog gl 84 [iW d m t p] [.cb 0 0] fun out ob'=>(m≤d∧out=.ret (.d (.v (.bool false)))∧ob'=[iW d m true p])∨(d<m∧out=.ret (.d (.v (.bool true)))∧ob'=[iW (d+1) m t p]):=by
 refine bS Tryz.func84 Tryz.ntmps84 1 ?_;refine gc 7 ?_;refine gz [0,1,2,3,4,5,6,7,8] mixed ?_;refine aZ ?_;refine ge 1 ?_;refine cj (fun h1=>?_) (fun h1=>?_)
 ·refine kc 8 [] 7 ?_;refine eo (.v (.bool false)) [0] [iW d m true p] ?_
  ·exact .inl ⟨by omega,rfl,rfl⟩
 refine kc 2 [0] 6 ?_;refine o1 (cG ?_);refine ko 5 [] 6 ?_;refine eo (.v (.bool true)) [0] [iW (d+1) m t p] ?_
 ·exact .inr ⟨by omega,rfl,rfl⟩
theorem xw(es:List cy)(w:Bool)(nm:ByteArray)(hE:QC es):
 et Tryz.prog gl 160 [bc es w,ba] [.cb 0 0,.d (.v (.string nm))] fun out ob'=>out=.ret (.d (.v (.bool (!decide ((bM nm es).1=0)))))∧ob'=[bc es w,ba]:=by
 have hq:=find_spec (gl:=gl) es w nm hE;rcases hF:bM nm es with⟨kf,⟨⟨kd,sd,pd,⟨k1,n1,s1,l1,a1⟩,⟨k2,n2,s2,l2,a2⟩,ad,cd'⟩,rpd,⟨k3,n3,s3,l3,a3⟩⟩,jf⟩;rw[hF] at hq;refine bS Tryz.func160 Tryz.ntmps160 2 ?_;refine gc 9 ?_;refine oc (ck Mm rfl rfl (hq) [0,1] rfl (bj (cr .nil)) (an (an .nil)) ?_);refine ko 10 [5] 8 ?_;refine sZ [0,1] [bc es w,ba] ?_
 ·exact ⟨rfl,rfl⟩
def O9:Option (List ByteArray×ae)→D
 |none=>.bZ [eA [],aQ.d,.v (.bool false)]
 |some x=>.bZ [eA x.1,x.2.d,.v (.bool true)]
variable {nm:ByteArray} {es:List cy} {k:Int} {e:cy} {j:Nat}
theorem IX(h:bM nm es=(k,e,j))(hk:k=0):ir nm es=none:=by
 unfold ir;rw[h];exact if_pos hk
theorem IW(h:bM nm es=(k,e,j))(hk:k=4){c:ByteArray×ae}(hc:e.d.cs[j]? =some c):ir nm es=some (e.d.ps,c.2):=by
 unfold ir;rw[h];subst hk;show(if (4:Int)=0 then none else if (4:Int)=4 then(e.d.cs[j]?).map (fun c=>(e.d.ps,c.2)) else _)=_;rw[if_neg (by decide),if_pos rfl,hc];rfl
theorem IV(h:bM nm es=(k,e,j))(hk:k=5):ir nm es=some (e.rp,e.rt):=by
 unfold ir;rw[h];subst hk;rfl
theorem IT(h:bM nm es=(k,e,j))(h0:¬k=0)(h4:¬k=4)(h5:¬k=5):ir nm es=some (e.d.ps,e.d.ty):=by
 unfold ir;rw[h];show(if k=0 then none else if k=4 then _ else if k=5 then _ else _)=_;rw[if_neg h0,if_neg h4,if_neg h5]
theorem Bx(es:List cy)(w:Bool)(nm:ByteArray)(hE:QC es)(hk:∀e∈es,e.d.k≠4):
 et Tryz.prog gl 25 [bc es w,ba] [.cb 0 0,.d (.v (.string nm))] fun out ob'=>out=.ret (.d (O9 (ir nm es)))∧ob'=[bc es w,ba]:=by
 have hq:=find_spec (gl:=gl) es w nm hE;have hc:=o8 (nm:=nm) hk;rcases hF:bM nm es with⟨kf,⟨⟨kd,sd,pd,⟨k1,n1,s1,l1,a1⟩,⟨k2,n2,s2,l2,a2⟩,ad,cd'⟩,rpd,⟨k3,n3,s3,l3,a3⟩⟩,jf⟩;rw[hF] at hq hc;simp only[dP.cs] at hc;have hcl:=iU cd';refine bS Tryz.func25 Tryz.ntmps25 2 ?_;refine gc 11 ?_;refine oc (ck Mm rfl rfl (hq) [0,1] rfl (bj (cr .nil)) (an (an .nil)) ?_);refine ko 11 [9,7,8,5] 12 ?_;refine cj (fun h3=>?_) (fun h3=>?_)
 ·refine kc 0 [5] 11 ?_;refine eo (O9 none) [0,1] [bc es w,ba] ?_
  ·rw [IX hF (by omega)];exact⟨rfl,rfl⟩
 refine gc 6 ?_;refine cj (fun h5=>?_) (fun h5=>?_)
 ·refine kc 1 [9,8,5] 0 ?_;obtain⟨⟨cn,⟨ck,cm,cs,cl,ca⟩⟩,hc1,hc2⟩:=hc (by omega);have hc3:=(List.getElem?_eq_some_iff.1 hc1).1;refine gz [0,1,2,3,4,5,6] mixed ?_;refine A1 7 rfl (cu yj Ap ⟨_,rfl,?_⟩ (he:=by exact(pk hc1)));refine ga [8,9,10] ?_;refine A2 11 rfl (dN bw ?_);refine ga [12] ?_;refine aZ ?_;refine ge 4 ?_;refine eo (O9 (some (pd,.mk ck cm cs cl ca))) [0,1] [bc es w,ba] ?_
  ·rw [IW hF (by omega) hc1];exact⟨rfl,rfl⟩
 refine kc 0 [17,8,5] 6 ?_;refine cj (fun h7=>?_) (fun h7=>?_)
 ·refine gc 1 ?_;refine gz [0,1,2,3,4] mixed ?_;refine A2 5 rfl (dN bw ?_);refine ga [6] ?_;refine aZ ?_;refine ge 4 ?_;refine eo (O9 (some (rpd,.mk k3 n3 s3 l3 a3))) [0,1] [bc es w,ba] ?_
  ·rw [IV hF (by omega)];exact⟨rfl,rfl⟩
 refine gc 4 ?_;refine gz [0,1,2,3,4,5,6] mixed ?_;refine A2 7 rfl (dN bw ?_);refine ga [8] ?_;refine aZ ?_;refine ge 2 ?_;refine eo (O9 (some (pd,.mk k1 n1 s1 l1 a1))) [0,1] [bc es w,ba] ?_
 ·rw [IT hF (by omega) (by omega) (by omega)];exact⟨rfl,rfl⟩
def iZ:ae:=.mk 1 0 .empty [.mk 0 .empty []] []
theorem oy(es:List cy)(w:Bool){B B':Int}(hB:B≤1125899906842624)(hB':B'≤1125899906842624)(k m:Int)(s:ByteArray)(ls:List aP)(args:List ae)(k2 m2:Int)(s2:ByteArray)(ls2:List aP)(args2:List ae)(hs1:(ae.mk k m s ls args).size≤1099511627776)(hs2:(ae.mk k2 m2 s2 ls2 args2).size≤1099511627776)(hsh1:iD B (.mk k m s ls args))(hsh2:iD B' (.mk k2 m2 s2 ls2 args2)):
 et Tryz.prog gl 64 [bc es w,ba] [.cb 0 0,.d (ae.mk k m s ls args).d,.d (ae.mk k2 m2 s2 ls2 args2).d] fun out ob'=> ∃(u:ae) (w':Bool),out=.ret (.d u.d)∧ob'=[bc es w',ba]∧
  ((w'=false∧w=false∧u=dp (.mk k m s ls args) (.mk k2 m2 s2 ls2 args2)∧u.size≤20000)∨(w'=true∧u=iZ)):=by
 have hsub:=qe (gl:=gl) (B:=max B B') (by omega) k2 m2 s2 ls2 args2 (jF (by omega) hsh2) hs2 k m s ls args (jF (by omega) hsh1) hs1;have hsz:=y7 (.mk k2 m2 s2 ls2 args2) (.mk k m s ls args) 0;have hX:=ae.case (dp (.mk k m s ls args) (.mk k2 m2 s2 ls2 args2))
 unfold dp at hX hsub;obtain⟨k3,m3,s3,l3,a3,hX⟩:=hX;rw[hX] at hsub hsz;refine bS Tryz.func64 Tryz.ntmps64 2 ?_;refine gc 11 ?_;refine oc (T:=fun _=>False) (bJ Ng rfl rfl rfl rfl (ED (B:=B) (B':=B') k m s ls args k2 m2 s2 ls2 args2 hs1 hs2 hsh1) (bo (bo .nil)) (fun d hd=>?_));obtain⟨bm,rfl,hbm⟩:=hd;refine ko 4 [7,6,5,4,0] 4 ?_;refine' oo (yt:=16) (d:=12) 4 ?a1 ?b1 ?_
 case a1=>
  intro hc hK;refine go 4 ?_;exact hK [_,_,_,_] rfl rfl
 case b1=>
  intro _ hK;refine go 4 ?_;exact hK [_,_,_,_] rfl
 refine go 2 ?_;refine cJ (fun h2=>?_) (fun h2=>?_)
 ·refine kc 3 [6,5,4] 0 ?_;obtain⟨h5,rfl⟩:=h2;refine gc 3 ?_;refine oc (cv Ot rfl rfl (hsub) (bo (bo .nil)) ?_);refine go 4 ?_;refine eo ((ae.mk k3 m3 s3 l3 a3).d) [0,1] [bc es false,ba] ?_
  ·exact ⟨.mk k3 m3 s3 l3 a3,false,rfl,rfl,.inl ⟨rfl,rfl,by unfold dp;rw[hX],by have:=hbm h5;omega⟩⟩
 refine kc 8 [6] 3 ?_;refine oc (gD ji [.tmp 21] eL ?_);refine go 6 ?_;refine eo (iZ.d) [0,1] [bc es true,ba] ?_
 ·exact ⟨iZ,true,rfl,rfl,.inr ⟨rfl,rfl⟩⟩
end
section
open Go Go.Vd Go.RowKit
attribute [local irreducible] bu bA di ak bL cU
variable {g gl:Nat→List D}
structure yi (sg:Sg) (e:cy):Prop where
 k:e.d.k=1∨e.d.k=2∨e.d.k=3
 ps:e.d.ps.length≤6
 nm:e.d.nm.size≤1000000
 ty:Wt sg e.d.ps e.d.ty 0∧e.d.ty.size≤800001
 vl:e.d.k=2→Wt sg e.d.ps e.d.vl 0∧e.d.vl.size≤800001
 cl:e.d.cs.length≤1000000
 ar:e.d.k=3→0≤e.d.ar∧e.d.ar≤bg e.d.ty
 cs:∀c∈e.d.cs,Wt sg e.d.ps c.2 0∧c.2.size≤800001∧e.d.ar≤bg c.2
 rp:e.rp.length≤7
 rt:e.d.k=3→Wt sg e.rp e.rt 0∧e.rt.size≤1099511627776
structure dg (es:List cy):Prop where
 len:es.length≤1000000
 nd:(es.map fun e=>e.d.nm).Nodup
 xP:∀e∈es,yi (eh es) e
variable {es:List cy}
theorem dg.b(h:dg es):QC es:=⟨by have:=h.len;omega,fun e he=>⟨by have:=(h.xP e he).cl;omega,by have:=(h.xP e he).nm;omega⟩⟩
theorem dg.k4(h:dg es):∀e∈es,e.d.k≠4:=fun e he hk=>by rcases(h.xP e he).k with h|h|h<;>omega
theorem dg.sg(h:dg es){s:ByteArray}{n:Nat}(hs:eh es s=some n):n≤7:=by
 unfold eh at hs;obtain⟨t,ht,rfl⟩:=Option.map_eq_some_iff.1 hs;unfold ir at ht;simp only at ht;split at ht
 ·cases ht
 ·rename_i h0;have hm:=uJ h0;have he:=h.xP _ hm;have h6:=he.ps;have h7:=he.rp;split at ht
  ·obtain ⟨c,_,rfl⟩:=Option.map_eq_some_iff.1 ht;simp only;omega
  ·split at ht
   ·cases ht;simp only;omega
   ·cases ht;simp only;omega
theorem we{sg:Sg}{ps:List ByteArray}{c:Int}:Wt sg ps iZ c:=Wt.sort ⟨.zero,rfl,⟨by decide,by decide,fun e=>absurd e (by decide),trivial⟩,fun p h=>h.elim⟩
theorem q9(es:List cy)(w:Bool)(ps:List ByteArray)(us:List aP)(hl:ps.length≤us.length)(hu:us.length≤1000000)(hus:∀u∈us,u.size≤1099511627776)(k m:Int)(s:ByteArray)(ls:List aP)(args:List ae)(hs1:(ae.mk k m s ls args).size≤1099511627776):
 et Tryz.prog gl 58 [bc es w,ba] [.cb 0 0,.d (ae.mk k m s ls args).d,.d (eA ps),.d (.sl 3 (bF us))] fun out ob'=> ∃(u:ae) (w':Bool),out=.ret (.d u.d)∧ob'=[bc es w',ba]∧
  ((w'=false∧w=false∧u=ew ps us (.mk k m s ls args)∧u.size≤20000)∨(w'=true∧u=iZ)):=by
 have hlv:=Ay (gl:=gl) ps us hl (by omega) _ k m s ls args (Nat.le_refl _) hs1;have htu:=xv (gl:=gl) _ k m s ls args (Nat.le_refl _) hs1;have htz:=pO (.mk k m s ls args);have hul:=bV us;have hsz:=fun M h=>wo ps us M h (.mk k m s ls args)
 obtain⟨k3,m3,s3,l3,a3,hX⟩:=ae.case (ew ps us (.mk k m s ls args))
 rw[hX] at hlv hsz;refine bS Tryz.func58 Tryz.ntmps58 2 ?_;refine gc 9 ?_;refine oc (T:=fun _=>False) (bJ vE rfl rfl rfl rfl (ld _ k m s ls args 20000 (Nat.le_refl _) (by omega) (by omega) (by omega)) (bo (an .nil)) (fun d hd=>?_));obtain⟨r,rfl,hr1,hr2,hr3⟩:=hd;refine ko 15 [11,10,9,8,5,0,2,3] 0 ?_;refine lP (ι:=Nat×Int) (fun⟨i,q⟩=>[(11,int i),(10,int q)]) [9,8,5,0,2,3] (fun⟨i,q⟩=>i≤us.length∧0≤q∧q≤1099511627776∧(q≤20000→∀u∈us.take i,(u.size:Int)≤q)) (fun⟨i,q⟩=>us.length-i) ((0,0)) rfl ?I2 ?M2 ?H2
 case I2=>
  exact⟨Nat.zero_le _,by omega,by omega,fun _ u hu=>by simp at hu⟩
 case M2=>
  exact mz
 case H2=>
  rintro⟨i,q⟩ hinv
  try dsimp only at hinv
  refine kc 0 [11,10,9,8,5,0,2,3] 9 ?_;refine cj (fun h4=>?_) (fun h4=>?_)
  ·refine kc 5 [11,10,9,8,5,0,2,3] 0 ?_;obtain⟨k2,s2,a2,hget⟩:=dh (show i<us.length by omega);have hgs:=hus _ (List.mem_of_getElem? hget);refine gc 3 ?_;refine o1 (cu fo fH ?_ (he:=by exact(dD hget)));refine go 1 ?_;refine oc (T:=fun _=>False) (bJ Dv rfl rfl rfl rfl (pD _ k2 s2 a2 20000 (Nat.le_refl _) (by omega) (by omega) (by omega)) (bo (an .nil)) (fun d hd=>?_));obtain⟨z,rfl,hz1,hz2,hz3⟩:=hd;refine ko 3 [12,11,10,9,8,5,0,2,3] 3 ?_;refine o1 (PF ?_);refine ko 4 [10,11,9,8,5,0,2,3] 2 ?_;refine o1 (cG ?_);refine go 2 ?_;refine bi (i+1,max q z) rfl ?_ mz
   ·refine ⟨⟨by omega,by omega,by omega,fun h u hm=>?_⟩,show us.length-(i+1)<us.length-i by omega⟩;rw[List.take_add_one,hget] at hm;rcases List.mem_append.1 hm with hm|hm
    ·have:=hinv.2.2.2 (by omega) u hm;omega
    ·simp only[Option.toList_some,List.mem_singleton] at hm;subst hm;have:=hz3 (by omega);omega
  refine kc 6 [10,9,8,5,0,2,3] 0 ?_;have hq:=hinv.2.2.2;rw[List.take_of_length_le (by omega)] at hq;refine kc 11 [31,13,10,9,8,5,0,2,3] 0 ?_;refine xc (ι:=Unit) (fun _=>[(13,int (if r≤20000 then(gu (.mk k m s ls args):Int) else 0))]) [10,9,8,5,0,2,3] (fun _=>True) rfl ?A3 ?B3
  case A3=>
   refine cJ (fun h9=>?_) (fun h9=>?_)
   ·refine gc 1 ?_;refine bi (()) rfl ?_ ?_
    ·trivial
    ·refine mo ?_ (ef rfl (by exact Fit.of_eq (by first|(rw[if_pos (by omega)];rfl)|(rw[if_neg (by omega)];rfl))) (aJ (aJ (aJ (aJ (aJ (aJ (aJ dC))))))))
     repeat (first|exact cH|refine bj ?_|refine cr ?_)
   refine gc 2 ?_;refine oc (cv Ni rfl rfl (htu) (bo .nil) ?_);refine go 2 ?_;refine bi (()) rfl ?_ ?_
   ·trivial
   ·refine mo ?_ (ef rfl (by exact Fit.of_eq (by first|(rw[if_pos (by omega)];rfl)|(rw[if_neg (by omega)];rfl))) (aJ (aJ (aJ (aJ (aJ (aJ (aJ dC))))))))
    repeat (first|exact cH|refine bj ?_|refine cr ?_)
  case B3=>
   rintro _ hcut
   try dsimp only at hcut
   refine kc 0 [13,10,9,8,5,0,2,3] 2 ?_;have hub:0≤(if r≤20000 then(gu (.mk k m s ls args):Int) else 0)∧(if r≤20000 then(gu (.mk k m s ls args):Int) else 0)≤20000:=(by split<;>omega);generalize hU:(if r≤20000 then(gu (.mk k m s ls args):Int) else 0)=U at hub ⊢;have hmul:0≤U*q:=Int.mul_nonneg (by omega) (by omega);have hmul2:U*q≤20000*1099511627776:=Int.mul_le_mul (by omega) (by omega) (by omega) (by omega);refine gc 6 ?_;refine' oo (yt:=44) (d:=38) 6 ?a1 ?b1 ?_
   case a1=>
    intro hc hK;refine go 3 ?_;refine gy ?_;refine o1 (AZ rfl rfl rfl (by omega) ?_);refine gy ?_;refine o1 (cG ?_);refine go 1 ?_;exact hK [_,_,_,_,_,_] rfl rfl
   case b1=>
    intro _ hK;refine go 6 ?_;exact hK [_,_,_,_,_,_] rfl
   refine go 2 ?_;refine cj (fun h11=>?_) (fun h11=>?_)
   ·refine kc 8 [8] 3 ?_;refine oc (gD ji [.tmp 49] eL ?_);refine go 6 ?_;refine eo (iZ.d) [0,1] [bc es true,ba] ?_
    ·exact ⟨iZ,true,rfl,rfl,.inr ⟨rfl,rfl⟩⟩
   refine kc 3 [8,5,2,3] 0 ?_;obtain⟨rfl,h9⟩:=h11;have hrr:=hr3 (by omega);rw[if_pos (by omega)] at hU;have hfin:(ae.mk k3 m3 s3 l3 a3).size≤20000:=(by
    rcases Int.lt_or_le 20000 q with h5|h5
    ·have hU0:U=0:=Classical.byContradiction fun h6=>by
      have h7:1*q≤U*q:=Int.mul_le_mul_of_nonneg_right (by omega) (by omega);omega
     have h8:=hsz 1099511627776 hus;rw[show gu (.mk k m s ls args)=0 by omega,Nat.zero_mul] at h8;omega
    ·have h8:=hsz q.toNat (fun u hu=>by have:=hq h5 u hu;omega);have h10:((gu (.mk k m s ls args)*q.toNat:Nat):Int)=U*q:=by
      rw[Int.natCast_mul,hU,Int.toNat_of_nonneg (by omega)]
     omega)
   refine gc 4 ?_;refine oc (cv Nh rfl rfl (hlv) (bo (an (an .nil))) ?_);refine go 4 ?_;refine eo ((ae.mk k3 m3 s3 l3 a3).d) [0,1] [bc es false,ba] ?_
   ·exact ⟨.mk k3 m3 s3 l3 a3,false,rfl,rfl,.inl ⟨rfl,rfl,hX.symm,hfin⟩⟩
end
section
open Go Go.Vd Go.RowKit
attribute [local irreducible] bu bA di ak bL cU
variable {g gl:Nat→List D}
def jN(name:ByteArray):ae→Int→Bool
 | .mk k _ s _ _,_=>decide (k=2)&&decide (s=name)
mutual
theorem AV{nm:ByteArray}:∀(t:ae) (d e:Int),eU (jN nm) t d=eU (jN nm) t e
 | .mk k m s ls args,d,e=>by
  simp only[eU,jN];rw[CY args _ d e]
theorem CY{nm:ByteArray}:∀(l:List ae) (b:Bool) (d e:Int),iF (jN nm) b l d=iF (jN nm) b l e
 |[],b,d,e=>rfl
 |t::r,b,d,e=>by
  simp only[iF];rw[AV t _ (if (b&&r.isEmpty)=true then e+1 else e),CY r b d e]
end
theorem j2(nm:ByteArray):∀(n:Nat) (k m:Int) (s:ByteArray) (ls:List aP) (args:List ae),(ae.mk k m s ls args).size≤n→(ae.mk k m s ls args).size≤1099511627776→
 cD Tryz.prog gl 150 [(ae.mk k m s ls args).d,.v (.string nm)] (· =.v (.bool (eU (jN nm) (.mk k m s ls args) 0))):=by
 intro n
 induction n with
 |zero=>intro k m s ls args h;simp[ae.size] at h
 |succ n ih=>
  intro k m s ls args hsz hb;have hsz2:=hsz;simp only[ae.size] at hsz2 hb;have hal:=aO args;have hsa:=br args;refine bD Tryz.func150 Tryz.ntmps150 ?_;refine gc 13 ?_;refine' oa (yt:=14) (d:=10) 4 ?a1 ?b1 ?_
  case a1=>
   intro hc hK;refine go 4 ?_;exact hK [_,_,_,_] rfl rfl
  case b1=>
   intro _ hK;refine go 4 ?_;exact hK [_,_,_,_] rfl
  refine go 2 ?_;refine cj (fun h1=>?_) (fun h1=>?_)
  ·refine kc 0 [] 7 ?_;refine ez ?_
   (simp only[eU,jN];rw[decide_eq_true h1.1,decide_eq_true h1.2];rfl)
  refine kc 3 [2,1] 6 ?_;refine lP (ι:=Nat) (fun i=>[(5,int i)]) [2,1] (fun i=>i≤args.length∧∀(j:Nat) t,j<i→args[j]? =some t→eU (jN nm) t 0=false) (fun i=>args.length-i) (0) rfl ?I2 ?M2 ?H2
  case I2=>
   exact⟨Nat.zero_le _,fun j t h=>absurd h (Nat.not_lt_zero _)⟩
  case M2=>
   exact mz
  case H2=>
   rintro i hinv
   try dsimp only at hinv
   refine kc 0 [5,2,1] 10 ?_;refine cJ (fun h4=>?_) (fun h4=>?_)
   ·refine kc 5 [] 6 ?_;refine ez ?_;rw[eU,oJ (fun j t ht=>(AV _ _ 0).trans (hinv.2 j t (by have:=(List.getElem?_eq_some_iff.1 ht).1;omega) ht)),Bool.or_false,jN,show(decide (k=2)&&decide (s=nm))=false from(by simp only[Bool.and_eq_false_iff,decide_eq_false_iff_not];first|exact h1|(by_cases h:k=2;exact .inr (h1 h);exact .inl h))]
   refine kc 5 [5,2,1] 0 ?_;obtain⟨k2,m2,s2,l2,a2,hget⟩:=bK (show i<args.length by omega);have hg1:=bG hget;refine gc 4 ?_;refine o1 (cu bB bH ?_ (he:=by exact(bW hget)));refine go 2 ?_;refine oc (cv xY rfl rfl (ih k2 m2 s2 l2 a2 (by omega) (by omega)) (bo (an .nil)) ?_);refine ko 3 [6,5,2,1] 5 ?_;refine cj (fun h7=>?_) (fun h7=>?_)
   ·refine kc 0 [] 11 ?_;refine ez ?_;rw[eU,pP hget ((AV _ _ 0).trans h7),Bool.or_true]
   refine gc 5 ?_;refine o1 (cG ?_);refine go 2 ?_;refine bi (i+1) rfl ?_ mz
   ·exact ⟨⟨by omega,fun j t hj ht=>by
    rcases Nat.lt_or_ge j i with h|h
    ·exact hinv.2 j t h ht
    ·obtain rfl:j=i:=by omega
     rw[hget] at ht;cases ht;exact h7⟩,by omega⟩
theorem Jm{acc:List ae}{j:Nat}{t:ae}(h:acc[acc.length-1-j]? =some t)(hj:j<acc.length):aH (acc.reverse.take j)++[t.cells]=aH (acc.reverse.take (j+1)):=by
 have h2:acc.reverse[j]? =some t:=by rw[List.getElem?_reverse hj];exact h
 rw[List.take_add_one,h2,dj];rfl
theorem eY(k m:Int)(s:ByteArray)(ls:List aP)(args:List ae)(hok:rh (.mk k m s ls args))(hsz:(ae.mk k m s ls args).size≤1099511627776):
 cD Tryz.prog gl 65 [(ae.mk k m s ls args).d] (· =.bZ [(bf (.mk k m s ls args)).1.d,.sl 5 (aH (bf (.mk k m s ls args)).2)]):=by
 refine bD Tryz.func65 Tryz.ntmps65 ?_;refine kc 14 [4,2,1] 0 ?_;refine bz 39 5 rfl ?_;refine lp (ι:=(Int×Int×ByteArray×List aP×List ae)×List ae) (fun⟨⟨k1,m1,s1,l1,a1⟩,acc⟩=>[(4,.own 2 5 (aH acc))]) (fun⟨⟨k1,m1,s1,l1,a1⟩,acc⟩=>[.cells [.d (.v (.int .i64 k1)),.d (.v (.int .i64 m1)),.d (.v (.string s1)),.d (.sl 3 (bF l1)),.d (.sl 5 (aH a1))] 39,.cells [.d (.v (.int .i64 0)),.d (.v (.int .i64 0)),.d (.v (.string .empty)),.d (.v (.slice none 0 0)),.d (.v (.slice none 0 0))] 39,.row 39 5]) [2,1] (fun⟨⟨k1,m1,s1,l1,a1⟩,acc⟩=>rh (.mk k1 m1 s1 l1 a1)∧bf (.mk k m s ls args)=((bf (.mk k1 m1 s1 l1 a1)).1,(bf (.mk k1 m1 s1 l1 a1)).2++acc.reverse)∧(ae.mk k1 m1 s1 l1 a1).size+acc.length≤(ae.mk k m s ls args).size) (fun⟨⟨k1,m1,s1,l1,a1⟩,acc⟩=>(ae.mk k1 m1 s1 l1 a1).size) ((⟨k,m,s,ls,args⟩,[])) ([0,1,2]) rfl ?I3 ?M3 ?H3
 case I3=>
  exact⟨hok,by simp,by simp⟩
 case M3=>
  refine mo ?_ (ef rfl (by(show Fit _ _ (SV.own 2 5 []);exact Fit.nil rfl)) (aJ (aJ dC)))
  repeat (first|exact cH|refine bj ?_|refine qx ?_)
 case H3=>
  rintro⟨⟨k1,m1,s1,l1,a1⟩,acc⟩ hinv
  try dsimp only at hinv
  refine kc 0 [4,2,1] 8 ?_;refine cj (fun h2=>?_) (fun h2=>?_)
  ·refine gc 4 ?_;obtain rfl:=h2;obtain⟨k2,m2,s2,l2,a2,k3,m3,s3,l3,a3,rfl,hok2⟩:=wz hinv.1 rfl;have hal:=aO acc;have hal2:=hinv.2.2;have hlast:aH acc++[[.v (.int .i64 k3),.v (.int .i64 m3),.v (.string s3),.sl 3 (bF l3),.sl 5 (aH a3)]]=aH (acc++[.mk k3 m3 s3 l3 a3]):=(dj acc [.mk k3 m3 s3 l3 a3]).symm;refine gc 4 ?_;refine o1 (cu bB bH ?_ (he:=by exact(rfl)));refine go 1 ?_;refine oc (gD dE [.tmp 14] bw ?_);refine oc (px dE ?_);refine ko 3 [4,2,1] 3 ?_;refine o1 (cu bB bH ?_ (he:=by exact(rfl)));refine go 4 ?_;rw[hlast];refine bk (⟨k2,m2,s2,l2,a2⟩,acc++[.mk k3 m3 s3 l3 a3]) rfl ?_ [0,1,2] mz;exact⟨⟨hok2,by rw[hinv.2.1,jh];simp,by have:=hinv.2.2;simp only[ae.size,aj,List.length_append,List.length_cons,List.length_nil] at this ⊢;omega⟩,by simp only[ae.size,aj];omega⟩
  refine gc 6 ?_;have hal:=aO acc;have hal2:=hinv.2.2;have hsp:=hinv.2.1;refine gc 9 ?_;refine o1 (iC ?_);refine ko 4 [6,5,4,2,1] 0 ?_;refine bz 39 5 rfl ?_;refine lp (ι:=Nat) (fun j=>[(6,int ((aH acc).length-1-j)),(5,.own 3 5 (aH (acc.reverse.take j)))]) (fun j=>[.cells [.d (.v (.int .i64 k1)),.d (.v (.int .i64 m1)),.d (.v (.string s1)),.d (.sl 3 (bF l1)),.d (.sl 5 (aH a1))] 39,.cells [.d (.v (.int .i64 0)),.d (.v (.int .i64 0)),.d (.v (.string .empty)),.d (.v (.slice none 0 0)),.d (.v (.slice none 0 0))] 39,.row 39 5,.row 39 5]) [4,2,1] (fun j=>j≤acc.length) (fun j=>acc.length-j) (0) ([0,1,2,3]) rfl ?I4 ?M4 ?H4
  case I4=>
   exact Nat.zero_le _
  case M4=>
   refine mo ?_ (ef rfl (by exact Fit.of_eq (by rw[show((0:Nat):Int)=0 from rfl,Int.sub_zero];rfl)) (ef rfl (by(rw[List.take_zero];exact Fit.nil rfl)) (aJ (aJ (aJ dC)))))
   repeat (first|exact cH|refine bj ?_|refine cr ?_|refine qx ?_)
  case H4=>
   rintro j hinv
   try dsimp only at hinv
   refine kc 0 [6,5,4,2,1] 7 ?_;refine cJ (fun h7=>?_) (fun h7=>?_)
   ·refine kc 6 [5,2,1] 0 ?_;rw[List.take_of_length_le (by rw[List.length_reverse];omega)];refine gc 8 ?_;refine ed (.bZ [(ae.mk k1 m1 s1 l1 a1).d,.sl 5 (aH acc.reverse)]) ?_;rw[hsp,kH h2,List.nil_append]
   refine gc 4 ?_;obtain⟨k2,m2,s2,l2,a2,hget⟩:=bK (show acc.length-1-j<acc.length by omega);have hix:(aH acc)[(((aH acc).length:Int)-1-j).toNat]? =some [.v (.int .i64 k2),.v (.int .i64 m2),.v (.string s2),.sl 3 (bF l2),.sl 5 (aH a2)]:=by rw[show(((aH acc).length:Int)-1-j).toNat=acc.length-1-j by omega,gY hget];rfl
   have hnx:aH (acc.reverse.take j)++[[.v (.int .i64 k2),.v (.int .i64 m2),.v (.string s2),.sl 3 (bF l2),.sl 5 (aH a2)]]=aH (acc.reverse.take (j+1)):=Jm hget (by omega);have htl:=aO (acc.reverse.take j);have htk:=List.length_take (i:=j) (l:=acc.reverse);have hrl:acc.reverse.length=acc.length:=List.length_reverse;refine gc 4 ?_;refine o1 (F9 bB bH ?_ (he:=by exact(hix)));refine go 1 ?_;refine oc (gD dE [.tmp 32] bw ?_);refine oc (px dE ?_);refine ko 4 [5,6,4,2,1] 2 ?_;refine o1 (iC ?_);refine go 2 ?_;rw[hnx];refine bk (j+1) rfl ?_ ([0,1,2,3]) ?_
   ·exact ⟨by omega,by omega⟩
   ·refine mo ?_ (ef rfl (by exact Fit.of_eq (by rw[show((j+1:Nat):Int)=(j:Int)+1 by omega,show((aH acc).length:Int)-1-((j:Int)+1)=(aH acc).length-1-j-1 by omega];rfl)) (aJ (aJ (aJ (aJ dC)))))
    repeat (first|exact cH|refine bj ?_|refine cr ?_)
theorem fg{f a:ae}{bs:List ae}{i:Nat}(h:bs[i]? =some a):bt f (bs.take (i+1))=.mk 3 0 .empty [] [bt f (bs.take i),a]:=by
 rw[List.take_add_one,h,bt,List.foldl_append];rfl
theorem pY(k m:Int)(s:ByteArray)(ls:List aP)(args:List ae)(bs:List ae)(hb:bs.length≤1099511627776):
 cD Tryz.prog gl 85 [(ae.mk k m s ls args).d,.sl 5 (aH bs)] (· =(bt (.mk k m s ls args) bs).d):=by
 have hal:=aO bs;refine bD Tryz.func85 Tryz.ntmps85 ?_;refine kc 13 [5,4,2,1] 0 ?_;refine lp (ι:=Nat×(Int×Int×ByteArray×List aP×List ae)) (fun⟨i,⟨k1,m1,s1,l1,a1⟩⟩=>[(5,int i)]) (fun⟨i,⟨k1,m1,s1,l1,a1⟩⟩=>[.cells [.d (.v (.int .i64 k1)),.d (.v (.int .i64 m1)),.d (.v (.string s1)),.d (.sl 3 (bF l1)),.d (.sl 5 (aH a1))] 39,.cells [.d (.v (.int .i64 0)),.d (.v (.int .i64 0)),.d (.v (.string .empty)),.d (.v (.slice none 0 0)),.d (.v (.slice none 0 0))] 39]) [4,2,1] (fun⟨i,⟨k1,m1,s1,l1,a1⟩⟩=>i≤bs.length∧bt (.mk k m s ls args) (bs.take i)=.mk k1 m1 s1 l1 a1) (fun⟨i,⟨k1,m1,s1,l1,a1⟩⟩=>bs.length-i) ((0,⟨k,m,s,ls,args⟩)) ([0,1]) rfl ?I5 ?M5 ?H5
 case I5=>
  exact⟨Nat.zero_le _,rfl⟩
 case M5=>
  exact mz
 case H5=>
  rintro⟨i,⟨k1,m1,s1,l1,a1⟩⟩ hinv
  try dsimp only at hinv
  refine kc 0 [5,4,2,1] 9 ?_;refine cJ (fun h2=>?_) (fun h2=>?_)
  ·refine kc 5 [4,2] 7 ?_;refine ed ((ae.mk k1 m1 s1 l1 a1).d) ?_;rw[← hinv.2,List.take_of_length_le (by omega)]
  refine kc 4 [5,4,2,1] 0 ?_;obtain⟨k2,m2,s2,l2,a2,hget⟩:=bK (show i<bs.length by omega);have hnw:=dt (gl:=gl) k1 m1 s1 l1 a1 k2 m2 s2 l2 a2;refine gz [0,1,2] mixed ?_;refine A1 3 rfl (cu bB bH ⟨_,rfl,?_⟩ (he:=by exact(bW hget)));refine ga [4] ?_;refine A2 5 rfl (cv pt rfl rfl (hnw) (bo (bo .nil)) ?_);refine A2 6 rfl (dN bw ?_);refine aZ ?_;refine ke 2 [5,4,2,1] 2 ?_;refine o1 (cG ?_);refine go 2 ?_;refine bk (i+1,⟨3,0,.empty,[],[.mk k1 m1 s1 l1 a1,.mk k2 m2 s2 l2 a2]⟩) rfl ?_ [0,1] mz;exact⟨⟨by omega,by rw[fg hget,hinv.2]⟩,show bs.length-(i+1)<bs.length-i by omega⟩
end
section
open Go Go.Vd Go.RowKit
def gh:Nat→ae→List ae
 |0,_=>[]
 |n+1,.mk _ _ _ _ [a,b]=>a::gh n b
 |_+1,_=>[]
theorem kS{k m:Int}{s:ByteArray}{ls:List aP}{args:List ae}(h:0<bg (.mk k m s ls args)):k=5∧∃a b,args=[a,b]∧bg (.mk k m s ls args)=bg b+1:=by
 match args with
 |[a,b]=>
  rw[bg] at h;split at h
  ·rename_i hk;exact⟨hk,a,b,rfl,by rw[bg,if_pos hk]⟩
  ·omega
 |[]=>simp[bg] at h
 |[a]=>simp[bg] at h
 |a::b::c::r=>simp[bg] at h
theorem ig:∀(n:Nat) (t:ae),n<bg t→∃m s ls a b,er n t=.mk 5 m s ls [a,b]∧er (n+1) t=b∧gh (n+1) t=gh n t++[a]∧bg t=n+1+bg b:=by
 intro n
 induction n with
 |zero=>
  intro t h;obtain⟨k,m,s,ls,args,rfl⟩:=ae.case t
  obtain⟨rfl,a,b,rfl,h2⟩:=kS h;exact⟨m,s,ls,a,b,rfl,rfl,rfl,by omega⟩
 |succ n ih=>
  intro t h;obtain⟨k,m,s,ls,args,rfl⟩:=ae.case t
  obtain⟨rfl,a,b,rfl,h2⟩:=kS (Nat.lt_of_le_of_lt (Nat.zero_le _) h);obtain⟨m1,s1,l1,a1,b1,h3,h4,h5,h6⟩:=ih b (by omega);exact⟨m1,s1,l1,a1,b1,h3,h4,by rw[gh,h5];rfl,by omega⟩
theorem dH:∀(n:Nat) (t:ae),(er n t).size+aj (gh n t)≤t.size:=by
 intro n
 induction n with
 |zero=>intro t;simp[er,gh,aj]
 |succ n ih=>
  intro t
  match t with
  | .mk k m s ls [a,b]=>
   have:=ih b;simp only[er,gh,ae.size,aj];omega
  | .mk k m s ls []=>simp[er,gh,aj]
  | .mk k m s ls [a]=>simp[er,gh,aj]
  | .mk k m s ls (a::b::c::r)=>simp[er,gh,aj]
theorem dV:∀(n:Nat) (t:ae),n≤bg t→(gh n t).length=n:=by
 intro n
 induction n with
 |zero=>intro t h;rfl
 |succ n ih=>
  intro t h;obtain⟨m,s,ls,a,b,h1,h2,h3,h4⟩:=ig n t (by omega);rw[h3,List.length_append,ih t (by omega)];rfl
variable {sg:Sg} {ps:List ByteArray}
theorem Wt.wN:∀(n:Nat) {t:ae} {c:Int},n≤bg t→Wt sg ps t c→Wt sg ps (er n t) (c+n)∧∀(i:Nat) x,(gh n t)[i]? =some x→Wt sg ps x (c+i):=by
 intro n
 induction n with
 |zero=>intro t c h hw;exact⟨by simpa[er] using hw,fun i x hx=>by simp[gh] at hx⟩
 |succ n ih=>
  intro t c h hw;obtain⟨m,s,ls,a,b,h1,h2,h3,h4⟩:=ig n t (by omega);obtain⟨hA,hB⟩:=ih (by omega) hw;rw[h1] at hA;obtain⟨a',b',hab,_,_,_,ha,hb⟩:=hA.two (.inr (.inr rfl));cases hab;rw[if_neg (by decide)] at hb;rw[h2,h3];refine⟨by rw[show c+((n+1:Nat):Int)=c+n+1 by omega];exact hb,fun i x hx=>?_⟩;rw[List.getElem?_append] at hx;split at hx
  ·exact hB i x hx
  ·rename_i hi;have hl:=dV n t (by omega);have:i=n:=by
    have:=(List.getElem?_eq_some_iff.1 hx).1;simp at this;omega
   subst this;rw[hl,Nat.sub_self] at hx;simp at hx;subst hx;exact ha
theorem Wt.xs{n:Nat}{t:ae}{c:Int}(h:n≤bg t)(hw:Wt sg ps t c):Wt sg ps (er n t) (c+n):=(hw.wN n h).1
def gp(given:List ae):Nat→ae→ae
 |0,t=>t
 |i+1,t=>gp given i (dp t (dz (given.getD i aQ) i 0))
def fh:Nat→ae→ae
 |0,b=>b
 |i+1,b=>fh i (.mk 3 0 .empty [] [b,.mk 0 i .empty [] []])
def iR(xs:List ae)(h:ae):ae:=xs.foldr (fun x h=>.mk 4 0 .empty [] [x,h]) h
def EM(rec:ae)(firsts:List ae)(p:Nat)(t1:ae)(a:ae):ae:=
 iR (gh (bg t1) t1) (.mk 3 0 .empty [] [bt (bt (dz rec (bg t1) 0) (firsts.map fun x=>dz x (bg t1) 0)) ((bf (er (bg t1) t1)).2.drop p),fh (bg t1) (dz a (bg t1) 0)])
def yE(rec:ae)(firsts:List ae)(p:Nat)(t:ae)(given:List ae)(a:ae):ae:=EM rec firsts p (gp given given.length t) a
theorem zF(xs:List ae)(h:ae):(iR xs h).size=aj xs+xs.length+h.size:=by
 unfold iR
 induction xs with
 |nil=>simp[aj]
 |cons x r ih=>rw[List.foldr_cons];simp only[ae.size,bh,aj,List.length_cons,ih];omega
theorem yV:∀(n:Nat) (b:ae),(fh n b).size=b.size+2*n
 |0,b=>rfl
 |n+1,b=>by rw[fh,yV n];simp only[ae.size,bh,aj];omega
theorem pQ(n:Int):∀l:List ae,aj (l.map fun x=>dz x n 0)=aj l
 |[]=>rfl
 |a::r=>by simp only[List.map_cons,aj,jk,pQ n r]
theorem oM(l:List ae)(p:Nat):aj (l.drop p)≤aj l:=by
 induction l generalizing p with
 |nil=>simp[aj]
 |cons a r ih=>
  cases p with
  |zero=>simp
  |succ p=>have:=ih p;simp only[List.drop_succ_cons,aj];omega
theorem J0(rec:ae)(firsts:List ae)(p:Nat)(t1 a:ae):(EM rec firsts p t1 a).size≤8*t1.size+rec.size+2*aj firsts+a.size+8:=by
 unfold EM;have h1:=dH (bg t1) t1;have h2:=dV (bg t1) t1 (Nat.le_refl _);have h3:=dT _ t1 (Nat.le_refl _);have h4:=dQ _ (er (bg t1) t1) (Nat.le_refl _);have h5:=oM (bf (er (bg t1) t1)).2 p;have h6:=br ((bf (er (bg t1) t1)).2.drop p);have h7:=br firsts;rw[zF];simp only[ae.size,bh,aj,cB,yV,jk,pQ,List.length_map];omega
theorem Wt.gp{sg:Sg}{ps:List ByteArray}{c:Int}(hc:0≤c){given:List ae}(hg:∀x∈given,Wt sg ps x c):∀(n:Nat) {t:ae},n≤given.length→Wt sg ps t (c+n)→Wt sg ps (gp given n t) c:=by
 intro n
 induction n with
 |zero=>intro t _ h;simpa[Go.Proofs.YtndbnldjidciiaaGreatDoor.gp] using h
 |succ n ih=>
  intro t hn h;rw[Go.Proofs.YtndbnldjidciiaaGreatDoor.gp];refine ih (by omega) (Wt.sub (by omega) (by rw[show c+(n:Int)+1=c+((n+1:Nat):Int) by omega];exact h) ?_);rw[List.getD_eq_getElem?_getD,List.getElem?_eq_getElem (by omega)];exact(hg _ (List.getElem_mem _)).NO (by omega)
theorem Wt.fh{sg:Sg}{ps:List ByteArray}{c:Int}(hc:0≤c):∀(n:Nat) {t:ae} {m:Nat},n≤m→Wt sg ps t (c+m)→Wt sg ps (fh n t) (c+m):=by
 intro n
 induction n with
 |zero=>intro t m _ h;exact h
 |succ n ih=>
  intro t m hn h;rw[Go.Proofs.YtndbnldjidciiaaGreatDoor.fh];exact ih (by omega) (Wt.app h (Wt.var (by omega) (by omega)))
theorem se(xs:List ae)(x h:ae):iR (xs++[x]) h=iR xs (.mk 4 0 .empty [] [x,h]):=by simp[iR]
theorem Wt.iR{sg:Sg}{ps:List ByteArray}{c:Int}:∀(n:Nat) {xs:List ae} {h:ae},xs.length=n→(∀ (i:Nat) x,xs[i]? =some x→Wt sg ps x (c+i))→Wt sg ps h (c+n)→Wt sg ps (iR xs h) c:=by
 intro n
 induction n with
 |zero=>
  intro xs h hl _ hw;rw[List.eq_nil_of_length_eq_zero hl]
  simpa[Go.Proofs.YtndbnldjidciiaaGreatDoor.iR] using hw
 |succ n ih=>
  intro xs h hl hx hw;obtain⟨ys,y,rfl⟩:∃ys y,xs=ys++[y]:=⟨xs.dropLast,xs.getLast (by intro e;rw[e] at hl;cases hl),(List.dropLast_concat_getLast _).symm⟩;have hly:ys.length=n:=by simp at hl;exact hl
  rw[se];refine ih hly (fun i x hi=>hx i x (by rw[List.getElem?_append_left (List.getElem?_eq_some_iff.1 hi).1];exact hi)) ?_;refine Wt.bind (.inl rfl) (hx n y (by rw[List.getElem?_append_right (by omega),hly,Nat.sub_self];rfl)) ?_;rw[show c+(n:Int)+1=c+((n+1:Nat):Int) by omega];exact hw
theorem Wt.yE{sg:Sg}{ps:List ByteArray}{c:Int}(hc:0≤c){rec t a:ae}{firsts given:List ae}{p:Nat}(hr:Wt sg ps rec c)(hf:∀x∈firsts,Wt sg ps x c)(hg:∀x∈given,Wt sg ps x c)(ha:Wt sg ps a c)(ht:Wt sg ps t (c+given.length)):Wt sg ps (yE rec firsts p t given a) c:=by
 have h1:=Wt.gp hc hg given.length (Nat.le_refl _) ht;unfold Go.Proofs.YtndbnldjidciiaaGreatDoor.yE EM;generalize Go.Proofs.YtndbnldjidciiaaGreatDoor.gp given given.length t=t1 at h1 ⊢;obtain⟨hE,hX⟩:=h1.wN (bg t1) (Nat.le_refl _);obtain⟨_,_,hS,_⟩:=Wt.spine _ (Nat.le_refl _) hE;refine Wt.iR (bg t1) (dV _ _ (Nat.le_refl _)) hX (Wt.app (Wt.apply (Wt.apply (hr.NO (by omega)) fun x hx=>?_) fun x hx=>hS x (List.mem_of_mem_drop hx)) (Wt.fh hc _ (Nat.le_refl _) (ha.NO (by omega))));obtain⟨y,hy,rfl⟩:=List.mem_map.1 hx;exact(hf y hy).NO (by omega)
end
section
open Go Go.Vd Go.RowKit
def gd(vs:List ae):ae→Int→ae
 | .mk k n s ls args,d=>if n-d<0 then .mk k n s ls args else if n-d<vs.length then dz (vs.getD (vs.length-1-(n-d).toNat) aQ) d 0 else .mk k (n-vs.length) s ls args
def eW(t:ae)(vs:List ae):ae:=if vs=[] then t else b0 (gd vs) t 0
theorem ju(t:ae)(vs:List ae):eW t vs=b0 (gd vs) t 0:=by
 unfold eW;split
 ·rename_i h;subst h;refine(uz (fun n s ls args j=>?_) t 0).symm;rw[gd];split
  ·rfl
  ·rw [if_neg (by simp;omega)];simp
 ·rfl
variable {vs:List ae} {v:ae}
theorem zR{i:Nat}(h:i<vs.length):(vs++[v]).getD i aQ=vs.getD i aQ:=by
 rw[List.getD_eq_getElem?_getD,List.getD_eq_getElem?_getD,List.getElem?_append_left h]
theorem zS:(vs++[v]).getD vs.length aQ=v:=by
 rw[List.getD_eq_getElem?_getD,List.getElem?_append_right (Nat.le_refl _),Nat.sub_self];rfl
theorem zK(G:ae→Int→ae)(m:Nat)(x:ae)(j:Int)(hj:0≤j)(hG:∀n s ls args (i:Int),0≤i→n≥i→b0 G (.mk 0 (n+(j+m)) s ls args) (i+j)=.mk 0 (n+j) s ls args)(hg:∀n s ls args (i:Int),0≤i→n<i→b0 G (.mk 0 n s ls args) (i+j)=.mk 0 n s ls args):
 b0 G (dz x (j+m) 0) j=dz x j 0:=by
 rw[dY,dY];have h:=qV (F:=dK (j+m) 0) (G:=fun t i=>G t (i+j)) (H:=dK j 0) (fun n s ls args i hi=>by
  rw[dK,dK];split
  ·rename_i h;have:=hG n s ls args i hi (by omega);rw[cO] at this;rw[cO];exact this
  ·rename_i h;have:=hg n s ls args i hi (by omega);rw[cO] at this;rw[cO];exact this) x 0 (Int.le_refl _)
 rw[← h];have key:∀(n:Nat) (t:ae) (i:Int),t.size≤n→b0 G t (i+j)=b0 (fun t i=>G t (i+j)) t i:=by
  intro n
  induction n with
  |zero=>intro t i h;obtain⟨k,m,s,ls,args,rfl⟩:=ae.case t;simp[ae.size] at h
  |succ n ih=>
   intro t i h;obtain⟨k,m,s,ls,args,rfl⟩:=ae.case t
   rw[b0,b0];split
   ·rfl
   ·congr 1
    simp only[ae.size] at h;have:∀l:List ae,aj l≤n→bQ G (decide (4≤k)) l (i+j)=bQ (fun t i=>G t (i+j)) (decide (4≤k)) l i:=by
     intro l
     induction l with
     |nil=>intro _;simp[bQ]
     |cons a r ihl=>
      intro hl;simp only[aj] at hl;rw[bQ,bQ,ihl (by omega)]
      congr 1
      split
      ·rw [show i+j+1=(i+1)+j by omega];exact ih a _ (by omega)
      ·exact ih a _ (by omega)
    exact this args (by omega)
 have:=key _ (b0 (dK (j+m) 0) x 0) 0 (Nat.le_refl _)
 rwa [Int.zero_add] at this
theorem EI(vs:List ae)(x:ae)(j:Int)(hj:0≤j):b0 (gd vs) (dz x (j+vs.length) 0) j=dz x j 0:=by
 refine zK _ vs.length x j hj (fun n s ls args i hi h=>?_) fun n s ls args i hi h=>?_
 ·rw [cO,gd,if_neg (by omega),if_neg (by omega)]
  congr 1;omega
 ·rw [cO,gd,if_pos (by omega)]
theorem EJ(v:ae)(x:ae)(j:Int)(hj:0≤j):b0 (de v) (dz x (j+1) 0) j=dz x j 0:=by
 have:=zK (de v) 1 x j hj (fun n s ls args i hi h=>by
  rw[cO,de,if_neg (by omega),if_neg (by omega)]
  congr 1;omega) fun n s ls args i hi h=>by rw[cO,de,if_pos (by omega)]
 simpa using this
theorem Eu(x:ae)(a b:Int)(ha:0≤a)(hb:0≤b):dz (dz x a 0) b 0=dz x (b+a) 0:=by
 rw[dY,dY,dY];refine qV (fun n s ls args j hj=>?_) x 0 (Int.le_refl _);rw[dK,dK];split
 ·rename_i h;rw[cO,dK,if_pos (by omega)]
  congr 1;omega
 ·rename_i h;rw[cO,dK,if_neg (by omega)]
theorem CS(t v:ae)(vs:List ae):eW t (vs++[v])=eW (dp t (dz v vs.length 0)) vs:=by
 rw[ju,ju,dp];refine(qV (fun n s ls args j hj=>?_) t 0 (Int.le_refl _)).symm;rw[de,gd];have hl:((vs++[v]).length:Int)=vs.length+1:=by simp
 split
 ·rename_i h;rw[cO,gd,if_pos h]
 ·rename_i h;rw[hl];split
  ·rename_i h1;rw[if_pos (by omega),show(n-j).toNat=0 by omega];rw[Eu _ _ _ (by omega) hj,EI vs v j hj];rw[show(vs++[v]).length-1-0=vs.length by simp,zS]
  ·rename_i h1;rw[cO,gd,if_neg (by omega)];by_cases h2:n-1-j<vs.length
   ·rw [if_pos h2,if_pos (by omega)];rw[show(vs++[v]).length-1-(n-j).toNat=vs.length-1-(n-1-j).toNat by simp;omega,zR (by omega)]
   ·rw [if_neg h2,if_neg (by omega)]
    congr 1;omega
theorem CT(b v:ae)(vs:List ae):b0 (de v) (b0 (gd vs) b 1) 0=eW b (vs++[v]):=by
 rw[ju];have key:∀(n:Nat) (t:ae) (i:Int),0≤i→t.size≤n→b0 (de v) (b0 (gd vs) t (i+1)) i=b0 (gd (vs++[v])) t i:=by
  intro n
  induction n with
  |zero=>intro t i _ h;obtain⟨k,m,s,ls,args,rfl⟩:=ae.case t;simp[ae.size] at h
  |succ n ih=>
   intro t i hi h;obtain⟨k,m,s,ls,args,rfl⟩:=ae.case t
   by_cases hk:k=0
   ·subst hk;rw[cO,cO,gd,gd];have hl:((vs++[v]).length:Int)=vs.length+1:=by simp
    rw[hl];by_cases h1:m-(i+1)<0
    ·rw [if_pos h1,cO,de];by_cases h2:m-i<0
     ·rw [if_pos h2,if_pos h2]
     ·rw [if_neg h2,if_neg h2,if_pos (by omega),if_pos (by omega),show(m-i).toNat=0 by omega,show(vs++[v]).length-1-0=vs.length by simp,zS]
    ·rw [if_neg h1,if_neg (show ¬m-i<0 by omega)];by_cases h2:m-(i+1)<vs.length
     ·rw [if_pos h2,if_pos (by omega),EJ v _ i hi];rw[show(vs++[v]).length-1-(m-i).toNat=vs.length-1-(m-(i+1)).toNat by simp;omega,zR (by omega)]
     ·rw [if_neg h2,if_neg (by omega),cO,de,if_neg (by omega),if_neg (by omega)]
      congr 1;omega
   ·rw [b0,if_neg hk,b0,if_neg hk,b0,if_neg hk];simp only[ae.size] at h
    congr 1
    have:∀l:List ae,aj l≤n→bQ (de v) (decide (4≤k)) (bQ (gd vs) (decide (4≤k)) l (i+1)) i=bQ (gd (vs++[v])) (decide (4≤k)) l i:=by
     intro l
     induction l with
     |nil=>intro _;simp[bQ]
     |cons a r ihl=>
      intro hl;simp only[aj] at hl;rw[bQ,bQ,bQ,jG,ihl (by omega)]
      congr 1
      split
      ·exact ih a _ (by omega) (by omega)
      ·exact ih a _ hi (by omega)
    exact this args (by omega)
 have:=key _ b 0 (Int.le_refl _) (Nat.le_refl _)
 rwa [Int.zero_add] at this
theorem qm(given:List ae):∀(n:Nat) (t:ae),n≤given.length→gp given n t=eW t (given.take n):=by
 intro n
 induction n with
 |zero=>intro t _;rw[gp,List.take_zero];rfl
 |succ n ih=>
  intro t hn;rw[gp,ih _ (by omega),List.take_add_one,List.getElem?_eq_getElem (by omega)];rw[Option.toList_some,CS,List.getD_eq_getElem?_getD,List.getElem?_eq_getElem (by omega)];rw[List.length_take,Nat.min_eq_left (by omega)];rfl
end
end Go.Proofs.YtndbnldjidciiaaGreatDoor
namespace Go.Vd
open Go Go.RowKit
section
variable {P:Program} {GL:Nat→List D} {n0:Nat} {Pn:pG}
variable {B:Bs} {n i:Nat} {sl sl':List (Nat×SV)} {ob ob1:List Ob} {g:Gh} {a:Act} {w:World}
theorem cE.Gn(h:cE GL B ⟨n,sl,ob⟩ g a w){o:Ob}{pl:Pl}{q:Option (Nat×List (List D))}{ds:List D}(ho:ob[i]? =some o)(hnm:∀f,o≠ .fK f)(hpl:g.gs[i]? =some pl)
 {m':Mem} (hmle:fP g.m m') (hF:Fz i q ds g ⟨m',g.gs⟩) (hsat:∀c off x,m' c off=some x→w.cell? ⟨c,off,none⟩=some x∧x.oneCell'=true) (hnew:∀c off,g.m c off=none→(cP o pl c→False)→m' c off=none)
 (o2:Ob) (hok2:eS ⟨m',g.gs⟩ w o2 pl) (hown2:∀c,cP o2 pl c→cP o pl c) (hit2:∀k f dn cur,o2≠ .jM k f dn cur)
 (hsl:sn i q ds sl=some sl') (hob:sH i q ds ob=some ob1):cE GL B ⟨n,sl',ob1.set i o2⟩ ⟨m',g.gs⟩ a w:=by
 have hget:=tH hob;have hil:=(List.getElem?_eq_some_iff.1 ho).1;have hlen:=h.store.len;have hneb:∀(j:Nat) oj pj c,j≠i→ob[j]? =some oj→g.gs[j]? =some pj→cP oj pj c→cP o pl c→False:=fun j oj pj c hj h1 h2 h3 e=>
  hj (h.store.oz j i oj o pj _ c h1 ho h2 hpl h3 e)
 refine⟨h.defers,h.size,fun t=>tG hF hsl (h.da t),?_,?_⟩
 ·refine h.store.step (p:=fun j=>j=i) hmle (fun _ _ h=>h) (fun _ _ _ h=>h) hsat (by simp[hget.1,hlen]) (fun j o1 hj h1=>?_) (fun j k f dn cur h1=>?_) (fun j k f dn cur hj h1 hk=>?_)
   (fun j o1 q c hj h1 h2 h3=>⟨rfl,fun off hn=>?_⟩) (fun j o1 hj h1=>?_) (fun j o1 q c hj h1 h2 h3=>?_) (fun i j oi oj pi pj b hi hj _ _ _ _ _ _=>hi.trans hj.symm)
  ·rw [List.getElem?_set_ne (Ne.symm hj)] at h1;obtain⟨o,e1,e2⟩:=hget.2 j o1 h1;exact⟨o,e1,(Ob.pF hF e2).1⟩
  ·by_cases hj:j=i
   ·subst hj;rw[List.getElem?_set_self (by rw[hget.1];exact hil)] at h1;exact absurd (Option.some.inj h1) (hit2 _ _ _ _)
   ·rw [List.getElem?_set_ne (Ne.symm hj)] at h1;obtain⟨o0,e1,e2⟩:=hget.2 j _ h1;have e3:=(Ob.pF hF e2).2.1 _ _ _ _ rfl;subst e3;have e4:=h.store.eD j k f dn cur e1;have hk:k≠i:=fun e=>by subst e;rw[ho] at e4;cases e4;exact hnm f rfl
    rw[List.getElem?_set_ne (Ne.symm hk)];have hkl:=(List.getElem?_eq_some_iff.1 e4).1;obtain⟨o5,e5,e6⟩:=hget.2 k ob1[k] (by simp[hget.1,hkl]);rw[e4] at e5;cases e5;rw[List.getElem?_eq_getElem (by rw[hget.1];exact hkl),(Ob.pF hF e6).2.2 f rfl]
  ·rw [List.getElem?_set_ne (Ne.symm hj)] at h1;obtain⟨o0,e1,e2⟩:=hget.2 j _ h1;have e3:=(Ob.pF hF e2).2.1 _ _ _ _ rfl;subst e3 hk;have e4:=h.store.eD j k f dn cur e1;rw[ho] at e4;cases e4;exact hnm f rfl
  ·exact hnew c off hn (hneb j o1 q c hj h1 h2 h3)
  ·subst hj;rw[List.getElem?_set_self (by rw[hget.1];exact hil)] at h1;cases h1;exact⟨_,hpl,hok2⟩
  ·subst hj;rw[List.getElem?_set_self (by rw[hget.1];exact hil)] at h1;cases h1;simp only at h2;rw[hpl] at h2;cases h2;exact .inl ⟨_,_,_,rfl,ho,hpl,hown2 _ h3⟩
 ·refine h.fI.step (X:=fun c=>cP o pl c) (Fr.refl _ w) (fun c e=>h.fI.own i _ _ c ho hpl e) hmle (fun c off x hx hn=>?_) (fun j o1 p c h1 h2 h3=>?_) (fun _ _ h=>h)
  ·refine .inl (Classical.byContradiction fun hc=>?_);have:=hnew c off hn hc;simp only at hx;rw[this] at hx;cases hx
  ·by_cases hj:j=i
   ·subst hj;rw[List.getElem?_set_self (by rw[hget.1];exact hil)] at h1;cases h1;simp only at h2;rw[hpl] at h2;cases h2;exact .inl (h.fI.own _ _ _ _ ho hpl (hown2 _ h3))
   ·rw [List.getElem?_set_ne (Ne.symm hj)] at h1;obtain⟨o0,e1,e2⟩:=hget.2 j o1 h1;refine .inl (h.fI.own j o0 p c e1 h2 ?_);cases o0<;>simp only[Ob.fz,Option.bind_eq_some_iff,Option.some.injEq] at e2
    case cells l ty=>obtain⟨l',_,rfl⟩:=e2;cases p<;>exact h3
    all_goals (subst e2;exact h3)
variable {e k:Nat}
theorem cE.QR(h:cE GL B ⟨n,sl,ob⟩ g a w){t:Nat}{ls:List (List D)}{pq:Option (Option Nat×Nat)}(ho:ob[i]? =some (.buf e k ls pq))(ht:gK t sl=some (.arr i ls.length))
 (hsl:sn i (some (k,ls)) [] sl=some sl') (hob:sH i (some (k,ls)) [] ob=some ob1):∃g',cE GL B ⟨n,(t,.own i k ls)::sl',ob1.set i (.row e k)⟩ g' a w:=by
 obtain⟨pl,hpl⟩:=h.store.place ho;have hok:=h.store.gX _ _ _ ho hpl;have hv:(SV.arr i ls.length).Den g (a.tmps.getD t undef):=by rw[← fu ht];exact h.da t
 have key:∀{m':Mem} {b:Option Nat} {c:Nat},cE GL B ⟨n,sl',ob1.set i (.row e k)⟩ ⟨m',g.gs⟩ a w→g.gs[i]? =some (.row b c ls.length)→ls.length≤c→(ls≠[]→∃d,b=some d∧ey m' k d 0 ls)→cE GL B ⟨n,(t,.own i k ls)::sl',ob1.set i (.row e k)⟩ ⟨m',g.gs⟩ a w:=fun hr hb hc hd=>by
  refine⟨hr.defers,hr.size,fun t'=>?_,hr.store,hr.fI⟩;rw[eM];split
  ·rename_i e;subst e;obtain⟨b',cap,h1,h2⟩:=hv;rw[hb] at h1;cases h1;exact⟨_,_,hb,h2,hc,hd⟩
  ·exact hr.da t'
 cases pl with
 |loc b=>exact hok.elim
 |row b c m=>
  obtain⟨hm,hl,⟨xs,hown,hdx,h1x⟩,hmn⟩:=sP h.store ho hpl;subst hm;cases b with
  |none=>
   have hm0:ls.length=0:=by
    rcases hown.2 with⟨_,h2⟩|⟨g0,c0,cur,h2,_⟩
    ·exact h2
    ·cases h2
   have hls:ls=[]:=List.length_eq_zero_iff.1 hm0;refine⟨⟨g.m,g.gs⟩,key (h.Gn (q:=some (k,ls)) (ds:=[]) ho (fun f e=>by cases e) hpl (fP.refl _) ⟨fP.refl _,fun _ _ h=>h,fun b hb=>trivial,fun r n y hr hd=>?_⟩ h.store.sat (fun _ _ h _=>h) (.row e k) ⟨⟨xs,hown⟩,fun c hc=>by cases hc⟩ (fun c hc=>hc) (fun _ _ _ _ e=>by cases e) hsl hob) hpl (by omega) fun h=>absurd hls h⟩;cases hr;obtain⟨b',cap,hb,e⟩:=hd;rw[hpl] at hb;cases hb;exact⟨none,c,by rw[e,hls];rfl,by simp[hls],fun h=>absurd hls h⟩
  |some b=>
   have hrow:=qN (b:=b) hown;have hmle:fP g.m (eV g.m b xs):=fP.set fun off x hx=>by rw[hmn b rfl] at hx;cases hx
   have hden:ey (eV g.m b xs) k b 0 ls:=ph hl (dI.mono hmle _ hdx) fun i x hx=>by
    show eV _ _ _ _ _=_;unfold eV;rw[if_pos rfl,Nat.zero_add];exact hx
   refine⟨⟨eV g.m b xs,g.gs⟩,key (h.Gn (q:=some (k,ls)) (ds:=[]) ho (fun f e=>by cases e) hpl hmle ⟨hmle,fun _ _ h=>h,fun b hb=>trivial,fun r n y hr hd=>?_⟩ (fun c' off x hx=>?_) (fun c' off hn hc=>?_) (.row e k) ⟨⟨xs,hown⟩,fun d hd o hlo=>?_⟩ (fun c hc=>hc) (fun _ _ _ _ e=>by cases e) hsl hob) hpl hrow.1 fun _=>⟨b,rfl,hden⟩⟩
   ·cases hr;obtain⟨b',cap,hb,e⟩:=hd;rw[hpl] at hb;cases hb;exact⟨some ⟨b,0,none⟩,c,by rw[e];rfl,hrow.1,fun _=>⟨b,0,rfl,hden⟩⟩
   ·simp only[eV] at hx;by_cases hcb:c'=b
    ·subst hcb;rw[if_pos rfl] at hx;exact⟨hrow.2 off x hx,h1x x (List.mem_of_getElem? hx)⟩
    ·rw [if_neg hcb] at hx;exact h.store.sat c' off x hx
   ·unfold eV;rw[if_neg (fun e=>hc (by rw[e];rfl))];exact hn
   ·cases hd;show eV _ _ _ _ _=_;unfold eV;have hxl:=hown.1;rw[if_pos rfl,List.getElem?_eq_none (by omega)]
theorem Cl{ops l:List Oper}{Q:Ex→St→Prop}{ob':List Ob}(i t:Nat){ls:List (List D)}{pq:Option (Option Nat×Nat)}(ho:cY i ob=some (.buf e k ls pq))(ht:gK t sl=some (.arr i ls.length))(hsl:sn i (some (k,ls)) [] sl=some sl')(hob:sH i (some (k,ls)) [] ob=some ob1)(hob':gT i (.row e k) ob1=some ob')
 (h:bA P GL n0 Pn ops l Q ⟨n,(t,.own i k ls)::sl',ob'⟩):bA P GL n0 Pn ops l Q ⟨n,sl,ob⟩:=fun B hB a w ⟨g,hr⟩=>by
 obtain⟨g',hr'⟩:=hr.QR (bR ho) ht hsl hob;rw[← (eT hob').1] at hr';exact h B hB a w ⟨g',hr'⟩
end
end Go.Vd
namespace Go.Vd
open Go Go.RowKit
section
variable {P:Program} {GL:Nat→List D} {n0:Nat} {Pn:pG} {o:Oper}
variable {σ:St} {K:SV→List Nat→Prop} {T:TypeId} {x:Operand} {n c:Nat}
theorem sJ(hu:P.underlying T=some (.slice (bl P T).elem))(ho:o.op=.call { callee:=.builtin .cap,args:= #[x],argTypes:= #[T] })
 (hx:bT GL σ.sl x=some (.d (.v (.slice none n c)))) (hK:K (.d (.v (.int .i64 c))) []):ak P GL o σ K:=eg fun B g a w hr=>by
 have h1:a.eval x=.slice none n c:=hr.fk hx;exact⟨.d (.v (.int .i64 c)),.int .i64 c,fun w'=>by simp[execOp,ho,h1,resolve,invoke,builtin,Builtin.cap_,run_underlying hu,goInt],rfl,hK⟩
variable {ti:TI}
theorem AY{hi:Operand}{k2:IntKind}(hu:P.underlying T=some (.slice (bl P T).elem))(hT:bl P (bl P T).elem=ti)(hok:ti.ok=true)
 (ho:o.op=.slice T x none (some hi) none) (hx:bT GL σ.sl x=some (.d (.v (.slice none 0 0)))) (hh:bT GL σ.sl hi=some (.d (.v (.int k2 0)))) (hK:K (.d (.v (.slice none 0 0))) []):ak P GL o σ K:=eg fun B g a w hr=>by
 have e1:a.eval x=.slice none 0 0:=hr.fk hx;have e3:a.eval hi=.int k2 0:=hr.fk hh;rw[← hT] at hok;obtain⟨inf,d,hinf,hdd,hs',_⟩:=th hok;refine⟨.d (.v (.slice none 0 0)),.slice none 0 0,fun w'=>?_,rfl,hK⟩;simp only[execOp,ho,e1,e3,Option.map_some,Option.map_none,Sem.run_bind];have h2:=jm (P:=P) (kd:=k2) (i:=0) (y:=0) (c:=.sliceAcap) (by omega) (by omega) w';simp[Instr.sliceAt,Instr.slice,run_underlying hu,Instr.sliceBounds,h2,sizeOf,typeInfo,hinf]
theorem EZ{s:SV}{d:D}(hc:nN P T=true)(ho:o.op=.makeInterface T x)(hx:bT GL σ.sl x=some s)(hs:s.gW=some d)(hK:K (.d (.me T d)) []):ak P GL o σ K:=eg fun B g a w hr=>
 ⟨.d (.me T d),.iface T (a.eval x),fun w'=>by simp only[execOp,ho,Sem.run_bind,uo hc,Result.andThen_ok,Sem.run_pure],⟨_,rfl,SV.Den.gW _ (hr.fk hx) hs⟩,hK⟩
def JX:D→Bool
 | .cp _=>true
 |_=>false
def RF(X:D):Prop:=X=.v (.pointer none)∨∃l,X=.cp l
variable {e:TypeId}
theorem HK{T':TypeId}{X:D}(hp:P.underlying T=some (.pointer e))(ho:o.op=.binOp .eql T x (.const (.pointer none)) T')(hx:bT GL σ.sl x=some (.d X))(hX:RF X)(hK:K (.d (.v (.bool (!JX X)))) []):ak P GL o σ K:=by
 rcases hX with rfl|⟨l,rfl⟩
 ·exact vw hp ho hx hK
 ·exact xJ hp ho hx hK
theorem tW{z:Array Value}:Builtin.zeroCells z n=madeCells z (n*z.size):=rfl
theorem vK(t u ty e:TypeId)(i:TypeInfo)(z:Value)(ht:P.underlying t=some (.slice e))(hu:P.underlying u=some (.int .i64))(hi:P.info? e=some i)(hz:i.zero=some z)(n:Nat)(h0:0<n)(h63:(n:Int)≤9223372036854775807)(h48:n*i.bytes≤281474976710656)(hz0:0<i.size)(w:World):
 (Builtin.append_ #[t,u] ty #[.slice none 0 0,.int .i64 n]).run P w=
  .ok (.slice (some ⟨w.heap.size,0,none⟩) n (grownCap w n 0 e)) (w.drew.alloc (.cells (Builtin.zeroCells z.cells n++Builtin.zeroCells z.cells (grownCap w n 0 e-n)) e)):=by
 have hn:n≠0:=by omega
 have h63':¬(9223372036854775807<(n:Int)):=by omega
 have h48':¬(281474976710656<Builtin.nextslicecap n 0*i.bytes):=by rw[nextslicecap_zero h0];omega
 have hw:IntKind.i64.wrap (n:Int)=n:=v7 (by omega) h63;have hl:¬(n:Int)<0:=by omega
 have hb:¬(281474976710656<(n:Int)*i.bytes):=by
  have:((n*i.bytes:Nat):Int)≤281474976710656:=by omega
  rw[Int.natCast_mul] at this;omega
 have hs:n≠0∧i.size≠0:=⟨hn,by omega⟩;simp[Builtin.append_,run_underlying ht,run_underlying hu,sizeOf,typeInfo,zeroValue,hi,hz,asInt,asIntOf,hw,hl,hb,hn,h63',h48',hs,Question.forced,run_firstCells_none,newRow,grownCap];intro h;exact absurd h (Nat.ne_of_gt (Nat.mul_pos h0 hz0))
theorem En{t j:Nat}{sl:List (Nat×SV)}{ob ob':List Ob}{K:St→Prop}{T:Nat→Prop}{ty u:TypeId}{size bytes:Nat}{s:Operand}(TS:iY P ty e size bytes)(hU:P.underlying u=some (.int .i64))(hT:bl P e=ti)(ho:o.op=.call { callee:=.builtin .append,args:= #[s,x],argTypes:= #[ty,u] })
 (hd:o.dst=some t) (ht:Nat.blt t n=true) (hs:bT GL sl s=some (.d (.v (.slice none 0 0)))) (hx:bT GL sl x=some (.d (.v (.int .i64 (c:Nat))))) (hone:ti.zero.all (·.oneCell')=true) (hl:ob.length=j) (hb:0<c∧0<size∧c*bytes≤281474976710656∧c≤maxLen) (hob:ib ob [.buf e size (List.replicate c (ti.zero.map D.v)) none]=some ob')
 (h:K ⟨n,(t,.arr j c)::sl,ob'⟩):di P GL n0 Pn T o ⟨n,sl,ob⟩ K:=fun B hB g a w hr next Q hK hP=>by
 subst hl hT;obtain⟨hb0,hb1,hb2,hb3⟩:=hb;rw[fj hob] at h;have hinfo:=TS.info;have hzero:=TS.zero;cases hi:P.info? e with
 |none=>simp[hi] at hinfo
 |some i=>
 rw[hi] at hinfo hzero;simp only[Option.map_some,Option.some.injEq,Prod.mk.injEq,Option.bind_some] at hinfo hzero;cases hz:i.zero with
 |none=>simp[hz] at hzero
 |some z=>
 rw[hz] at hzero;simp only[Option.map_some,Option.some.injEq] at hzero;obtain⟨q1,q2⟩:=hinfo;have hze:(bl P e).zero=z.cells.toList:=by simp[bl,hi,hz]
 rw[hze] at h hone;have hse:a.eval s=.slice none 0 0:=hr.fk hs;have hxe:a.eval x=.int .i64 (c:Nat):=hr.fk hx;have hrun1:=vK (P:=P) ty u o.type e i z TS.under hU hi hz c hb0 (by simp only[maxLen] at hb3;omega) (by rw[q2];exact hb2) (by omega) w;have hge:=grownCap_ge w c 0 e;have hcm:grownCap w c 0 e≤maxLen:=grownCap_le_maxLen w c 0 e hb3;generalize hcap:grownCap w c 0 e=cap at hrun1 hge hcm;have hrun2:(execOp a.eval o).run P w=.ok (.value (.slice (some ⟨w.heap.size,0,none⟩) c cap)) (w.drew.alloc (.cells (Builtin.zeroCells z.cells c++Builtin.zeroCells z.cells (cap-c)) e)):=by
  simp[execOp,ho,hse,hxe,resolve,invoke,builtin,hrun1]
 unfold Oper.wp;rw[hrun2];show next (a.put o.dst _) _
 rw[hd];have hm0:∀o,g.m w.heap.size o=none:=fun o=>by
  cases hx:g.m w.heap.size o with
  |none=>rfl
  |some x=>have:=hr.store.jl hx;omega
 have hone2:∀u∈z.cells.toList,u.oneCell'=true:=fun u hu=>List.all_eq_true.1 hone u hu
 have hflat:((List.replicate c (z.cells.toList.map D.v)).flatten)=((List.replicate c z.cells.toList).flatten).map D.v:=by
  rw[List.map_flatten,List.map_replicate]
 have hdv:∀l:List Value,dI g.m (l.map D.v) l:=fun l=>by
  induction l with
  |nil=>rfl
  |cons x r ih=>exact⟨x,r,rfl,rfl,ih⟩
 have hzl:(List.replicate c z.cells.toList).flatten.length=c*size:=by
  have:=congrArg List.length (uA hzero c);rw[← this];simp[size_madeCells]
 have hown:(w.drew.alloc (.cells (Builtin.zeroCells z.cells c++Builtin.zeroCells z.cells (cap-c)) e)).ownsRow 0 e size (.slice (some ⟨w.heap.size,0,none⟩) c cap) c (List.replicate c z.cells.toList).flatten:=by
  refine⟨hzl,.inr ⟨w.heap.size,_,_,rfl,Nat.zero_le _,heap_alloc_new w.drew _,hge,hcm,?_,?_⟩⟩
  ·rw [Array.size_append,tW,tW,size_madeCells,size_madeCells,hzero,←Nat.add_mul];congr 1;omega
  ·rw [Array.toList_append,tW,hzero,uA hzero,←hzl];exact List.take_left
 obtain⟨h1,h2⟩:=hr.AK (w':=w.drew.alloc (.cells (Builtin.zeroCells z.cells c++Builtin.zeroCells z.cells (cap-c)) e)) (((Fr.refl _ w).drew).alloc _) (fP.refl _) (fun b o x h1 h2=>by rw[h2] at h1;cases h1) (o':=.buf e size (List.replicate c (z.cells.toList.map D.v)) none) (pl:=.row (some w.heap.size) cap c)
  ⟨by simp,fun x hx=>by rw[(List.mem_replicate.1 hx).2];simpa using hzero,⟨_,hown,by rw[hflat];exact hdv _,fun u hu=>by
   obtain⟨l,hl,hu⟩:=List.mem_flatten.1 hu;rw[(List.mem_replicate.1 hl).2] at hu;exact hone2 u hu⟩,(fun c hc o=>by cases hc;exact hm0 o),fun r e=>by cases e⟩ (fun b hb=>by simp only[cP,dU,Option.some.injEq] at hb;omega) (fun i f dn cur e=>by cases e)
 refine hK _ _ _ _ (h1.ri (s:=.arr ob.length c) ht ⟨some w.heap.size,cap,?_,rfl⟩) ⟨h2.1,fun i b o _=>h2.2 i b o (fun x=>x)⟩ h;show(g.gs++[_])[ob.length]? =_;have hl2:ob.length=g.gs.length:=hr.store.len;rw[hl2];simp
end
end Go.Vd
namespace Go.Proofs.YtndbnldjidciiaaGreatDoor
section
open Go Go.Vd Go.RowKit
attribute [local irreducible] bu bA di ak bL cU
variable {g gl:Nat→List D}
theorem wk:∀{C:List ae} {i:Nat} {t:ae},(aH C).set i t.cells=aH (C.set i t)
 |[],i,t=>by simp[aH]
 |a::r,0,t=>by simp[aH]
 |a::r,i+1,t=>by simp[aH,wk]
def Jo(L C:List ae)(i:Nat):Prop:=C.length=L.length∧∀x,x<L.length→C[x]? =if x<i∨L.length≤x+i then L[L.length-1-x]? else L[x]?
theorem He(L:List ae):Jo L L 0:=⟨rfl,fun x hx=>by rw[if_neg (by omega)]⟩
variable {L C:List ae} {i:Nat}
theorem zm{ti tj:ae}(h:Jo L C i)(hij:i+1<L.length-i)(hi:C[i]? =some ti)(hj:C[L.length-1-i]? =some tj):Jo L ((C.set i tj).set (L.length-1-i) ti) (i+1):=by
 obtain⟨h1,h2⟩:=h;refine⟨by simpa using h1,fun x hx=>?_⟩;have ei:=h2 i (by omega);have ej:=h2 (L.length-1-i) (by omega);rw[if_neg (by omega)] at ei ej;rw[List.getElem?_set,List.getElem?_set,List.length_set,h1];by_cases e1:L.length-1-i=x
 ·rw [if_pos e1,if_pos (by omega),if_pos (by omega),show L.length-1-x=i by omega,←ei,hi]
 ·rw [if_neg e1];by_cases e2:i=x
  ·rw [if_pos e2,if_pos (by omega),if_pos (by omega),←e2,←ej,hj]
  ·rw [if_neg e2,h2 x hx];by_cases e3:x<i∨L.length≤x+i
   ·rw [if_pos e3,if_pos (by omega)]
   ·rw [if_neg e3,if_neg (by omega)]
theorem Jn(h:Jo L C i)(hi:¬(i:Int)<(L.length:Int)-1-i):C=L.reverse:=by
 obtain⟨h1,h2⟩:=h;apply List.ext_getElem?;intro x;by_cases hx:x<L.length
 ·rw [h2 x hx,List.getElem?_reverse hx];by_cases e3:x<i∨L.length≤x+i
  ·rw [if_pos e3]
  ·rw [if_neg e3,show L.length-1-x=x by omega]
 ·rw [List.getElem?_eq_none (by omega),List.getElem?_eq_none (by simp;omega)]
theorem tr{pq:Option (Option Nat×Nat)}(L:List ae)(hb:L.length≤1099511627776):et Tryz.prog gl 133 [.buf 39 5 (aH L) pq] [.arr 0 (aH L).length] fun out ob'=>out=.ret (.d (.bZ []))∧ob'=[.buf 39 5 (aH L.reverse) pq]:=by
 have hN:=aO L;refine bS Tryz.func133 Tryz.ntmps133 1 ?_;refine gc 3 ?_;refine o1 (gI bB rfl rfl ?_);refine o1 (iC ?_);refine ko 5 [3,2,0] 0 ?_;refine lp (ι:=Nat×List ae) (fun⟨i,C⟩=>[(2,int i),(3,int ((aH L).length-1-i))]) (fun⟨i,C⟩=>[.buf 39 5 (aH C) pq]) [0] (fun⟨i,C⟩=>Jo L C i∧i≤L.length) (fun⟨i,C⟩=>L.length-i) ((0,L)) ([0]) rfl ?I1 ?M1 ?H1
 case I1=>
  exact⟨He L,Nat.zero_le _⟩
 case M1=>
  refine mo ?_ (aJ (ef rfl (by exact Fit.of_eq (by rw[show((0:Nat):Int)=0 from rfl,Int.sub_zero];rfl)) (aJ dC)))
  repeat (first|exact cH|refine ya ?_)
 case H1=>
  rintro⟨i,C⟩ hinv
  try dsimp only at hinv
  refine kc 0 [2,3,0] 8 ?_;refine cJ (fun h1=>?_) (fun h1=>?_)
  ·refine gc 4 ?_;refine fM ?_;refine jO (l:=[]) rfl rfl ([0]) ([.buf 39 5 (aH C) pq]) rfl rfl rfl ?_ ?_
   ·repeat (first|exact cH|refine ya ?_)
   ·rw [Jn hinv.1 (by rw[← hN];omega)];exact⟨rfl,rfl⟩
  refine gc 4 ?_;have hCl:=hinv.1.1;have hCt:=aO C;obtain⟨k1,m1,s1,l1,a1,hg1⟩:=bK (show i<C.length by omega);obtain⟨k2,m2,s2,l2,a2,hg2⟩:=bK (show L.length-1-i<C.length by omega);have hn:(((aH L).length:Int)-1-i).toNat=L.length-1-i:=by omega
  have hei:=bW hg1;have hej:(aH C)[(((aH L).length:Int)-1-i).toNat]? =some [.v (.int .i64 k2),.v (.int .i64 m2),.v (.string s2),.sl 3 (bF l2),.sl 5 (aH a2)]:=by rw[hn,gY hg2];rfl
  have hs1:(aH C).set i [.v (.int .i64 k2),.v (.int .i64 m2),.v (.string s2),.sl 3 (bF l2),.sl 5 (aH a2)]=aH (C.set i (.mk k2 m2 s2 l2 a2)):=wk (t:=.mk k2 m2 s2 l2 a2);have hs2:(aH (C.set i (.mk k2 m2 s2 l2 a2))).set (L.length-1-i) [.v (.int .i64 k1),.v (.int .i64 m1),.v (.string s1),.sl 3 (bF l1),.sl 5 (aH a1)]=aH ((C.set i (.mk k2 m2 s2 l2 a2)).set (L.length-1-i) (.mk k1 m1 s1 l1 a1)):=wk (t:=.mk k1 m1 s1 l1 a1);refine gz [0,1,2,3,4,5] mixed ?_;refine A1 6 rfl (dL bB bH rfl rfl rfl rfl rfl rfl (by omega) ⟨_,rfl,?_⟩);refine ga [8,9] ?_;refine A1 10 rfl (dL bB bH rfl rfl rfl rfl rfl rfl (by omega) ⟨_,rfl,?_⟩);refine cT (rs:=[7,11]) (by kernel_rfl) rfl ⟨?_,?_,trivial⟩
  ·skip
   refine A4 (T:=fun _=>False) 7 rfl (lk bw rfl rfl rfl rfl rfl rfl rfl rfl rfl (hej) ?_);refine A2 (T:=fun _=>False) 11 rfl (lk bw rfl rfl rfl rfl rfl rfl rfl rfl rfl (hei) ?_);refine A1 12 rfl (dL bB bH rfl rfl rfl rfl rfl rfl (by omega) ⟨_,rfl,?_⟩);refine A2 13 rfl (fO bw rfl rfl rfl rfl rfl rfl rfl rfl rfl rfl rfl rfl ⟨rfl,by omega⟩ rfl ?_);refine A1 14 rfl (dL bB bH rfl rfl rfl rfl rfl rfl (by omega) ⟨_,rfl,?_⟩);refine A2 15 rfl (fO bw rfl rfl rfl rfl rfl rfl rfl rfl rfl rfl rfl rfl ⟨rfl,by(simp only[List.length_set,aO];omega)⟩ rfl ?_);refine aZ ?_;refine ke 2 [2,3,0] 2 ?_;refine o1 (cG ?_);refine go 1 ?_;refine o1 (iC ?_);refine go 3 ?_;simp only[Int.toNat_natCast];rw[hn,hs1,hs2];refine bk ((i+1,(C.set i (.mk k2 m2 s2 l2 a2)).set (L.length-1-i) (.mk k1 m1 s1 l1 a1))) rfl ?_ ([0]) ?_
   ·exact ⟨⟨zm hinv.1 (by omega) hg1 hg2,by omega⟩,by omega⟩
   ·refine mo ?_ (aJ (ef rfl (by exact Fit.of_eq (by rw[show((i+1:Nat):Int)=(i:Int)+1 by omega,show((aH L).length:Int)-1-((i:Int)+1)=(aH L).length-1-i-1 by omega];rfl)) (aJ dC)))
    repeat (first|exact cH|refine ya ?_)
  ·skip
   refine A4 (T:=fun _=>False) 11 rfl (lk bw rfl rfl rfl rfl rfl rfl rfl rfl rfl (hei) ?_);refine A2 (T:=fun _=>False) 7 rfl (lk bw rfl rfl rfl rfl rfl rfl rfl rfl rfl (hej) ?_);refine A1 12 rfl (dL bB bH rfl rfl rfl rfl rfl rfl (by omega) ⟨_,rfl,?_⟩);refine A2 13 rfl (fO bw rfl rfl rfl rfl rfl rfl rfl rfl rfl rfl rfl rfl ⟨rfl,by omega⟩ rfl ?_);refine A1 14 rfl (dL bB bH rfl rfl rfl rfl rfl rfl (by omega) ⟨_,rfl,?_⟩);refine A2 15 rfl (fO bw rfl rfl rfl rfl rfl rfl rfl rfl rfl rfl rfl rfl ⟨rfl,by(simp only[List.length_set,aO];omega)⟩ rfl ?_);refine aZ ?_;refine ke 2 [2,3,0] 2 ?_;refine o1 (cG ?_);refine go 1 ?_;refine o1 (iC ?_);refine go 3 ?_;simp only[Int.toNat_natCast];rw[hn,hs1,hs2];refine bk ((i+1,(C.set i (.mk k2 m2 s2 l2 a2)).set (L.length-1-i) (.mk k1 m1 s1 l1 a1))) rfl ?_ ([0]) ?_
   ·exact ⟨⟨zm hinv.1 (by omega) hg1 hg2,by omega⟩,by omega⟩
   ·refine mo ?_ (aJ (ef rfl (by exact Fit.of_eq (by rw[show((i+1:Nat):Int)=(i:Int)+1 by omega,show((aH L).length:Int)-1-((i:Int)+1)=(aH L).length-1-i-1 by omega];rfl)) (aJ dC)))
    repeat (first|exact cH|refine ya ?_)
end
section
open Go Go.Vd Go.RowKit
attribute [local irreducible] bu bA di ak bL cU
variable {g gl:Nat→List D}
theorem jY(k:Int)(args:List ae):cD Tryz.prog gl 72 [.v (.int .i64 k),.sl 5 (aH args)] (· =(ae.mk k 0 .empty [] args).d):=by
 refine bD Tryz.func72 Tryz.ntmps72 ?_;refine gc 14 ?_;refine ed ((ae.mk k 0 .empty [] args).d) ?_;rfl
theorem FC(k m:Int)(s:ByteArray)(ls:List aP)(args:List ae)(bs:List ae)(hb:bs.length≤1099511627776):
 cD Tryz.prog gl 69 [(ae.mk k m s ls args).d,.sl 5 (aH bs)] (· =(bt (.mk k m s ls args) bs).d):=by
 have hal:=aO bs;refine bD Tryz.func69 Tryz.ntmps69 ?_;refine kc 15 [9,8,7,4,2] 0 ?_;refine lp (ι:=Nat×(Int×Int×ByteArray×List aP×List ae)) (fun⟨i,⟨k1,m1,s1,l1,a1⟩⟩=>[(9,int i)]) (fun⟨i,⟨k1,m1,s1,l1,a1⟩⟩=>[.cells [.d (.v (.int .i64 k1)),.d (.v (.int .i64 m1)),.d (.v (.string s1)),.d (.sl 3 (bF l1)),.d (.sl 5 (aH a1))] 39,.cells [.d (.v (.int .i64 0)),.d (.v (.int .i64 0)),.d (.v (.string .empty)),.d (.v (.slice none 0 0)),.d (.v (.slice none 0 0))] 39]) [8,7,4,2] (fun⟨i,⟨k1,m1,s1,l1,a1⟩⟩=>i≤bs.length∧bt (.mk k m s ls args) (bs.take i)=.mk k1 m1 s1 l1 a1) (fun⟨i,⟨k1,m1,s1,l1,a1⟩⟩=>bs.length-i) ((0,⟨k,m,s,ls,args⟩)) ([0,1]) rfl ?I2 ?M2 ?H2
 case I2=>
  exact⟨Nat.zero_le _,rfl⟩
 case M2=>
  exact mz
 case H2=>
  rintro⟨i,⟨k1,m1,s1,l1,a1⟩⟩ hinv
  try dsimp only at hinv
  refine kc 0 [9,8,7,4,2] 6 ?_;refine cJ (fun h2=>?_) (fun h2=>?_)
  ·refine kc 5 [4,2] 7 ?_;refine ed ((ae.mk k1 m1 s1 l1 a1).d) ?_;rw[← hinv.2,List.take_of_length_le (by omega)]
  refine gc 5 ?_;obtain⟨k2,m2,s2,l2,a2,hget⟩:=bK (show i<bs.length by omega);have hnw:=jY (gl:=gl) 3 [.mk k1 m1 s1 l1 a1,.mk k2 m2 s2 l2 a2];refine gc 1 ?_;refine o1 (cu bB bH ?_ (he:=by exact(bW hget)));refine go 8 ?_;refine oc (gD dE [.tmp 13,.tmp 14] bw ?_);refine oc (cv It rfl rfl (hnw) (an (bo .nil)) ?_);refine ko 4 [9,8,7,4,2] 1 ?_;refine o1 (cG ?_);refine go 2 ?_;refine bk (i+1,⟨3,0,.empty,[],[.mk k1 m1 s1 l1 a1,.mk k2 m2 s2 l2 a2]⟩) rfl ?_ [0,1] mz;exact⟨⟨by omega,by rw[fg hget,hinv.2]⟩,show bs.length-(i+1)<bs.length-i by omega⟩
end
section
open Go Go.Vd Go.RowKit
attribute [local irreducible] bu bA di ak bL cU
variable {g gl:Nat→List D}
theorem Nq(n:Int):cD Tryz.prog gl 117 [.v (.int .i64 n)] (· =(ae.mk 0 n .empty [] []).d):=by
 refine bD Tryz.func117 Tryz.ntmps117 ?_;refine gc 13 ?_;refine ed ((ae.mk 0 n .empty [] []).d) ?_;rfl
variable {B k m:Int} {s:ByteArray} {ls:List aP} {args:List ae}
theorem JB{T:ae}{i:Nat}(he:er i T=.mk k m s ls args)(hi:i+bg (.mk k m s ls args)=bg T)(hs:iD B (.mk k m s ls args))(h5:k=5):
 ∃ka ma sa la aa kb mb sb lb ab,args=[.mk ka ma sa la aa,.mk kb mb sb lb ab]∧iD B (.mk kb mb sb lb ab)∧i+1+bg (.mk kb mb sb lb ab)=bg T∧bg (.mk k m s ls args)=bg (.mk kb mb sb lb ab)+1∧gh (i+1) T=gh i T++[.mk ka ma sa la aa]∧er (i+1) T=.mk kb mb sb lb ab:=by
 obtain⟨k1,m1,s1,l1,a1,k2,m2,s2,l2,a2,rfl,hs1,hs2⟩:=D4 hs (.inr (.inr h5));have hp:bg (.mk k m s ls [.mk k1 m1 s1 l1 a1,.mk k2 m2 s2 l2 a2])=bg (.mk k2 m2 s2 l2 a2)+1:=by rw[bg,if_pos h5]
 obtain⟨m6,s6,l6,a,b,g1,g2,g3,g4⟩:=ig i T (by omega);rw[he] at g1;simp only[ae.mk.injEq,List.cons.injEq,and_true] at g1;obtain⟨_,_,_,_,rfl,rfl⟩:=g1;exact⟨_,_,_,_,_,_,_,_,_,_,rfl,hs2,by omega,hp,g3,g2⟩
theorem qQ(h5:¬k=5):bg (.mk k m s ls args)=0:=by
 match args with
 |[a,b]=>rw[bg,if_neg h5]
 |[]=>rfl
 |[a]=>rfl
 |a::b::c::r=>rfl
theorem pw(k n:Int)(s:ByteArray)(ls:List aP)(args:List ae)(hs:iD B (.mk k n s ls args))(hpz:bg (.mk k n s ls args)≤1099511627776):
 cD Tryz.prog gl 137 [(ae.mk k n s ls args).d,.v (.int .i64 5),.v (.int .i64 (-1))] (· =.bZ [.sl 5 (aH (gh (bg (.mk k n s ls args)) (.mk k n s ls args))),(er (bg (.mk k n s ls args)) (.mk k n s ls args)).d]):=by
 refine bD Tryz.func137 Tryz.ntmps137 ?_;refine kc 14 [8,7,3,1,2] 0 ?_;refine bz 39 5 rfl ?_;refine lp (ι:=Nat×Int×Int×ByteArray×List aP×List ae) (fun⟨i,k1,m1,s1,l1,a1⟩=>[(8,.own 2 5 (aH (gh i (.mk k n s ls args))))]) (fun⟨i,k1,m1,s1,l1,a1⟩=>[tO k1 m1 s1 l1 a1,zO,.row 39 5]) [7,3,1,2] (fun⟨i,k1,m1,s1,l1,a1⟩=>i+bg (.mk k1 m1 s1 l1 a1)=bg (.mk k n s ls args)∧er i (.mk k n s ls args)=.mk k1 m1 s1 l1 a1∧iD B (.mk k1 m1 s1 l1 a1)) (fun⟨i,k1,m1,s1,l1,a1⟩=>bg (.mk k1 m1 s1 l1 a1)) ((0,k,n,s,ls,args)) ([0,1,2]) rfl ?I2 ?M2 ?H2
 case I2=>
  exact⟨by omega,rfl,hs⟩
 case M2=>
  refine mo ?_ (ef rfl (by exact Fit.nil rfl) (aJ (aJ (aJ (aJ dC)))))
  repeat (first|exact cH|refine bj ?_|refine qx ?_)
 case H2=>
  rintro⟨i,k1,m1,s1,l1,a1⟩ hinv
  try dsimp only at hinv
  refine kc 0 [8,7,3,1,2] 8 ?_;refine' oa (yt:=17) (d:=13) 4 ?a1 ?b1 ?_
  case a1=>
   intro hc hK;refine go 4 ?_;exact hK [_,_,_,_] rfl rfl
  case b1=>
   intro _ hK;refine go 4 ?_;exact hK [_,_,_,_] rfl
  refine go 2 ?_;refine cJ (fun h2=>?_) (fun h2=>?_)
  ·refine kc 6 [8,7,3] 0 ?_;have hz5:bg (.mk k1 m1 s1 l1 a1)=0:=qQ (by omega);obtain rfl:i=bg (.mk k n s ls args):=(by omega);have hE:=hinv.2.1;refine gz [0,1,2] mixed ?_;refine A2 3 rfl (dN bw ?_);refine aZ ?_;refine ge 2 ?_;refine ed (.bZ [.sl 5 (aH (gh (bg (.mk k n s ls args)) (.mk k n s ls args))),(ae.mk k1 m1 s1 l1 a1).d]) ?_;rw[hE]
  refine kc 4 [8,7,3,1,2] 0 ?_;obtain⟨ka,ma,sa,la,aa,kb,mb,sb,lb,ab,rfl,hsb,hq1,hq2,hxs,he2⟩:=JB hinv.2.1 hinv.1 hinv.2.2 (by omega);have hxl:=dV i (.mk k n s ls args) (by omega);have hxl2:=aO (gh i (.mk k n s ls args));have hnx:aH (gh i (.mk k n s ls args))++[[.v (.int .i64 ka),.v (.int .i64 ma),.v (.string sa),.sl 3 (bF la),.sl 5 (aH aa)]]=aH (gh (i+1) (.mk k n s ls args)):=(by rw[hxs,dj];rfl);refine gc 4 ?_;refine o1 (cu bB bH ?_ (he:=by exact(rfl)));refine go 1 ?_;refine oc (gD dE [.tmp 23] bw ?_);refine oc (px dE ?_);refine ko 3 [8,7,3,1,2] 3 ?_;refine o1 (cu bB bH ?_ (he:=by exact(rfl)));refine go 4 ?_;rw[hnx];refine bk (i+1,kb,mb,sb,lb,ab) rfl ?_ [0,1,2] mz;exact⟨⟨hq1,he2,hsb⟩,show bg (ae.mk kb mb sb lb ab)<bg (ae.mk k1 m1 s1 l1 [.mk ka ma sa la aa,.mk kb mb sb lb ab]) by omega⟩
theorem IA(k n:Int)(s:ByteArray)(ls:List aP)(args:List ae)(xs:List ae)(hx:xs.length≤1099511627776):
 cD Tryz.prog gl 141 [.v (.int .i64 4),.sl 5 (aH xs),(ae.mk k n s ls args).d] (· =(iR xs (.mk k n s ls args)).d):=by
 have hxl:=aO xs;refine bD Tryz.func141 Tryz.ntmps141 ?_;refine gc 11 ?_;refine o1 (iC ?_);refine ko 4 [7,6,5,0,1] 0 ?_;refine lp (ι:=Nat×Int×Int×ByteArray×List aP×List ae) (fun⟨r,k1,m1,s1,l1,a1⟩=>[(7,int ((r:Int)-1))]) (fun⟨r,k1,m1,s1,l1,a1⟩=>[tO k1 m1 s1 l1 a1,zO]) [6,5,0,1] (fun⟨r,k1,m1,s1,l1,a1⟩=>r≤xs.length∧iR xs (.mk k n s ls args)=iR (xs.take r) (.mk k1 m1 s1 l1 a1)) (fun⟨r,k1,m1,s1,l1,a1⟩=>r) ((xs.length,k,n,s,ls,args)) ([0,1]) rfl ?I3 ?M3 ?H3
 case I3=>
  exact⟨Nat.le_refl _,by rw[List.take_length]⟩
 case M3=>
  refine mo ?_ (ef rfl (by exact Fit.of_eq (by rw[hxl];rfl)) (aJ (aJ (aJ (aJ dC)))))
  repeat (first|exact cH|refine bj ?_)
 case H3=>
  rintro⟨r,k1,m1,s1,l1,a1⟩ hinv
  try dsimp only at hinv
  refine kc 0 [7,6,5,0,1] 7 ?_;refine cJ (fun h2=>?_) (fun h2=>?_)
  ·refine kc 6 [6,5] 0 ?_;obtain rfl:r=0:=(by omega);have hE:=hinv.2;rw[List.take_zero] at hE;refine gc 6 ?_;refine ed ((ae.mk k1 m1 s1 l1 a1).d) ?_;rw[hE];rfl
  refine gc 4 ?_;obtain⟨kb,mb,sb,lb,ab,hget⟩:=bK (show r-1<xs.length by omega);have hidx:(aH xs)[((r:Int)-1).toNat]? =some [.v (.int .i64 kb),.v (.int .i64 mb),.v (.string sb),.sl 3 (bF lb),.sl 5 (aH ab)]:=(by rw[show((r:Int)-1).toNat=r-1 by omega,gY hget];rfl);have hnw:=jY (gl:=gl) 4 [.mk kb mb sb lb ab,.mk k1 m1 s1 l1 a1];refine gz [0,1,2] mixed ?_;refine A1 3 rfl (cu bB bH ⟨_,rfl,?_⟩ (he:=by exact(hidx)));refine ga [4,5] ?_;refine A2 6 rfl (gD dE [.tmp 19,.tmp 20] bw ?_);refine A2 7 rfl (cv It rfl rfl (hnw) (an (bo .nil)) ?_);refine A2 8 rfl (dN bw ?_);refine aZ ?_;refine ke 2 [7,6,5,0,1] 2 ?_;refine o1 (iC ?_);refine go 2 ?_;refine bk ((r-1,4,0,.empty,[],[.mk kb mb sb lb ab,.mk k1 m1 s1 l1 a1])) rfl ?_ ([0,1]) ?_
  ·obtain ⟨r',rfl⟩:∃r',r=r'+1:=⟨r-1,by omega⟩;refine⟨⟨by omega,?_⟩,show r'+1-1<r'+1 by omega⟩;rw[hinv.2,List.take_add_one,show xs[r']? =some (.mk kb mb sb lb ab) from hget];exact se _ _ _
  ·refine mo ?_ (ef rfl (by exact Fit.of_eq (by show SV.d (D.v (Value.int .i64 ((r:Int)-1-1)))=SV.d (D.v (Value.int .i64 (((r-1:Nat):Int)-1)));rw[show((r-1:Nat):Int)=(r:Int)-1 by omega])) (aJ (aJ (aJ (aJ dC)))))
   repeat (first|exact cH|refine bj ?_)
def Ru:ae→SV
 | .mk k n s ls args=>.agg [.d (.v (.int .i64 k)),.d (.v (.int .i64 n)),.d (.v (.string s)),.d (.sl 3 (bF ls)),.d (.sl 5 (aH args))]
theorem u9(k m:Int)(s:ByteArray)(ls:List aP)(args:List ae)(hok:rh (.mk k m s ls args))(hsz:(bf (.mk k m s ls args)).2.length≤1099511627776):
 cD Tryz.prog gl 107 [(ae.mk k m s ls args).d] (· =.bZ [(bf (.mk k m s ls args)).1.d,.sl 5 (aH (bf (.mk k m s ls args)).2)]):=by
 refine bD Tryz.func107 Tryz.ntmps107 ?_;refine kc 14 [4,2,1] 0 ?_;refine bz 39 5 rfl ?_;refine lp (ι:=(Int×Int×ByteArray×List aP×List ae)×List ae) (fun⟨⟨k1,m1,s1,l1,a1⟩,acc⟩=>[(4,.arr 2 (aH acc).length)]) (fun⟨⟨k1,m1,s1,l1,a1⟩,acc⟩=>[tO k1 m1 s1 l1 a1,zO,.buf 39 5 (aH acc) none]) [2,1] (fun⟨⟨k1,m1,s1,l1,a1⟩,acc⟩=>rh (.mk k1 m1 s1 l1 a1)∧bf (.mk k m s ls args)=((bf (.mk k1 m1 s1 l1 a1)).1,(bf (.mk k1 m1 s1 l1 a1)).2++acc.reverse)) (fun⟨⟨k1,m1,s1,l1,a1⟩,acc⟩=>(ae.mk k1 m1 s1 l1 a1).size) ((⟨k,m,s,ls,args⟩,[])) ([0,1,2]) rfl ?I4 ?M4 ?H4
 case I4=>
  exact⟨hok,by simp⟩
 case M4=>
  refine mo ?_ (ef rfl (by(show Fit _ _ (SV.arr 2 0);exact Fit.JK rfl)) (aJ (aJ dC)))
  repeat (first|exact cH|refine bj ?_|refine OA ?_)
 case H4=>
  rintro⟨⟨k1,m1,s1,l1,a1⟩,acc⟩ hinv
  try dsimp only at hinv
  refine kc 0 [4,2,1] 8 ?_;refine cJ (fun h2=>?_) (fun h2=>?_)
  ·refine gc 6 ?_;have hal2:=congrArg (fun x=>x.2.length) hinv.2;simp only[List.length_append,List.length_reverse] at hal2;have hrv:=fun pq=>tr (gl:=gl) (pq:=pq) acc (by omega)
   have hla:=aO acc;have hlr:=aO acc.reverse;refine gc 1 ?_;refine Cn 2 4 rfl rfl rfl (fun r ob' hob'=>?_);cases hob';refine go 1 ?_;refine oQ 2 19 rfl rfl rfl ?_;refine oc (ck MY rfl rfl (hrv _) [2] rfl (.cons rfl .buf .nil) (an .nil) ?_);refine ko 2 [4,2,1] 2 ?_;refine oQ 2 4 rfl rfl (by rw[hlr,List.length_reverse,hla]) ?_;refine p8 2 rfl rfl rfl rfl ?_;refine go 7 ?_;refine ed (.bZ [(ae.mk k1 m1 s1 l1 a1).d,.sl 5 (aH acc.reverse)]) ?_;rw[hinv.2,kH h2,List.nil_append]
  refine gc 4 ?_;obtain rfl:=h2;obtain⟨k2,m2,s2,l2,a2,k3,m3,s3,l3,a3,rfl,hok2⟩:=wz hinv.1 rfl;have hal:=aO acc;have hal2:=congrArg (fun x=>x.2.length) hinv.2;simp only[List.length_append,List.length_reverse] at hal2;have hlast:aH acc++[[.v (.int .i64 k3),.v (.int .i64 m3),.v (.string s3),.sl 3 (bF l3),.sl 5 (aH a3)]]=aH (acc++[.mk k3 m3 s3 l3 a3]):=(dj acc [.mk k3 m3 s3 l3 a3]).symm;refine gc 4 ?_;refine o1 (cu bB bH ?_ (he:=by exact(rfl)));refine go 1 ?_;refine oc (gD dE [.tmp 12] bw ?_);refine oc (nL dE rfl rfl rfl rfl rfl rfl rfl (by decide) (by simp) (by(simp only[maxLen,List.length_cons,List.length_nil];omega)) rfl rfl rfl ?_);refine ko 3 [4,2,1] 3 ?_;refine o1 (cu bB bH ?_ (he:=by exact(rfl)));refine go 4 ?_;rw[hlast];refine bk (⟨k2,m2,s2,l2,a2⟩,acc++[.mk k3 m3 s3 l3 a3]) rfl ?_ [0,1,2] mz;exact⟨⟨hok2,by rw[hinv.2,jh];simp⟩,by simp only[ae.size,aj];omega⟩
theorem BG(k m:Int)(s:ByteArray)(ls:List aP)(args:List ae)(hok:rh (.mk k m s ls args))(hsz:(bf (.mk k m s ls args)).2.length≤1099511627776):
 et Tryz.prog gl 107 [] [.d (ae.mk k m s ls args).d] fun out ob'=>out=.ret (.bZ [Ru (bf (.mk k m s ls args)).1,.own 0 5 (aH (bf (.mk k m s ls args)).2)])∧ob'=[.row 39 5]:=by
 refine bS Tryz.func107 Tryz.ntmps107 0 ?_;refine kc 14 [4,2,1] 0 ?_;refine bz 39 5 rfl ?_;refine lp (ι:=(Int×Int×ByteArray×List aP×List ae)×List ae) (fun⟨⟨k1,m1,s1,l1,a1⟩,acc⟩=>[(4,.arr 2 (aH acc).length)]) (fun⟨⟨k1,m1,s1,l1,a1⟩,acc⟩=>[tO k1 m1 s1 l1 a1,zO,.buf 39 5 (aH acc) none]) [2,1] (fun⟨⟨k1,m1,s1,l1,a1⟩,acc⟩=>rh (.mk k1 m1 s1 l1 a1)∧bf (.mk k m s ls args)=((bf (.mk k1 m1 s1 l1 a1)).1,(bf (.mk k1 m1 s1 l1 a1)).2++acc.reverse)) (fun⟨⟨k1,m1,s1,l1,a1⟩,acc⟩=>(ae.mk k1 m1 s1 l1 a1).size) ((⟨k,m,s,ls,args⟩,[])) ([0,1,2]) rfl ?I5 ?M5 ?H5
 case I5=>
  exact⟨hok,by simp⟩
 case M5=>
  refine mo ?_ (ef rfl (by(show Fit _ _ (SV.arr 2 0);exact Fit.JK rfl)) (aJ (aJ dC)))
  repeat (first|exact cH|refine bj ?_|refine OA ?_)
 case H5=>
  rintro⟨⟨k1,m1,s1,l1,a1⟩,acc⟩ hinv
  try dsimp only at hinv
  refine kc 0 [4,2,1] 8 ?_;refine cJ (fun h2=>?_) (fun h2=>?_)
  ·refine gc 6 ?_;have hal2:=congrArg (fun x=>x.2.length) hinv.2;simp only[List.length_append,List.length_reverse] at hal2;have hrv:=fun pq=>tr (gl:=gl) (pq:=pq) acc (by omega)
   have hla:=aO acc;have hlr:=aO acc.reverse;refine gc 1 ?_;refine Cn 2 4 rfl rfl rfl (fun r ob' hob'=>?_);cases hob';refine go 1 ?_;refine oQ 2 19 rfl rfl rfl ?_;refine oc (ck MY rfl rfl (hrv _) [2] rfl (.cons rfl .buf .nil) (an .nil) ?_);refine ko 2 [4,2,1] 2 ?_;refine oQ 2 4 rfl rfl (by rw[hlr,List.length_reverse,hla]) ?_;rw[show(aH acc).length=(aH acc.reverse).length by rw[hlr,List.length_reverse,hla]];refine Cl 2 4 rfl rfl rfl rfl rfl ?_;refine go 7 ?_;refine fR ?_;refine iw ⟨_,_,rfl,(dZ rfl rfl bw rfl rfl rfl rfl),⟨_,_,rfl,rfl,rfl⟩⟩ [2] (.bZ [Ru (ae.mk k1 m1 s1 l1 a1),.own 0 5 (aH acc.reverse)]) ([.row 39 5]) rfl rfl rfl ?_ rfl ?_ ?_
   ·repeat (first|exact cH|refine cr ?_)
   ·exact .refl _
   ·rw [hinv.2,kH h2,List.nil_append];exact⟨rfl,rfl⟩
  refine gc 4 ?_;obtain rfl:=h2;obtain⟨k2,m2,s2,l2,a2,k3,m3,s3,l3,a3,rfl,hok2⟩:=wz hinv.1 rfl;have hal:=aO acc;have hal2:=congrArg (fun x=>x.2.length) hinv.2;simp only[List.length_append,List.length_reverse] at hal2;have hlast:aH acc++[[.v (.int .i64 k3),.v (.int .i64 m3),.v (.string s3),.sl 3 (bF l3),.sl 5 (aH a3)]]=aH (acc++[.mk k3 m3 s3 l3 a3]):=(dj acc [.mk k3 m3 s3 l3 a3]).symm;refine gc 4 ?_;refine o1 (cu bB bH ?_ (he:=by exact(rfl)));refine go 1 ?_;refine oc (gD dE [.tmp 12] bw ?_);refine oc (nL dE rfl rfl rfl rfl rfl rfl rfl (by decide) (by simp) (by(simp only[maxLen,List.length_cons,List.length_nil];omega)) rfl rfl rfl ?_);refine ko 3 [4,2,1] 3 ?_;refine o1 (cu bB bH ?_ (he:=by exact(rfl)));refine go 4 ?_;rw[hlast];refine bk (⟨k2,m2,s2,l2,a2⟩,acc++[.mk k3 m3 s3 l3 a3]) rfl ?_ [0,1,2] mz;exact⟨⟨hok2,by rw[hinv.2,jh];simp⟩,by simp only[ae.size,aj];omega⟩
theorem BB(l:List ae)(hl:l.length≤1099511627776):
 et Tryz.prog gl 139 [] [.d (.sl 5 (aH l))] fun out ob'=>out=.ret (.own 0 5 (aH l))∧ob'=[.row 39 5]:=by
 have hll:=aO l;refine bS Tryz.func139 Tryz.ntmps139 0 ?_;refine gc 9 ?_;refine oc (T:=fun _=>False) (JF bB rfl rfl rfl rfl rfl (fun bn hbn=>?_));refine go 2 ?_;refine cj (fun h1=>?_) (fun h1=>?_)
 ·refine kc 1 [] 0 ?_;refine bz 39 5 rfl ?_;refine gc 6 ?_;refine fR ?_;refine iw ⟨_,_,rfl,rfl,rfl⟩ [0] (.own 0 5 (aH [])) ([.row 39 5]) rfl rfl rfl ?_ rfl ?_ ?_
  ·repeat (first|exact cH|refine qx ?_)
  ·exact Fit.nil rfl
  ·rw [hbn (by assumption)];exact⟨rfl,rfl⟩
 refine gc 4 ?_;refine oc (T:=fun _=>False) (Lw dE rfl rfl rfl (by simp only[List.length_cons,List.length_nil,Nat.reduceAdd];rfl) rfl ?_);refine go 1 ?_;refine oc (gg dE rfl rfl rfl (.inl rfl) rfl rfl rfl (.inl rfl) (by decide) (by(simp only[maxLen,List.length_nil];omega)) rfl rfl rfl ?_);refine go 4 ?_;refine fR ?_;refine iw ⟨_,_,rfl,rfl,rfl⟩ [0] (.own 0 5 (aH l)) ([.row 39 5]) rfl rfl rfl ?_ rfl ?_ ?_
 ·repeat (first|exact cH|refine cr ?_)
 ·exact Fit.of_eq (by rw[List.nil_append];rfl)
 ·exact ⟨rfl,rfl⟩
theorem HH(n:Nat)(hn:n≤1099511627776):
 et Tryz.prog gl 154 [] [.d (.v (.slice none 0 0)),.d (.v (.int .i64 n))] fun out ob'=>out=.ret (.arr 0 0)∧ob'=[.buf 39 5 [] none]:=by
 rcases Nat.eq_zero_or_pos n with h0|h0
 ·refine bS Tryz.func154 Tryz.ntmps154 0 ?_;refine gc 12 ?_;refine cj (fun h1=>?_) (fun h1=>?_)
  ·contradiction
  refine gc 7 ?_;refine o1 (sJ bB rfl rfl ?_);refine go 1 ?_;refine o1 (Qz bB ?_);refine o1 (iC ?_);refine o1 (iC ?_);refine ko 3 [1,0] 6 ?_;refine cj (fun h4=>?_) (fun h4=>?_)
  ·omega
  refine gc 3 ?_;refine bz 39 5 rfl ?_;refine gc 6 ?_;refine fR ?_;refine iw ⟨_,_,rfl,rfl,rfl⟩ [0] (.arr 0 0) ([.buf 39 5 [] none]) rfl rfl rfl ?_ rfl ?_ ?_
  ·repeat (first|exact cH|refine OA ?_)
  ·exact Fit.JK rfl
  ·exact ⟨rfl,rfl⟩
 ·refine bS Tryz.func154 Tryz.ntmps154 0 ?_;refine gc 12 ?_;refine cj (fun h1=>?_) (fun h1=>?_)
  ·contradiction
  refine gc 7 ?_;refine o1 (sJ bB rfl rfl ?_);refine go 1 ?_;refine o1 (Qz bB ?_);refine o1 (iC ?_);refine o1 (iC ?_);refine ko 3 [1,0] 6 ?_;refine cJ (fun h4=>?_) (fun h4=>?_)
  ·omega
  obtain⟨c,hc⟩:∃c:Nat,(n:Int)-(((0:Nat):Int)-((0:Nat):Int))=c:=⟨n,by omega⟩;rw[hc];refine gc 3 ?_;refine o1 (sJ bB rfl rfl ?_);refine o1 (AY bB bH rfl rfl rfl rfl ?_);refine go 1 ?_;refine oc (T:=fun _=>False) (En dE (by kernel_rfl) bw rfl rfl rfl rfl rfl rfl (by simp only[List.length_cons,List.length_nil,Nat.reduceAdd];rfl) (by(simp only[maxLen];omega)) rfl ?_);refine go 1 ?_;refine o1 (Qz bB ?_);refine oc (tz bB bH rfl rfl rfl rfl rfl rfl rfl rfl (by omega) (by omega) rfl rfl rfl ?_);refine ko 3 [0] 7 ?_;refine fR ?_;refine iw ⟨_,_,rfl,rfl,rfl⟩ [0] (.arr 0 0) ([.buf 39 5 [] none]) rfl rfl rfl ?_ rfl ?_ ?_
  ·repeat (first|exact cH|refine ya ?_)
  ·exact .refl _
  ·exact ⟨rfl,rfl⟩
end
section
open Go Go.Vd Go.RowKit
def dq(d:dP):List ByteArray:=d.nm::(d.cs.map (·.1)++if d.k=3 then[d.nm++wK] else[])
def dB(es:List cy):List ByteArray:=es.flatMap fun e=>dq e.d
theorem xf(es m:List cy):dB (es++m)=dB es++dB m:=by simp[dB]
theorem rY(e:cy):dB [e]=dq e.d:=by simp[dB]
theorem j6{nm:ByteArray}:∀{l:List (ByteArray×ae)},eH nm l=none↔nm∉l.map (·.1)
 |[]=>by simp[eH]
 |a::r=>by
  rw[eH];split
  ·rename_i h;subst h;simp
  ·rename_i h;rw[Option.map_eq_none_iff,j6 (l:=r)];simp only[List.map_cons,List.mem_cons,not_or];exact⟨fun g=>⟨fun e=>h e.symm,g⟩,fun g=>g.2⟩
theorem ln{nm:ByteArray}:∀{es:List cy},(∀ e∈es,e.d.k≠0)→((bM nm es).1=0↔nm∉dB es)
 |[],_=>by simp[bM,dB]
 |e::r,hk=>by
  have ih:=ln (nm:=nm) (es:=r) fun e he=>hk e (List.mem_cons_of_mem _ he)
  have h0:=hk e List.mem_cons_self;rw[show dB (e::r)=dq e.d++dB r by simp[dB],List.mem_append,not_or,bM];split
  ·rename_i h1;refine⟨fun h=>absurd h h0,fun h=>absurd ?_ h.1⟩;subst h1;simp[dq]
  ·rename_i h1;split
   ·rename_i i h2;refine⟨fun h=>absurd (show(4:Int)=0 from h) (by decide),fun h=>?_⟩;have:=j6 (nm:=nm) (l:=e.d.cs);rw[h2] at this;exact absurd (this.2 fun g=>h.1 (List.mem_cons_of_mem _ (List.mem_append_left _ g))) (by simp)
   ·rename_i h2;have h4:=j6.1 h2;split
    ·rename_i h3;refine⟨fun h=>absurd (show(5:Int)=0 from h) (by decide),fun h=>absurd ?_ h.1⟩;unfold dq;rw[if_pos h3.1];exact List.mem_cons_of_mem _ (List.mem_append_right _ (by simp[h3.2]))
    ·rename_i h3;rw[ih];refine⟨fun h=>⟨fun g=>?_,h⟩,fun h=>h.2⟩;unfold dq at g;rcases List.mem_cons.1 g with g|g
     ·exact h1 g.symm
     ·rcases List.mem_append.1 g with g|g
      ·exact h4 g
      ·split at g
       ·rename_i h5;simp only[List.mem_singleton] at g;exact h3 ⟨h5,g.symm⟩
       ·cases g
theorem o9{nm:ByteArray}{m:List cy}:∀{es:List cy},(bM nm es).1≠0→bM nm (es++m)=bM nm es
 |[],h=>absurd rfl h
 |e::r,h=>by
  rw[List.cons_append,bM,bM];rw[bM] at h;split
  ·rfl
  ·rename_i h1;rw[if_neg h1] at h;cases h2:eH nm e.d.cs with
   |some i=>rfl
   |none=>
    rw[h2] at h;simp only at h ⊢;split
    ·rfl
    ·rename_i h3;rw[if_neg h3] at h;exact o9 h
theorem lH{nm:ByteArray}{m:List cy}:∀{es:List cy},(∀ e∈es,e.d.k≠0)→(bM nm es).1=0→bM nm (es++m)=bM nm m
 |[],_,_=>rfl
 |e::r,hk,h=>by
  rw[List.cons_append,bM];rw[bM] at h;split
  ·rename_i h1;rw[if_pos h1] at h;exact absurd h (hk e List.mem_cons_self)
  ·rename_i h1;rw[if_neg h1] at h;cases h2:eH nm e.d.cs with
   |some i=>rw[h2] at h;exact absurd (show(4:Int)=0 from h) (by decide)
   |none=>
    rw[h2] at h;simp only at h ⊢;split
    ·rename_i h3;rw[if_pos h3] at h;exact absurd (show(5:Int)=0 from h) (by decide)
    ·rename_i h3;rw[if_neg h3] at h;exact lH (fun e he=>hk e (List.mem_cons_of_mem _ he)) h
variable {nm:ByteArray} {es:List cy}
theorem As{es':List cy}(h:bM nm es=bM nm es'):eh es nm=eh es' nm:=by
 unfold eh ir;rw[h]
theorem BL{n:Nat}(h:eh es nm=some n):(bM nm es).1≠0:=by
 intro h0;unfold eh ir at h;simp only[h0] at h;cases h
theorem rT(es m:List cy):yS (eh es) (eh (es++m)):=fun s n h=>by
 rw[As (o9 (BL h))];exact h
theorem yi.mono{sg sg':Sg}(hs:yS sg sg'){e:cy}(h:yi sg e):yi sg' e:=
 ⟨h.k,h.ps,h.nm,⟨h.ty.1.mono hs (fun _ h=>h) (Int.le_refl _),h.ty.2⟩,fun hk=>⟨(h.vl hk).1.mono hs (fun _ h=>h) (Int.le_refl _),(h.vl hk).2⟩,h.cl,h.ar,fun c hc=>⟨(h.cs c hc).1.mono hs (fun _ h=>h) (Int.le_refl _),(h.cs c hc).2⟩,h.rp,fun hk=>⟨(h.rt hk).1.mono hs (fun _ h=>h) (Int.le_refl _),(h.rt hk).2⟩⟩
theorem dg.k0(h:dg es):∀e∈es,e.d.k≠0:=fun e he hk=>by rcases(h.xP e he).k with h|h|h<;>omega
variable {e:cy}
theorem NL(h:e∈es):e.d.nm∈dB es:=by
 unfold dB;exact List.mem_flatMap.2 ⟨e,h,by simp[dq]⟩
theorem dg.app(h:dg es)(hl:es.length<1000000)(hn:e.d.nm∉dB es)(he:yi (eh (es++[e])) e):dg (es++[e]):=by
 refine⟨by rw[List.length_append];exact hl,?_,fun x hx=>?_⟩
 ·rw [List.map_append,List.nodup_append];refine⟨h.nd,by simp,fun a ha b hb hab=>?_⟩;simp only[List.map_cons,List.map_nil,List.mem_singleton] at hb;obtain⟨y,hy,rfl⟩:=List.mem_map.1 ha;subst hab;exact hn (hb▸NL hy)
 ·rcases List.mem_append.1 hx with hx|hx
  ·exact (h.xP x hx).mono (rT _ _)
  ·simp only[List.mem_singleton] at hx;subst hx;exact he
theorem D5(hk:∀e∈es,e.d.k≠0)(h:nm∉dB es)(m:List cy):eh (es++m) nm=eh m nm:=
 As (lH hk ((ln hk).2 h))
theorem ME(hk:e.d.k=1∨e.d.k=2∨e.d.k=3):eh [e] e.d.nm=some e.d.ps.length:=by
 have h:bM e.d.nm [e]=(e.d.k,e,0):=by rw[bM,if_pos rfl]
 unfold eh ir;simp only[h];rw[if_neg (by omega),if_neg (by omega),if_neg (by omega)];rfl
theorem Fl:∀{l:List (ByteArray×ae)},nm∈l.map (·.1)→∃i,eH nm l=some i:=by
 intro l h;cases hc:eH nm l with
 |some i=>exact⟨i,rfl⟩
 |none=>exact absurd h (j6.1 hc)
theorem Ln{c:ByteArray×ae}(hc:c∈e.d.cs)(hn:c.1≠e.d.nm):eh [e] c.1=some e.d.ps.length:=by
 obtain⟨i,hi⟩:=Fl (List.mem_map_of_mem (f:=(·.1)) hc);have h:bM c.1 [e]=(4,e,i):=by rw[bM,if_neg fun h=>hn h.symm,hi]
 obtain⟨c2,h2,h3⟩:=sO hi;unfold eh ir;simp only[h,h2];rfl
def KK(e:cy):cy:=⟨.mk 1 e.d.nm e.d.ps e.d.ty aQ 0 [],[],aQ⟩
theorem dg.ax(h:dg es)(hl:es.length<1000000)(hn:e.d.nm∉dB es)(hp:e.d.ps.length≤6)(hz:e.d.nm.size≤1000000)(ht:Wt (eh es) e.d.ps e.d.ty 0∧e.d.ty.size≤800001):dg (es++[KK e]):=
 h.app hl hn ⟨.inl rfl,hp,hz,⟨ht.1.mono (rT _ _) (fun _ h=>h) (Int.le_refl _),ht.2⟩,fun h=>absurd (show(1:Int)=2 from h) (by decide),Nat.zero_le _,fun h=>absurd (show(1:Int)=3 from h) (by decide),fun c hc=>(by cases hc),Nat.zero_le _,fun h=>absurd (show(1:Int)=3 from h) (by decide)⟩
def Jz(nm:ByteArray)(p:Int)(a:ae):Prop:=eU (jN nm) a 0=true→∃m ls ar,(bf (er (bg a) a)).1=.mk 2 m nm ls ar∧p≤(bf (er (bg a) a)).2.length
def Ca(nm:ByteArray)(p:Int)(c:ae):Prop:= ∀(i:Nat) a,p≤i→(gh (bg c) c)[i]? =some a→Jz nm p a
structure fX (es:List cy):Prop where
 ok:dg es
 nd:(dB es).Nodup
 pos:∀e∈es,e.d.k=3→∀c∈e.d.cs,Ca e.d.nm e.d.ar c.2
 nc:∀e∈es,e.d.k≠3→e.d.cs=[]
 vz:∀e∈es,e.d.vl.size≤800001
theorem fX.nil:fX []:=⟨⟨by simp,by simp,fun e h=>(by cases h)⟩,by simp[dB],fun e h=>(by cases h),fun e h=>(by cases h),fun e h=>(by cases h)⟩
theorem fX.app{es:List cy}{e:cy}(h:fX es)(hl:es.length<1000000)(hn:∀x∈dq e.d,x∉dB es)(hd:(dq e.d).Nodup)(he:yi (eh (es++[e])) e)(hp:e.d.k=3→∀c∈e.d.cs,Ca e.d.nm e.d.ar c.2)(hc:e.d.k≠3→e.d.cs=[])(hv:e.d.vl.size≤800001):fX (es++[e]):=by
 refine⟨h.ok.app hl (hn _ (by simp[dq])) he,?_,fun x hx=>?_,fun x hx=>?_,fun x hx=>?_⟩
 ·rw [xf,rY,List.nodup_append];exact⟨h.nd,hd,fun a ha b hb hab=>hn b hb (hab▸ha)⟩
 ·rcases List.mem_append.1 hx with hx|hx
  ·exact h.pos x hx
  ·simp only[List.mem_singleton] at hx;subst hx;exact hp
 ·rcases List.mem_append.1 hx with hx|hx
  ·exact h.nc x hx
  ·simp only[List.mem_singleton] at hx;subst hx;exact hc
 ·rcases List.mem_append.1 hx with hx|hx
  ·exact h.vz x hx
  ·simp only[List.mem_singleton] at hx;subst hx;exact hv
end
section
open Go Go.Vd Go.RowKit
def uN(w:Int)(d:dP)(ps:List ByteArray)(ty:ae)(num:Int):D:=.cp (.v (.int .i64 w)::.cp d.cells::.sl 1 (strs ps)::(ty.cells++[.v (.int .i64 num)]))
def qv(d:dP):Nat→List (ByteArray×ae)→(ByteArray→Option D)→ByteArray→Option D
 |_,[],f=>f
 |i,c::r,f=>qv d (i+1) r (te f c.1 (uN 3 d d.ps c.2 i))
def Bd(f:ByteArray→Option D)(d:dP):ByteArray→Option D:=te f d.nm (uN (d.k-1) d d.ps d.ty 0)
def wL(f:ByteArray→Option D)(e:cy):ByteArray→Option D:=
 if e.d.k=3 then te (qv e.d 0 e.d.cs (Bd f e.d)) (e.d.nm++wK) (uN 4 e.d e.rp e.rt 0) else Bd f e.d
def fL(es:List cy):ByteArray→Option D:=es.foldl wL fun _=>none
def pC(es:List cy)(nm:ByteArray):Option D:=
 let f:=bM nm es
 if f.1=0 then none else if f.1=4 then(f.2.1.d.cs[f.2.2]?).map fun c=>uN 3 f.2.1.d f.2.1.d.ps c.2 f.2.2 else if f.1=5 then some (uN 4 f.2.1.d f.2.1.rp f.2.1.rt 0) else some (uN (f.1-1) f.2.1.d f.2.1.d.ps f.2.1.d.ty 0)
theorem qE(f:ByteArray→Option D)(s:ByteArray)(d:D):te f s d s=some d:=if_pos rfl
variable {f:ByteArray→Option D}
theorem qF{s t:ByteArray}{d:D}(h:t≠s):te f s d t=f t:=if_neg h
theorem tN{d:dP}{nm:ByteArray}:∀{l:List (ByteArray×ae)} {i:Nat} {f:ByteArray→Option D},nm∉l.map (·.1)→qv d i l f nm=f nm
 |[],i,f,_=>rfl
 |c::r,i,f,h=>by
  simp only[List.map_cons,List.mem_cons,not_or] at h;rw[qv,tN h.2,qF h.1]
theorem GB{d:dP}{nm:ByteArray}:∀{l:List (ByteArray×ae)} {i j:Nat} {f:ByteArray→Option D},(l.map (·.1)).Nodup→eH nm l=some j→∃c,l[j]? =some c∧qv d i l f nm=some (uN 3 d d.ps c.2 ((i+j:Nat):Int))
 |[],i,j,f,_,h=>by cases h
 |c::r,i,j,f,hn,h=>by
  simp only[List.map_cons,List.nodup_cons] at hn;rw[eH] at h;split at h
  ·rename_i e;cases h;subst e;exact⟨c,rfl,by rw[qv,tN hn.1,qE,Nat.add_zero]⟩
  ·obtain ⟨j',h1,rfl⟩:=Option.map_eq_some_iff.1 h;obtain⟨c',h2,h3⟩:=GB (d:=d) (i:=i+1) (f:=te f c.1 (uN 3 d d.ps c.2 i)) hn.2 h1;exact⟨c',by simpa using h2,by rw[qv,h3,show i+1+j'=i+(j'+1) by omega]⟩
variable {e:cy} {nm:ByteArray}
theorem Jv(h:nm∉dq e.d):wL f e nm=f nm:=by
 unfold dq at h;simp only[List.mem_cons,List.mem_append,not_or] at h;unfold wL;split
 ·rename_i hk;rw[if_pos hk] at h;rw[qF (by simpa using h.2.2),tN h.2.1];exact qF h.1
 ·exact qF h.1
variable {es:List cy}
theorem xp{es':List cy}(h:bM nm es=bM nm es'):pC es nm=pC es' nm:=by unfold pC;rw[h]
theorem Lq(hk:e.d.k=1∨e.d.k=2∨e.d.k=3)(hnc:e.d.k≠3→e.d.cs=[])(hnd:(dq e.d).Nodup)(h:nm∈dq e.d):wL f e nm=pC [e] nm:=by
 by_cases h1:e.d.nm=nm
 ·have hF:bM nm [e]=(e.d.k,e,0):=by rw[bM,if_pos h1]
  unfold pC;simp only[hF];rw[if_neg (by omega),if_neg (by omega),if_neg (by omega)];subst h1;unfold wL;unfold dq at hnd;have h2:=List.nodup_cons.1 hnd;split
  ·rename_i hk3;rw[if_pos hk3] at h2;simp only[List.mem_append,not_or] at h2;rw[qF (by simpa using h2.1.2),tN h2.1.1];exact qE _ _ _
  ·exact qE _ _ _
 ·by_cases hk3:e.d.k=3
  ·unfold dq at hnd h;rw[if_pos hk3] at hnd h;have h2:=List.nodup_cons.1 hnd;have h3:=List.nodup_append.1 h2.2;unfold wL;rw[if_pos hk3];cases hc:eH nm e.d.cs with
   |some j=>
    have hF:bM nm [e]=(4,e,j):=by rw[bM,if_neg h1,hc]
    have hm:nm∈e.d.cs.map (·.1):=Classical.byContradiction fun g=>by rw[j6.2 g] at hc;cases hc
    have hne:nm≠e.d.nm++wK:=fun e'=>h3.2.2 nm hm _ (by simp) e'
    obtain⟨c,h5,h6⟩:=GB (d:=e.d) (i:=0) (f:=Bd f e.d) h3.1 hc;unfold pC;simp only[hF];rw[qF hne,h6,if_neg (by decide),if_pos trivial,h5,Nat.zero_add];rfl
   |none=>
    have hm:=j6.1 hc;have hr:nm=e.d.nm++wK:=by
     rcases List.mem_cons.1 h with h|h
     ·exact absurd h.symm h1
     ·rcases List.mem_append.1 h with h|h
      ·exact absurd h hm
      ·simpa using h
    have hF:bM nm [e]=(5,e,0):=by rw[bM,if_neg h1,hc];exact if_pos ⟨hk3,hr.symm⟩
    unfold pC;simp only[hF];rw[if_neg (by decide),if_neg (by decide),if_pos trivial,hr,qE]
  ·exfalso
   unfold dq at h;rw[if_neg hk3,hnc hk3] at h;simp at h;exact h1 h.symm
theorem CE(es:List cy)(e:cy):fL (es++[e])=wL (fL es) e:=by simp[fL]
theorem Hr(hk:∀e∈es,e.d.k=1∨e.d.k=2∨e.d.k=3)(hnc:∀e∈es,e.d.k≠3→e.d.cs=[])(hnd:(dB es).Nodup)(nm:ByteArray):fL es nm=pC es nm:=by
 have key:∀(n:Nat) (es:List cy),es.length=n→(∀ e∈es,e.d.k=1∨e.d.k=2∨e.d.k=3)→(∀ e∈es,e.d.k≠3→e.d.cs=[])→(dB es).Nodup→fL es nm=pC es nm:=by
  intro n
  induction n with
  |zero=>intro es hl _ _ _;rw[List.length_eq_zero_iff.1 hl];rfl
  |succ n ih=>
   intro es hl hk hnc hnd;obtain⟨r,e,rfl⟩:∃r e,es=r++[e]:=by
    rcases List.eq_nil_or_concat es with h|⟨r,e,h⟩
    ·subst h;simp at hl
    ·exact ⟨r,e,by simpa using h⟩
   rw[List.length_append] at hl;rw[xf,rY] at hnd;have h2:=List.nodup_append.1 hnd;have hkr:∀x∈r,x.d.k=1∨x.d.k=2∨x.d.k=3:=fun x hx=>hk x (List.mem_append_left _ hx)
   have hk0:∀x∈r,x.d.k≠0:=fun x hx=>by rcases hkr x hx with h|h|h<;>omega
   rw[CE];by_cases hm:nm∈dq e.d
   ·have h3:nm∉dB r:=fun h=>h2.2.2 nm h nm hm rfl
    rw[Lq (hk e (by simp)) (hnc e (by simp)) h2.2.1 hm];exact(xp (lH hk0 ((ln hk0).2 h3))).symm
   ·rw [Jv hm,ih r (by simpa using hl) hkr (fun x hx=>hnc x (List.mem_append_left _ hx)) h2.1];by_cases h0:(bM nm r).1=0
    ·have hke:∀x∈[e],x.d.k≠0:=fun x hx=>by rcases hk x (List.mem_append_right _ hx) with h|h|h<;>omega
     have h4:(bM nm [e]).1=0:=(ln hke).2 (by rw[rY];exact hm);have h5:=lH (m:=[e]) hk0 h0;unfold pC;simp only[h5,h0,h4,if_true]
    ·exact (xp (o9 h0)).symm
 exact key _ es rfl hk hnc hnd
theorem fX.look(h:fX es)(nm:ByteArray):fL es nm=pC es nm:=Hr (fun e he=>(h.ok.xP e he).k) h.nc h.nd nm
end
section
open Go Go.Vd Go.RowKit
attribute [local irreducible] bu bA di ak bL cU
variable {g gl:Nat→List D}
theorem CW(es:List cy)(w:Bool){sg:Sg}{ps:List ByteArray}{c:Int}(hc:0≤c∧c≤1099511627776)(kr nr:Int)(sr':ByteArray)(lr:List aP)(ar:List ae)(firsts:List ae)(p:Nat)(kt nt:Int)(st:ByteArray)(lt:List aP)(at':List ae)(given:List ae)(ka na:Int)(sa:ByteArray)(la:List aP)(aa:List ae)
 (hr:Wt sg ps (.mk kr nr sr' lr ar) c) (hf:∀x∈firsts,Wt sg ps x c) (hg:∀x∈given,Wt sg ps x c) (ha:Wt sg ps (.mk ka na sa la aa) c) (ht:Wt sg ps (.mk kt nt st lt at') (c+given.length))
 (zr:(ae.mk kr nr sr' lr ar).size≤1099511627776) (zf:aj firsts≤1099511627776) (zg:given.length≤1000000) (zgs:∀x∈given,x.size≤1099511627776) (za:(ae.mk ka na sa la aa).size≤1099511627776) (zt:(ae.mk kt nt st lt at').size≤1000000) (zp:p≤1000000):
 et Tryz.prog gl 124 [bc es w,ba] [.cb 0 0,.d (ae.mk kr nr sr' lr ar).d,.d (.sl 5 (aH firsts)),.d (.v (.int .i64 p)),.d (ae.mk kt nt st lt at').d,.d (.sl 5 (aH given)),.d (ae.mk ka na sa la aa).d] fun out ob'=> ∃(u:ae) (w':Bool),out=.ret (.d u.d)∧ob'=[bc es w',ba]∧u.size≤8796093022208∧
  (w'=false→w=false∧u=yE (.mk kr nr sr' lr ar) firsts p (.mk kt nt st lt at') given (.mk ka na sa la aa)):=by
 have hfl:=aO firsts;have hgl:=aO given;have hfs:=br firsts;refine bS Tryz.func124 Tryz.ntmps124 2 ?_;refine gc 13 ?_;refine o1 (iC ?_);refine ko 4 [15,14,13,11,8,0,2,3,5] 0 ?_;refine lp (ι:=Nat×Bool×Int×Int×ByteArray×List aP×List ae) (fun⟨i,w1,k1,m1,s1,l1,a1⟩=>[(15,int ((i:Int)-1))]) (fun⟨i,w1,k1,m1,s1,l1,a1⟩=>[bc es w1,ba,tO kr nr sr' lr ar,tO k1 m1 s1 l1 a1,tO ka na sa la aa,zO]) [14,13,11,8,0,2,3,5] (fun⟨i,w1,k1,m1,s1,l1,a1⟩=>i≤given.length∧(w1=false→w=false∧gp given given.length (.mk kt nt st lt at')=gp given i (.mk k1 m1 s1 l1 a1))∧Wt sg ps (.mk k1 m1 s1 l1 a1) (c+i)∧(ae.mk k1 m1 s1 l1 a1).size≤1000000) (fun⟨i,w1,k1,m1,s1,l1,a1⟩=>i) ((given.length,w,kt,nt,st,lt,at')) ([0,1,2,3,4,5]) rfl ?I1 ?M1 ?H1
 case I1=>
  exact⟨Nat.le_refl _,fun h=>⟨h,rfl⟩,ht,zt⟩
 case M1=>
  refine mo ?_ (ef rfl (by exact Fit.of_eq (by simp only[int,hgl];rfl)) (aJ (aJ (aJ (aJ (aJ (aJ (aJ (aJ dC)))))))))
  repeat (first|exact cH|refine bj ?_|refine cr ?_)
 case H1=>
  rintro⟨i,w1,k1,m1,s1,l1,a1⟩ hinv
  try dsimp only at hinv
  refine kc 0 [15,14,13,11,8,0,2,3,5] 7 ?_;refine cj (fun h2=>?_) (fun h2=>?_)
  ·refine gc 4 ?_;have hig:i-1<given.length:=by omega
   obtain⟨k2,m2,s2,l2,a2,hget⟩:=bK hig;have hgi:(ae.mk k2 m2 s2 l2 a2)=given.getD (i-1) aQ:=(by rw[List.getD_eq_getElem?_getD,hget];rfl);have hgm:=hg _ (List.mem_of_getElem? hget);have hgz:=zgs _ (List.mem_of_getElem? hget);have hidx:(aH given)[((i:Int)-1).toNat]? =some [.v (.int .i64 k2),.v (.int .i64 m2),.v (.string s2),.sl 3 (bF l2),.sl 5 (aH a2)]:=(by rw[show((i:Int)-1).toNat=i-1 by omega,gY hget];rfl);have hlf:=ik (gl:=gl) (n0:=(i:Int)-1) (B:=4398046511104) (by omega) (by omega) _ k2 m2 s2 l2 a2 0 (Nat.le_refl _) (hgm.sh (by omega)) (Int.le_refl _) (by omega);have hlw:=hgm.NO (m:=(i:Int)-1) (fr:=0) (by omega);have hlz:=jk (.mk k2 m2 s2 l2 a2) ((i:Int)-1) 0;rw[← dY] at hlf;obtain⟨k4,m4,s4,l4,a4,hY⟩:=ae.case (dz (.mk k2 m2 s2 l2 a2) ((i:Int)-1) 0)
   rw[hY] at hlf hlw hlz;have hes:=oy (gl:=gl) es w1 (B:=4398046511104) (B':=4398046511104) (by omega) (by omega) k1 m1 s1 l1 a1 k4 m4 s4 l4 a4 (by have:=hinv.2.2.2;omega) (by omega) (hinv.2.2.1.sh (by have:=hinv.2.2.2;omega)) (hlw.sh (by omega));refine gz [0,1,2,3] mixed ?_;refine A1 4 rfl (cu bB bH ⟨_,rfl,?_⟩ (he:=by exact(hidx)));refine ga [5,6] ?_;refine A2 7 rfl (cv Ds rfl rfl (hlf) (bo (an (an .nil))) ?_);refine A2 8 rfl (aN Fo rfl rfl rfl rfl (hes) [0,1] (bj (cr .nil)) rfl rfl rfl rfl (an (bo (an .nil))) (fun s ob' hq=>?_) (fun s ob' hq=>?_));rotate_left
   ·obtain ⟨_,_,hq1,_⟩:=hq;cases hq1
   obtain⟨⟨k3,m3,s3,l3,a3⟩,w2,hq1,rfl,hw2⟩:=hq;cases hq1;have hsz3:(ae.mk k3 m3 s3 l3 a3).size≤1000000:=(by rcases hw2 with⟨_,_,_,e⟩|⟨_,e⟩;omega;rw[e];decide);have hwt:Wt sg ps (.mk k3 m3 s3 l3 a3) (c+((i-1:Nat):Int)):=(by
    rcases hw2 with⟨_,_,e,_⟩|⟨_,e⟩
    ·rw [e];refine Wt.sub (by omega) ?_ ?_
     ·have:=hinv.2.2.1;rwa [show c+((i-1:Nat):Int)+1=c+(i:Int) by omega]
     ·rw [show c+((i-1:Nat):Int)=c+((i:Int)-1) by omega];exact hlw
    ·rw [e];exact we)
   refine⟨_,_,_,_,_,rfl,rfl,rfl,rfl,rfl,?_⟩;refine A2 9 rfl (dN bw ?_);refine aZ ?_;refine ke 2 [15,14,13,11,8,0,2,3,5] 2 ?_;refine o1 (iC ?_);refine go 2 ?_;refine bk ((i-1,w2,k3,m3,s3,l3,a3)) rfl ?_ ([0,1,2,3,4,5]) ?_
   ·obtain ⟨j,rfl⟩:∃j,i=j+1:=⟨i-1,by omega⟩;refine⟨⟨by omega,fun h=>?_,?_,?_⟩,show j+1-1<j+1 by omega⟩
    ·rcases hw2 with⟨e1,e2,e3,e4⟩|⟨e1,_⟩
     ·obtain ⟨h5,h6⟩:=hinv.2.1 e2;refine⟨h5,?_⟩;rw[h6,gp,show given.getD j aQ=.mk k2 m2 s2 l2 a2 from hgi.symm,show dz (.mk k2 m2 s2 l2 a2) (j:Int) 0=.mk k4 m4 s4 l4 a4 from(by rw[← hY];congr 1;omega),←e3];rfl
     ·rw [e1] at h;cases h
    ·exact hwt
    ·exact hsz3
   ·refine mo ?_ (ef rfl (by exact Fit.of_eq (by show SV.d (D.v (Value.int .i64 ((i:Int)-1-1)))=SV.d (D.v (Value.int .i64 (((i-1:Nat):Int)-1)));rw[show((i-1:Nat):Int)=(i:Int)-1 by omega])) (aJ (aJ (aJ (aJ (aJ (aJ (aJ (aJ dC)))))))))
    repeat (first|exact cH|refine bj ?_|refine cr ?_)
  refine kc 6 [14,13,11,8,0,2,3] 0 ?_;obtain rfl:i=0:=(by omega);have hW:Wt sg ps (.mk k1 m1 s1 l1 a1) c:=(by have:=hinv.2.2.1;rwa [Int.natCast_zero,Int.add_zero] at this);have hz1:=hinv.2.2.2;have hI:=hinv.2.1;rw[gp] at hI;have hpz:=dT _ (.mk k1 m1 s1 l1 a1) (Nat.le_refl _);have hps:=iK (gl:=gl) (B:=4398046511104) k1 m1 s1 l1 a1 (hW.sh (by omega)) (by omega);have hhz:=J0 (.mk kr nr sr' lr ar) firsts p (.mk k1 m1 s1 l1 a1) (.mk ka na sa la aa);have hxl:=dV _ (.mk k1 m1 s1 l1 a1) (Nat.le_refl _);have hez:=dH (bg (.mk k1 m1 s1 l1 a1)) (.mk k1 m1 s1 l1 a1);have hEW:=hW.xs (Nat.le_refl _);have hstep:=fun j=>ig j (.mk k1 m1 s1 l1 a1)
  have hHB:EM (.mk kr nr sr' lr ar) firsts p (.mk k1 m1 s1 l1 a1) (.mk ka na sa la aa)=iR (gh (bg (.mk k1 m1 s1 l1 a1)) (.mk k1 m1 s1 l1 a1)) (.mk 3 0 .empty [] [bt (bt (dz (.mk kr nr sr' lr ar) (bg (.mk k1 m1 s1 l1 a1)) 0) (firsts.map fun x=>dz x (bg (.mk k1 m1 s1 l1 a1)) 0)) ((bf (er (bg (.mk k1 m1 s1 l1 a1)) (.mk k1 m1 s1 l1 a1))).2.drop p),fh (bg (.mk k1 m1 s1 l1 a1)) (dz (.mk ka na sa la aa) (bg (.mk k1 m1 s1 l1 a1)) 0)]):=rfl;generalize hnn:bg (.mk k1 m1 s1 l1 a1)=n at hps hpz hxl hez hEW hstep hHB;have hxz:=aO (gh n (.mk k1 m1 s1 l1 a1));refine gc 2 ?_;refine oc (cv rF rfl rfl (hps) (bo .nil) ?_);refine ko 15 [18,17,16,14,13,11,8,0,2,3] 0 ?_;refine bz 39 5 rfl ?_;refine lp (ι:=Nat×Int×Int×ByteArray×List aP×List ae) (fun⟨j,k5,m5,s5,l5,a5⟩=>[(18,int j),(17,.own 6 5 (aH (gh j (.mk k1 m1 s1 l1 a1))))]) (fun⟨j,k5,m5,s5,l5,a5⟩=>[bc es w1,ba,tO kr nr sr' lr ar,tO k5 m5 s5 l5 a5,tO ka na sa la aa,zO,tR]) [16,14,13,11,8,0,2,3] (fun⟨j,k5,m5,s5,l5,a5⟩=>j≤n∧er j (.mk k1 m1 s1 l1 a1)=.mk k5 m5 s5 l5 a5) (fun⟨j,k5,m5,s5,l5,a5⟩=>n-j) ((0,k1,m1,s1,l1,a1)) ([0,1,2,3,4,5,6]) rfl ?I2 ?M2 ?H2
  case I2=>
   exact⟨Nat.zero_le _,rfl⟩
  case M2=>
   refine mo ?_ (aJ (ef rfl (by exact Fit.nil rfl) (aJ (aJ (aJ (aJ (aJ (aJ (aJ (aJ dC))))))))))
   repeat (first|exact cH|refine bj ?_|refine cr ?_|refine qx ?_)
  case H2=>
   rintro⟨j,k5,m5,s5,l5,a5⟩ hinv
   try dsimp only at hinv
   refine kc 0 [18,17,16,14,13,11,8,0,2,3] 8 ?_;refine cj (fun h8=>?_) (fun h8=>?_)
   ·refine gc 5 ?_;obtain⟨m6,s6,l6,⟨k7,m7,s7,l7,a7⟩,⟨kb,mb,sb,lb,ab⟩,he1,he2,he3,he4⟩:=hstep j (by omega);rw[hinv.2] at he1;simp only[ae.mk.injEq] at he1;obtain⟨rfl,rfl,rfl,rfl,rfl⟩:=he1;have hnx:aH (gh j (.mk k1 m1 s1 l1 a1))++[[.v (.int .i64 k7),.v (.int .i64 m7),.v (.string s7),.sl 3 (bF l7),.sl 5 (aH a7)]]=aH (gh (j+1) (.mk k1 m1 s1 l1 a1)):=(by rw[he3,dj];rfl);have hxj:=dV j (.mk k1 m1 s1 l1 a1) (by omega);have hxj2:=aO (gh j (.mk k1 m1 s1 l1 a1));refine gc 4 ?_;refine o1 (cu bB bH ?_ (he:=by exact(rfl)));refine go 1 ?_;refine oc (gD dE [.tmp 54] bw ?_);refine oc (px dE ?_);refine ko 3 [17,18,16,14,13,11,8,0,2,3] 3 ?_;refine o1 (cu bB bH ?_ (he:=by exact(rfl)));refine ko 5 [17,18,16,14,13,11,8,0,2,3] 2 ?_;refine o1 (cG ?_);refine go 2 ?_;rw[hnx];refine bk (j+1,kb,mb,sb,lb,ab) rfl ?_ [0,1,2,3,4,5,6] mz;exact⟨⟨by omega,he2⟩,show n-(j+1)<n-j by omega⟩
   refine kc 6 [17,16,14,13,11,8,0,2,3] 0 ?_;obtain rfl:j=n:=(by omega);have hE:=hinv.2;rw[hE] at hEW hez hHB;obtain⟨hok,_,_,_⟩:=Wt.spine _ (Nat.le_refl _) hEW;have hspn:=eY (gl:=gl) k5 m5 s5 l5 a5 hok (by omega);have hss:=dQ _ (.mk k5 m5 s5 l5 a5) (Nat.le_refl _);rcases hS:bf (.mk k5 m5 s5 l5 a5) with⟨⟨kh,mh,sh,lh,ah⟩,as2⟩;rw[hS] at hspn hss hHB;simp only at hspn hss hHB;have has:=br as2;have hat2:=aO as2;refine gc 2 ?_;refine oc (cv yM rfl rfl (hspn) (bo .nil) ?_);refine ko 9 [20,17,16,14,13,11,8,0,2,3] 8 ?_;refine cj (fun h13=>?_) (fun h13=>?_)
   ·refine kc 0 [14,11] 8 ?_;refine eo ((ae.mk k5 m5 s5 l5 a5).d) [0,1] [bc es w1,ba] ?_
    ·exact ⟨.mk k5 m5 s5 l5 a5,w1,rfl,rfl,by omega,fun h=>by rw[h] at h13;cases h13⟩
   refine kc 3 [20,17,16,14,13,8,2,3] 0 ?_;have hw1:w1=false:=(by cases w1 with|false=>rfl|true=>first|cases h13|exact absurd rfl h13);obtain⟨hw0,hI⟩:=hI hw1;have hl1:=ik (gl:=gl) (n0:=(j:Int)) (B:=4398046511104) (by omega) (by omega) _ kr nr sr' lr ar 0 (Nat.le_refl _) (hr.sh (by omega)) (Int.le_refl _) (by omega);rw[← dY] at hl1;obtain⟨kx,mx,sx,lx,ax,hX⟩:=ae.case (dz (.mk kr nr sr' lr ar) (j:Int) 0)
   rw[hX] at hl1 hHB;refine gc 3 ?_;refine oc (cv Ds rfl rfl (hl1) (bo (an (an .nil))) ?_);refine ko 5 [21,20,17,16,14,13,2,3] 6 ?_;refine lp (ι:=Nat×Int×Int×ByteArray×List aP×List ae) (fun⟨q,k6,m6,s6,l6,a6⟩=>[(22,int q)]) (fun⟨q,k6,m6,s6,l6,a6⟩=>[bc es w1,ba,tO kr nr sr' lr ar,tO k5 m5 s5 l5 a5,tO ka na sa la aa,zO,tR,tO kh mh sh lh ah,tO k6 m6 s6 l6 a6]) [21,20,17,16,14,13,2,3] (fun⟨q,k6,m6,s6,l6,a6⟩=>q≤firsts.length∧bt (.mk kx mx sx lx ax) ((firsts.map fun x=>dz x (j:Int) 0).take q)=.mk k6 m6 s6 l6 a6) (fun⟨q,k6,m6,s6,l6,a6⟩=>firsts.length-q) ((0,kx,mx,sx,lx,ax)) ([0,1,2,3,4,5,6,7,8]) rfl ?I3 ?M3 ?H3
   case I3=>
    exact⟨Nat.zero_le _,rfl⟩
   case M3=>
    exact mz
   case H3=>
    rintro⟨q,k6,m6,s6,l6,a6⟩ hinv
    try dsimp only at hinv
    refine kc 0 [22,21,20,17,16,14,13,2,3] 9 ?_;refine cj (fun h17=>?_) (fun h17=>?_)
    ·refine kc 4 [22,21,20,17,16,14,13,2,3] 0 ?_;obtain⟨k8,m8,s8,l8,a8,hget⟩:=bK (show q<firsts.length by omega);have hgm0:=hf _ (List.mem_of_getElem? hget);have hgz:=bG hget;have hl8:=ik (gl:=gl) (n0:=(j:Int)) (B:=4398046511104) (by omega) (by omega) _ k8 m8 s8 l8 a8 0 (Nat.le_refl _) (hgm0.sh (by omega)) (Int.le_refl _) (by omega);rw[← dY] at hl8;obtain⟨k9,m9,s9,l9,a9,hY⟩:=ae.case (dz (.mk k8 m8 s8 l8 a8) (j:Int) 0)
     have hgm:(firsts.map fun x=>dz x (j:Int) 0)[q]? =some (.mk k9 m9 s9 l9 a9):=(by rw[List.getElem?_map,hget,Option.map_some,hY]);rw[hY] at hl8;have hap:=dt (gl:=gl) k6 m6 s6 l6 a6 k9 m9 s9 l9 a9;refine gz [0,1,2] mixed ?_;refine A1 3 rfl (cu bB bH ⟨_,rfl,?_⟩ (he:=by exact(bW hget)));refine ga [4,5] ?_;refine A2 6 rfl (cv Ds rfl rfl (hl8) (bo (an (an .nil))) ?_);refine A2 7 rfl (cv pt rfl rfl (hap) (bo (an .nil)) ?_);refine A2 8 rfl (dN bw ?_);refine aZ ?_;refine ke 2 [22,21,20,17,16,14,13,2,3] 2 ?_;refine o1 (cG ?_);refine go 2 ?_;refine bk (q+1,3,0,.empty,[],[.mk k6 m6 s6 l6 a6,.mk k9 m9 s9 l9 a9]) rfl ?_ [0,1,2,3,4,5,6,7,8] mz;exact⟨⟨by omega,by rw[fg hgm,hinv.2]⟩,show firsts.length-(q+1)<firsts.length-q by omega⟩
    refine kc 7 [21,20,17,16,14,13,3] 0 ?_;obtain rfl:q=firsts.length:=(by omega);have hH:=hinv.2;rw[List.take_of_length_le (by rw[List.length_map];exact Nat.le_refl _)] at hH;rw[hH] at hHB;have hdl:(as2.drop p).length=as2.length-p:=List.length_drop;refine kc 6 [23,21,20,17,16,14,13] 0 ?_;refine lp (ι:=Nat×Int×Int×ByteArray×List aP×List ae) (fun⟨q,k7,m7,s7,l7,a7⟩=>[(23,int ((p+q:Nat):Int))]) (fun⟨q,k7,m7,s7,l7,a7⟩=>[bc es w1,ba,tO kr nr sr' lr ar,tO k5 m5 s5 l5 a5,tO ka na sa la aa,zO,tR,tO kh mh sh lh ah,tO k7 m7 s7 l7 a7]) [21,20,17,16,14,13] (fun⟨q,k7,m7,s7,l7,a7⟩=>q≤as2.length-p∧bt (.mk k6 m6 s6 l6 a6) ((as2.drop p).take q)=.mk k7 m7 s7 l7 a7) (fun⟨q,k7,m7,s7,l7,a7⟩=>as2.length-p-q) ((0,k6,m6,s6,l6,a6)) ([0,1,2,3,4,5,6,7,8]) rfl ?I4 ?M4 ?H4
    case I4=>
     exact⟨Nat.zero_le _,rfl⟩
    case M4=>
     refine mo ?_ (ef rfl (by exact Fit.of_eq (by rfl)) (aJ (aJ (aJ (aJ (aJ (aJ dC)))))))
     repeat (first|exact cH|refine bj ?_|refine cr ?_)
    case H4=>
     rintro⟨q,k7,m7,s7,l7,a7⟩ hinv
     try dsimp only at hinv
     refine kc 0 [23,21,20,17,16,14,13] 9 ?_;refine cj (fun h21=>?_) (fun h21=>?_)
     ·refine kc 4 [23,21,20,17,16,14,13] 0 ?_;obtain⟨k8,m8,s8,l8,a8,hget⟩:=bK (show p+q<as2.length by omega);have hgm:(as2.drop p)[q]? =some (.mk k8 m8 s8 l8 a8):=(by rw[List.getElem?_drop];exact hget);have hap:=dt (gl:=gl) k7 m7 s7 l7 a7 k8 m8 s8 l8 a8;refine gz [0,1,2] mixed ?_;refine A1 3 rfl (cu bB bH ⟨_,rfl,?_⟩ (he:=by exact(bW hget)));refine ga [4] ?_;refine A2 5 rfl (cv pt rfl rfl (hap) (bo (bo .nil)) ?_);refine A2 6 rfl (dN bw ?_);refine aZ ?_;refine ke 2 [23,21,20,17,16,14,13] 2 ?_;refine o1 (cG ?_);refine go 2 ?_;refine bk ((q+1,3,0,.empty,[],[.mk k7 m7 s7 l7 a7,.mk k8 m8 s8 l8 a8])) rfl ?_ ([0,1,2,3,4,5,6,7,8]) ?_
      ·exact ⟨⟨by omega,by rw[fg hgm,hinv.2]⟩,show as2.length-p-(q+1)<as2.length-p-q by omega⟩
      ·refine mo ?_ (ef rfl (by exact Fit.of_eq (by first|rfl|(congr 3;omega))) (aJ (aJ (aJ (aJ (aJ (aJ dC)))))))
       repeat (first|exact cH|refine bj ?_|refine cr ?_)
     refine kc 6 [21,17,16,14,13] 0 ?_;have hG:=hinv.2;rw[List.take_of_length_le (by omega)] at hG;rw[hG] at hHB;have hla:=ik (gl:=gl) (n0:=(j:Int)) (B:=4398046511104) (by omega) (by omega) _ ka na sa la aa 0 (Nat.le_refl _) (ha.sh (by omega)) (Int.le_refl _) (by omega);rw[← dY] at hla;obtain⟨kV,mV,sV,lV,aV,hV⟩:=ae.case (dz (.mk ka na sa la aa) (j:Int) 0)
     rw[hV] at hla hHB;refine gc 3 ?_;refine oc (cv Ds rfl rfl (hla) (bo (an (an .nil))) ?_);refine ko 5 [24,21,17,16,14] 3 ?_;refine o1 (iC ?_);refine ko 4 [25,24,21,17,16,14] 0 ?_;refine lp (ι:=Nat×Int×Int×ByteArray×List aP×List ae) (fun⟨r,k8,m8,s8,l8,a8⟩=>[(25,int ((r:Int)-1))]) (fun⟨r,k8,m8,s8,l8,a8⟩=>[bc es w1,ba,tO kr nr sr' lr ar,tO k5 m5 s5 l5 a5,tO ka na sa la aa,zO,tR,tO kh mh sh lh ah,tO k7 m7 s7 l7 a7,tO k8 m8 s8 l8 a8]) [24,21,17,16,14] (fun⟨r,k8,m8,s8,l8,a8⟩=>r≤j∧fh j (.mk kV mV sV lV aV)=fh r (.mk k8 m8 s8 l8 a8)) (fun⟨r,k8,m8,s8,l8,a8⟩=>r) ((j,kV,mV,sV,lV,aV)) ([0,1,2,3,4,5,6,7,8,9]) rfl ?I5 ?M5 ?H5
     case I5=>
      exact⟨Nat.le_refl _,rfl⟩
     case M5=>
      exact mz
     case H5=>
      rintro⟨r,k8,m8,s8,l8,a8⟩ hinv
      try dsimp only at hinv
      refine kc 0 [25,24,21,17,16,14] 7 ?_;refine cj (fun h26=>?_) (fun h26=>?_)
      ·refine gc 4 ?_;refine gz [0,1] mixed ?_;refine A2 2 rfl (cv Mh rfl rfl (qX ((r:Int)-1)) (an .nil) ?_);refine A2 3 rfl (cv pt rfl rfl (dt k8 m8 s8 l8 a8 0 ((r:Int)-1) .empty [] []) (bo (an .nil)) ?_);refine A2 4 rfl (dN bw ?_);refine aZ ?_;refine ke 2 [25,24,21,17,16,14] 2 ?_;refine o1 (iC ?_);refine go 2 ?_;refine bk ((r-1,3,0,.empty,[],[.mk k8 m8 s8 l8 a8,.mk 0 ((r:Int)-1) .empty [] []])) rfl ?_ ([0,1,2,3,4,5,6,7,8,9]) ?_
       ·obtain ⟨r',rfl⟩:∃r',r=r'+1:=⟨r-1,by omega⟩;refine⟨⟨by omega,?_⟩,show r'+1-1<r'+1 by omega⟩;rw[hinv.2,fh,show(((r'+1:Nat):Int)-1)=(r':Int) by omega];rfl
       ·refine mo ?_ (ef rfl (by exact Fit.of_eq (by show SV.d (D.v (Value.int .i64 ((r:Int)-1-1)))=SV.d (D.v (Value.int .i64 (((r-1:Nat):Int)-1)));rw[show((r-1:Nat):Int)=(r:Int)-1 by omega])) (aJ (aJ (aJ (aJ (aJ dC))))))
        repeat (first|exact cH|refine bj ?_|refine cr ?_)
      refine gc 6 ?_;obtain rfl:r=0:=(by omega);have hA:=hinv.2;rw[fh] at hA;rw[hA] at hHB;refine gc 3 ?_;refine oc (cv pt rfl rfl (dt k7 m7 s7 l7 a7 k8 m8 s8 l8 a8) (bo (bo .nil)) ?_);refine ko 4 [21,17,16,14] 3 ?_;refine o1 (iC ?_);refine ko 4 [26,21,17,14] 0 ?_;refine lp (ι:=Nat×Int×Int×ByteArray×List aP×List ae) (fun⟨r,k9,m9,s9,l9,a9⟩=>[(26,int ((r:Int)-1))]) (fun⟨r,k9,m9,s9,l9,a9⟩=>[bc es w1,ba,tO kr nr sr' lr ar,tO k5 m5 s5 l5 a5,tO ka na sa la aa,zO,tR,tO kh mh sh lh ah,tO k9 m9 s9 l9 a9,tO k8 m8 s8 l8 a8]) [21,17,14] (fun⟨r,k9,m9,s9,l9,a9⟩=>r≤j∧iR (gh j (.mk k1 m1 s1 l1 a1)) (.mk 3 0 .empty [] [.mk k7 m7 s7 l7 a7,.mk k8 m8 s8 l8 a8])=iR ((gh j (.mk k1 m1 s1 l1 a1)).take r) (.mk k9 m9 s9 l9 a9)) (fun⟨r,k9,m9,s9,l9,a9⟩=>r) ((j,3,0,.empty,[],[.mk k7 m7 s7 l7 a7,.mk k8 m8 s8 l8 a8])) ([0,1,2,3,4,5,6,7,8,9]) rfl ?I6 ?M6 ?H6
      case I6=>
       exact⟨Nat.le_refl _,by rw[List.take_of_length_le (by omega)]⟩
      case M6=>
       exact mz
      case H6=>
       rintro⟨r,k9,m9,s9,l9,a9⟩ hinv
       try dsimp only at hinv
       refine kc 0 [26,21,17,14] 7 ?_;refine cJ (fun h31=>?_) (fun h31=>?_)
       ·refine kc 6 [21,14] 0 ?_;obtain rfl:r=0:=(by omega);have hfin:=hinv.2;rw[List.take_zero] at hfin;rw[hfin] at hHB;have hfin2:iR [] (.mk k9 m9 s9 l9 a9)=.mk k9 m9 s9 l9 a9:=rfl;rw[hfin2] at hHB;rw[hHB] at hhz;refine gc 6 ?_;refine eo ((ae.mk k9 m9 s9 l9 a9).d) [0,1] [bc es w1,ba] ?_
        ·exact ⟨.mk k9 m9 s9 l9 a9,w1,rfl,rfl,by omega,fun _=>⟨hw0,by unfold yE;rw[hI,hHB]⟩⟩
       refine gc 4 ?_;obtain⟨kb,mb,sb,lb,ab,hget⟩:=bK (show r-1<(gh j (.mk k1 m1 s1 l1 a1)).length by omega);have hidx:(aH (gh j (.mk k1 m1 s1 l1 a1)))[((r:Int)-1).toNat]? =some [.v (.int .i64 kb),.v (.int .i64 mb),.v (.string sb),.sl 3 (bF lb),.sl 5 (aH ab)]:=(by rw[show((r:Int)-1).toNat=r-1 by omega,gY hget];rfl);have hlm:=Hv (gl:=gl) kb mb sb lb ab k9 m9 s9 l9 a9;refine gz [0,1] mixed ?_;refine A1 2 rfl (F9 bB bH ⟨_,rfl,?_⟩ (he:=by exact(hidx)));refine ga [3,4] ?_;refine A2 5 rfl (cv P9 rfl rfl (hlm) (bo (bo .nil)) ?_);refine A2 6 rfl (dN bw ?_);refine aZ ?_;refine ke 2 [26,21,17,14] 2 ?_;refine o1 (iC ?_);refine go 2 ?_;refine bk ((r-1,4,0,.empty,[],[.mk kb mb sb lb ab,.mk k9 m9 s9 l9 a9])) rfl ?_ ([0,1,2,3,4,5,6,7,8,9]) ?_
       ·obtain ⟨r',rfl⟩:∃r',r=r'+1:=⟨r-1,by omega⟩;refine⟨⟨by omega,?_⟩,show r'+1-1<r'+1 by omega⟩;rw[hinv.2,List.take_add_one,show(gh j (.mk k1 m1 s1 l1 a1))[r']? =some (.mk kb mb sb lb ab) from hget];exact se _ _ _
       ·refine mo ?_ (ef rfl (by exact Fit.of_eq (by show SV.d (D.v (Value.int .i64 ((r:Int)-1-1)))=SV.d (D.v (Value.int .i64 (((r-1:Nat):Int)-1)));rw[show((r-1:Nat):Int)=(r:Int)-1 by omega])) (aJ (aJ (aJ dC))))
        repeat (first|exact cH|refine bj ?_|refine cr ?_)
end
section
open Go Go.Vd Go.RowKit
def ae.kd:ae→Int| .mk k _ _ _ _=>k
inductive qC where
 |ok (u:ae) (d:Nat)
 |cI
inductive FL where
 |step (u:ae) (d:Nat)
 |stuck (d:Nat)
 |cI
def HA(e:cy):Nat:=e.d.ar.toNat+1+e.d.cs.length+(bg e.d.ty-e.d.ar.toNat)
def vY(nm:ByteArray)(h:ae)(firsts:List ae)(p:Nat)(pre X cs:List ae):Nat→List ae
 |0=>[]
 |j+1=>vY nm h firsts p pre X cs j++(if p≤j∧eU (jN nm) (X.getD j aQ) 0=true then[yE h firsts p (X.getD j aQ) (pre++(cs.drop p).take (j-p)) (cs.getD j aQ)] else[])
def n9(e:cy)(h:ae)(az cs:List ae)(i:Nat)(cty:ae)(us:List aP):ae:=
 bt (bt (bt (az.getD (e.d.ar.toNat+1+i) aQ) (cs.drop e.d.ar.toNat))
  (vY e.d.nm h (az.take (e.d.ar.toNat+1+e.d.cs.length)) e.d.ar.toNat (az.take e.d.ar.toNat) (gh cs.length (ew e.d.ps us cty)) cs cs.length)) (az.drop (HA e+1))
def lQ(es:List cy)(e:cy)(h:ae)(cs:List ae)(i:Nat)(cty:ae)(us:List aP):Prop:=
 ∃s e2 nm,h=.mk 2 0 s us []∧bM s es=(4,e2,i)∧e2.d.nm=e.d.nm∧e.d.cs[i]? =some (nm,cty)∧cs.length=bg cty
def RI (es : List cy) (most : Nat) (R : ae → Nat → qC → Prop) (e : cy) (h : ae) (az : List ae) (d : Nat) (o : FL) : Prop :=
  (az.length ≤ HA e ∧ o = .stuck d) ∨
  ∃ x, az[HA e]? = some x ∧ ((R x d .cI ∧ o = .cI) ∨ ∃ mj d1, R x d (.ok mj d1) ∧
    (((∀ i cty us, ¬ lQ es e (bf mj).1 (bf mj).2 i cty us) ∧ o = .stuck d1) ∨
     ∃ i cty us, lQ es e (bf mj).1 (bf mj).2 i cty us ∧ ((most ≤ d1 ∧ o = .cI) ∨
      (d1 < most ∧ (ew e.d.ps us cty).size ≤ 20000 ∧ (n9 e h az (bf mj).2 i cty us).size ≤ 20000 ∧ o = .step (n9 e h az (bf mj).2 i cty us) (d1 + 1)))))
def wx(most d:Nat)(R:ae→Nat→qC→Prop)(u v:ae)(o:qC):Prop:=(most≤d∧o=.cI)∨(d<most∧v.size≤20000∧R u (d+1) o)
def DY(es:List cy)(h:ae)(az:List ae):Prop:=
 ¬(ae.kd h=4∧az≠[])∧¬ae.kd h=6∧∀s us,h=.mk 2 0 s us []→¬((bM s es).1=2∧(bM s es).2.1.d.ps.length=us.length)∧¬((bM s es).1=5∧(bM s es).2.1.rp.length=us.length)
def Oe(R:ae→Nat→qC→Prop)(t:ae)(o:qC):FL→Prop
 | .step u d=>R u d o
 | .stuck d=>o=.ok t d
 | .cI=>o=.cI
def RW(es:List cy)(most:Nat):Nat→ae→Nat→qC→Prop
 |0,_,_,_=>False
 |n+1,t,d,o=>
  (∃ A b a r,(bf t).1=.mk 4 0 .empty [] [A,b]∧(bf t).2=a::r∧wx most d (RW es most n) (bt (dp b a) r) (dp b a) o)∨
  (∃ A v b,(bf t).1=.mk 6 0 .empty [] [A,v,b]∧wx most d (RW es most n) (bt (dp b v) (bf t).2) (dp b v) o)∨
  (∃ s us e j,(bf t).1=.mk 2 0 s us []∧bM s es=(2,e,j)∧e.d.ps.length=us.length∧wx most d (RW es most n) (bt (ew e.d.ps us e.d.vl) (bf t).2) (ew e.d.ps us e.d.vl) o)∨
  (∃ s us e j io,(bf t).1=.mk 2 0 s us []∧bM s es=(5,e,j)∧e.rp.length=us.length∧RI es most (RW es most n) e (.mk 2 0 s us []) (bf t).2 d io∧Oe (RW es most n) t o io)∨
  (DY es (bf t).1 (bf t).2∧o=.ok t d)
theorem tu(ps:List ByteArray)(us:List aP)(t:ae):bg (ew ps us t)=bg t:=by
 suffices h:∀(n:Nat) (t:ae),t.size≤n→bg (ew ps us t)=bg t from h _ t (Nat.le_refl _)
 intro n
 induction n with
 |zero=>intro t h;obtain⟨k,m,s,ls,args,rfl⟩:=ae.case t;simp[ae.size] at h
 |succ n ih=>
  intro t h
  match t with
  | .mk k m s ls [a,b]=>
   simp only[ae.size,aj] at h;simp only[ew,dw,bg];rw[ih b (by omega)]
  | .mk k m s ls []=>simp[ew,dw,bg]
  | .mk k m s ls [a]=>simp[ew,dw,bg]
  | .mk k m s ls (a::b::c::r)=>simp[ew,dw,bg]
variable {sg:Sg} {ps:List ByteArray} {c:Int} {h:ae} {cs:List ae}
theorem NS(hc:0≤c){nm:ByteArray}{firsts pre X:List ae}{p:Nat}(hh:Wt sg ps h c)(hf:∀x∈firsts,Wt sg ps x c)(hp:∀x∈pre,Wt sg ps x c)(hpl:pre.length=p)(hX:∀(j:Nat) x,X[j]? =some x→Wt sg ps x (c+j))(hs:∀x∈cs,Wt sg ps x c)(hl:X.length=cs.length):
 ∀j,j≤cs.length→∀x∈vY nm h firsts p pre X cs j,Wt sg ps x c:=by
 intro j
 induction j with
 |zero=>intro _ x hx;cases hx
 |succ j ih=>
  intro hj x hx;rw[vY] at hx;rcases List.mem_append.1 hx with hx|hx
  ·exact ih (by omega) x hx
  ·split at hx
   ·rename_i hcond;simp only[List.mem_singleton] at hx;subst hx;have e1:X.getD j aQ=X[j]'(by omega):=by rw[List.getD_eq_getElem?_getD,List.getElem?_eq_getElem (by omega)];rfl
    have e2:cs.getD j aQ=cs[j]'(by omega):=by rw[List.getD_eq_getElem?_getD,List.getElem?_eq_getElem (by omega)];rfl
    rw[e1,e2];refine Wt.yE hc hh hf (fun y hy=>?_) (hs _ (List.getElem_mem _)) ?_
    ·rcases List.mem_append.1 hy with hy|hy
     ·exact hp y hy
     ·exact hs y (List.mem_of_mem_drop (List.mem_of_mem_take hy))
    ·have e3:(pre++(cs.drop p).take (j-p)).length=j:=by
      rw[List.length_append,List.length_take,List.length_drop,hpl];omega
     rw[e3];exact hX j _ (List.getElem?_eq_getElem (by omega))
   ·cases hx
theorem Ga{es:List cy}(hc:0≤c){e:cy}(he:yi sg e)(hk:e.d.k=3){az:List ae}{i:Nat}{cty:ae}{us:List aP}(hh:Wt sg ps h c)(ha:∀x∈az,Wt sg ps x c)(hs:∀x∈cs,Wt sg ps x c)(hu:∀u∈us,iQ ps u)(hul:e.d.ps.length≤us.length)(hct:Wt sg e.d.ps cty 0)(hl:cs.length=bg cty)(hal:HA e<az.length)(hi:i<e.d.cs.length):
 Wt sg ps (n9 e h az cs i cty us) c:=by
 have hX:=hct.IJ hul hu;have hpX:=tu e.d.ps us cty;have hx2:=hX.wN cs.length (by rw[hpX,hl];exact Nat.le_refl _);have hxl:=dV cs.length (ew e.d.ps us cty) (by rw[hpX,hl];exact Nat.le_refl _);unfold HA at hal;refine Wt.apply (Wt.apply (Wt.apply ?_ fun x hx=>hs x (List.mem_of_mem_drop hx)) ?_) fun x hx=>ha x (List.mem_of_mem_drop hx)
 ·rw [List.getD_eq_getElem?_getD,List.getElem?_eq_getElem (by omega)];exact ha _ (List.getElem_mem _)
 ·exact NS hc hh (fun x hx=>ha x (List.mem_of_mem_take hx)) (fun x hx=>ha x (List.mem_of_mem_take hx)) (by rw[List.length_take];omega) (fun j x hx=>(hx2.2 j x hx).up (by omega)) hs hxl cs.length (Nat.le_refl _)
end
section
open Go Go.Vd Go.RowKit
theorem gJ{nm:ByteArray}:∀{es:List cy} {k:Int} {e:cy} {j:Nat},bM nm es=(k,e,j)→k≠0→(k=e.d.k∨k=4∨(k=5∧e.d.k=3))
 |[],k,e,j,h,h0=>by rw[bM] at h;cases h;exact absurd rfl h0
 |x::r,k,e,j,h,h0=>by
  rw[bM] at h;split at h
  ·cases h;exact .inl rfl
  ·split at h
   ·cases h;exact .inr (.inl rfl)
   ·split at h
    ·rename_i hh;cases h;exact .inr (.inr ⟨rfl,hh.1⟩)
    ·exact gJ h h0
variable {es:List cy} {e:cy}
theorem hZ{nm:ByteArray}{k:Int}{j:Nat}(h:bM nm es=(k,e,j))(h0:k≠0):e∈es:=by
 have:=uJ (nm:=nm) (es:=es) (by rw[h];exact h0);rw[h] at this;exact this
theorem wG(hE:dg es){a b:cy}(ha:a∈es)(hb:b∈es)(h:a.d.nm=b.d.nm):a=b:=by
 have hnd:=hE.nd;generalize es=l at ha hb hnd
 induction l with
 |nil=>cases ha
 |cons x r ih=>
  rw[List.map_cons,List.nodup_cons] at hnd;rcases List.mem_cons.1 ha with ea|ha'
  ·rcases List.mem_cons.1 hb with eb|hb'
   ·rw [ea,eb]
   ·rw [← ea] at hnd;exact absurd (List.mem_map.2 ⟨b,hb',h.symm⟩) hnd.1
  ·rcases List.mem_cons.1 hb with eb|hb'
   ·rw [← eb] at hnd;exact absurd (List.mem_map.2 ⟨a,ha',h⟩) hnd.1
   ·exact ih ha' hb' hnd.2
variable {ps:List ByteArray} {c:Int}
theorem re(hE:dg es)(he:e∈es){h:ae}{cs:List ae}{i:Nat}{cty:ae}{us:List aP}(hh:Wt (eh es) ps h c)(hc:lQ es e h cs i cty us):
 i<e.d.cs.length∧(∀ u∈us,iQ ps u)∧e.d.ps.length=us.length∧Wt (eh es) e.d.ps cty 0∧cty.size≤800001∧cs.length=bg cty∧e.d.ar≤bg cty:=by
 obtain⟨s,e2,nm,rfl,hf,hn,hci,hl⟩:=hc;have he2:e2=e:=wG hE (hZ hf (by decide)) he hn;subst he2;have hi:=(List.getElem?_eq_some_iff.1 hci).1;have h1:=(hE.xP _ he).cs _ (List.mem_of_getElem? hci);refine⟨hi,hh.1,?_,h1.1,h1.2.1,hl,h1.2.2⟩;rcases hh.2.2 with h2|h2|h2|h2|h2
 ·omega
 ·omega
 ·obtain ⟨_,_,h3,_⟩:=h2;unfold eh at h3;rw[IW hf rfl hci] at h3;simp only[Option.map_some,Option.some.injEq] at h3;exact h3
 ·omega
 ·omega
theorem kn{sg:Sg}{t:ae}(h:Wt sg ps t c):t.size=(bf t).1.size+aj (bf t).2+(bf t).2.length:=by
 obtain⟨_,_,_,h4⟩:=Wt.spine _ (Nat.le_refl _) h;have:=cB (bf t).1 (bf t).2;rw[h4] at this;exact this
theorem yd(hE:dg es)(hc:0≤c){most:Nat}:∀(n:Nat) {t:ae} {d:Nat} {u:ae} {d':Nat},RW es most n t d (.ok u d')→d≤most→Wt (eh es) ps t c→
 Wt (eh es) ps u c∧d≤d'∧d'≤most∧u.size+30000*(most-d')≤t.size+30000*(most-d):=by
 intro n
 induction n with
 |zero=>intro t d u d' h;exact h.elim
 |succ n ih=>
  intro t d u d' h hd hw;obtain⟨_,hH,hA,_⟩:=Wt.spine _ (Nat.le_refl _) hw;have hz:=kn hw;have hstep:∀{v x:ae},wx most d (RW es most n) x v (.ok u d')→Wt (eh es) ps x c→(v.size≤20000→x.size≤t.size+20000)→Wt (eh es) ps u c∧d≤d'∧d'≤most∧u.size+30000*(most-d')≤t.size+30000*(most-d):=by
   intro v x hs hx hsz;rcases hs with⟨_,h2⟩|⟨h1,h2,h3⟩
   ·cases h2
   ·obtain ⟨g1,g2,g3,g4⟩:=ih h3 (by omega) hx;have:=hsz h2;exact⟨g1,by omega,g3,by omega⟩
  rcases h with⟨A,b,a,r,h1,h2,h3⟩|⟨A,v,b,h1,h3⟩|⟨s,us,e,j,h1,h2,h4,h3⟩|⟨s,us,e,j,io,h1,h2,h4,h5,h6⟩|⟨_,h3⟩
  ·rw [h1] at hH hz;obtain⟨a',b',hab,_,_,_,hA1,hB1⟩:=hH.two (.inr (.inl rfl));cases hab;rw[if_neg (by decide)] at hB1;rw[h2] at hA hz;refine hstep h3 (Wt.apply (Wt.sub hc hB1 (hA a List.mem_cons_self)) fun x hx=>hA x (List.mem_cons_of_mem _ hx)) fun hv=>?_
   rw[cB];simp only[aj,List.length_cons] at hz;omega
  ·rw [h1] at hH hz;obtain⟨A',v',b',hab,_,_,_,hA1,hV1,hB1⟩:=hH.three rfl;cases hab;refine hstep h3 (Wt.apply (Wt.sub hc hB1 hV1) hA) fun hv=>?_
   rw[cB];omega
  ·rw [h1] at hH hz;have he:=hZ h2 (by decide);have hk:e.d.k=2:=by
    rcases gJ h2 (by decide) with h|h|h
    ·exact h.symm
    ·omega
    ·omega
   have hv:=((hE.xP _ he).vl hk).1.IJ (us:=us) (by omega) hH.1;refine hstep h3 (Wt.apply (hv.up hc) hA) fun hv=>?_
   rw[cB];omega
  ·rw [h1] at hH hz;have he:=hZ h2 (by decide);have hk:e.d.k=3:=by
    rcases gJ h2 (by decide) with h|h|h
    ·rcases (hE.xP _ he).k with h'|h'|h'<;>omega
    ·omega
    ·exact h.2
   rcases h5 with⟨g1,rfl⟩|⟨x,g1,⟨_,rfl⟩|⟨mj,d1,g2,⟨_,rfl⟩|⟨i,cty,us2,g3,⟨_,rfl⟩|⟨g4,g5,g6,rfl⟩⟩⟩⟩
   ·cases h6;exact⟨hw,Nat.le_refl _,hd,Nat.le_refl _⟩
   ·cases h6
   ·cases h6;obtain⟨_,q2,q3,_⟩:=ih g2 hd (hA x (List.mem_of_getElem? g1));exact⟨hw,q2,q3,by omega⟩
   ·cases h6
   ·obtain ⟨q1,q2,q3,q4⟩:=ih g2 hd (hA x (List.mem_of_getElem? g1));obtain⟨_,qH,qA,_⟩:=Wt.spine _ (Nat.le_refl _) q1;obtain⟨w1,w2,w3,w4,w5,w6,w7⟩:=re hE he qH g3;have hI:=Ga (es:=es) hc (hE.xP _ he) hk hH hA qA w2 (by omega) w4 w6 (List.getElem?_eq_some_iff.1 g1).1 w1;obtain⟨p1,p2,p3,p4⟩:=ih h6 (by omega) hI;exact⟨p1,by omega,p3,by omega⟩
  ·cases h3;exact⟨hw,Nat.le_refl _,hd,Nat.le_refl _⟩
end
section
open Go Go.Vd Go.RowKit
attribute [local irreducible] bu bA di ak bL cU
variable {g gl:Nat→List D}
def KO(es:List cy)(most n:Nat)(t:ae)(d:Nat)(pr:Int)(out:Out)(ob':List Ob):Prop:=
 ∃(u:ae) (d':Nat) (t' w':Bool),out=.ret (.d u.d)∧ob'=[bc es w',ba,iW d' most t' pr]∧d≤d'∧d'≤most∧(w'=false→(t'=true∧RW es most n t d .cI)∨(t'=false∧RW es most n t d (.ok u d')))
def GP(gl:Nat→List D)(es:List cy)(ps:List ByteArray)(c:Int)(most n:Nat):Prop:=
 ∀(k m:Int) (s:ByteArray) (ls:List aP) (args:List ae) (d:Nat) (pr:Int),d≤most→(ae.mk k m s ls args).size+30000*(most-d)<n→(ae.mk k m s ls args).size+30000*(most-d)≤1000000000000→Wt (eh es) ps (.mk k m s ls args) c→
  et Tryz.prog gl 51 [bc es false,ba,iW d most false pr] [.cb 0 0,.d (ae.mk k m s ls args).d,.cb 2 0] (KO es most n (.mk k m s ls args) d pr)
def Qu(es:List cy)(most n:Nat)(e:cy)(h:ae)(az:List ae)(d:Nat)(pr:Int)(out:Out)(ob':List Ob):Prop:=
 ∃(u:ae) (b:Bool) (d':Nat) (t' w':Bool),out=.ret (.d (.bZ [u.d,.v (.bool b)]))∧ob'=[bc es w',ba,iW d' most t' pr]∧d≤d'∧d'≤most∧
  (w'=false→(t'=true∧b=false∧RI es most (RW es most n) e h az d .cI)∨(t'=false∧b=false∧RI es most (RW es most n) e h az d (.stuck d'))∨(t'=false∧b=true∧RI es most (RW es most n) e h az d (.step u d')))
theorem oG(d most:Nat)(t:Bool)(p:Int)(hd:d≤1099511627776):
 et Tryz.prog gl 84 [iW d most t p] [.cb 0 0] fun out ob'=> ∃(ok:Bool) (d2:Nat) (t2:Bool),out=.ret (.d (.v (.bool ok)))∧ob'=[iW d2 most t2 p]∧((ok=false∧most≤d∧d2=d∧t2=true)∨(ok=true∧d<most∧d2=d+1∧t2=t)):=
 (G7 d most t p ⟨by omega,by omega⟩).mono fun o b h=>by
  rcases h with⟨h1,rfl,rfl⟩|⟨h1,rfl,rfl⟩
  ·exact ⟨false,d,true,rfl,rfl,.inl ⟨rfl,by omega,rfl,rfl⟩⟩
  ·exact ⟨true,d+1,t,rfl,rfl,.inr ⟨rfl,by omega,rfl,rfl⟩⟩
theorem zG(nm:ByteArray)(k m:Int)(s:ByteArray)(ls:List aP)(args:List ae)(hz:(ae.mk k m s ls args).size≤1099511627776):
 cD Tryz.prog gl 123 [(ae.mk k m s ls args).d,.v (.string nm)] (· =.v (.bool (eU (jN nm) (.mk k m s ls args) 0))):=by
 refine bD Tryz.func123 Tryz.ntmps123 ?_;refine gc 10 ?_;refine oc (cv xY rfl rfl (j2 nm _ k m s ls args (Nat.le_refl _) hz) (bo (an .nil)) ?_);refine go 4 ?_;refine ez ?_;rfl
theorem vd(l:List ae)(i:Nat):aj (l.take i)≤aj l:=by
 induction l generalizing i with
 |nil=>simp[aj]
 |cons a r ih=>
  cases i with
  |zero=>simp[aj]
  |succ i=>have:=ih i;simp only[List.take_succ_cons,aj];omega
theorem iq(f:ae)(l:List ae)(x:ae):bt f (l++[x])=.mk 3 0 .empty [] [bt f l,x]:=by
 unfold bt;rw[List.foldl_append];rfl
theorem gr(l:List ae)(p:Nat):(aH l).take ((p:Nat):Int).toNat=aH (l.take p):=by
 rw[Int.toNat_natCast]
 induction l generalizing p with
 |nil=>simp[aH]
 |cons a r ih=>cases p with
  |zero=>simp[aH]
  |succ p=>simp only[aH,List.take_succ_cons,ih]
end
end Go.Proofs.YtndbnldjidciiaaGreatDoor
