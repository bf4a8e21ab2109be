/-
  What is proved here: lemmas of part 3, for the theorem of the last part.
-/
import Derived.Test.YtndbnldjidciiaaGreatDoorP2
set_option linter.unusedSimpArgs false
set_option linter.unusedVariables false
set_option linter.unusedSectionVars false
namespace Go.Proofs.YtndbnldjidciiaaGreatDoor
section
open Go Go.Vd Go.RowKit
attribute [local irreducible] bq bu dh ak bJ
def RK(g:Nat→List D):Nat→List D:=g
def RL(g:Nat→List D):Nat→List D
 |0=>[ey fk]
 |n=>g n
abbrev ux(g:Nat→List D):Nat→List D:=RK (RL g)
variable {g:Nat→List D}
variable {s:ByteArray}
theorem size_pos(h:s≠ .empty):0<s.size:=by
 rcases Nat.eq_zero_or_pos s.size with h1|h1
 ·exact absurd (ByteArray.size_eq_zero_iff.1 h1) h
 ·exact h1
theorem dz:bC none=0:=rfl
theorem dZ{f:Option Nat}:bC f=0↔f=none:=by cases f<;>simp[bC]
variable {r:RS} {m:Nat}
theorem Cx(h:¬(bC r.f=0∧¬kJ s r=⟨#[41]⟩)):db m s r=([],r):=by
 cases m with
 |zero=>rfl
 |succ m=>simp only[db];rw[if_neg (by rw[dZ] at h;exact h)]
theorem xj{n:Nat}(hp:r.p≤s.size)(h1:r.f=none)(h2:(bL (n+1) s r).2.f=none):r.p<(bL (n+1) s r).2.p:=by
 obtain⟨p,f⟩:=r;simp only at h1 hp;subst h1;have hf:∀(q:RS) (x:Nat),(q.fail x).f≠none:=by rintro⟨a,f⟩ x;cases f<;>simp[RS.fail]
 have hat:=fq (s:=s) hp;have hnx:(bc s p).1≠ .empty→p<(aQ s ⟨p,none⟩).2.p:=fun h=>by rw[iK h];have:=size_pos h;simp only;omega
 have hn1:=cZ (s:=s) (r:=⟨p,none⟩) hp;have hn2:=cZ (s:=s) (r:=(aQ s ⟨p,none⟩).2) hn1.2;have hl1:=eI (s:=s) n (r:=(aQ s (aQ s ⟨p,none⟩).2).2) hn2.2;have hl2:=eI (s:=s) n (r:=(bL n s (aQ s (aQ s ⟨p,none⟩).2).2).2) hl1.2;have ht1:=bX (s:=s) (w:=⟨#[41]⟩) hl1.2;have ht2:=bX (s:=s) (w:=⟨#[41]⟩) hl2.2;by_cases c0:(bc s p).1=⟨#[48]⟩
 ·rw [mN c0];exact hnx (by rw[c0];decide)
 cases c1:dI (bc s p).1 with
 |true=>
  rw[mP c0 c1];exact hnx (by intro e;rw[e] at c1;simp[dI] at c1)
 |false=>
  by_cases c2:(bc s p).1=⟨#[40]⟩
  ·have h3:=hnx (by rw[c2];decide);by_cases c3:gP (bc s (aQ s ⟨p,none⟩).2.p).1=0
   ·rw [mQ c0 c1 c2 c3] at h2;exact absurd h2 (hf _ _)
   ·by_cases c4:gP (bc s (aQ s ⟨p,none⟩).2.p).1=1
    ·rw [oT c0 c1 c2 c4];simp only at h3 ⊢;omega
    ·rw [jo c0 c1 c2 c3 c4];simp only at h3 ⊢;omega
  ·rw [mS c0 c1 c2] at h2;exact absurd h2 (hf _ _)
theorem Cy{r0 r':RS}{acc:List aO}{x:aO}(hinv:r'.p≤s.size∧acc.length+m=s.size+2∧(r'.f=none→s.size-r'.p<m)∧db (s.size+2) s r0=(acc++(db m s r').1,(db m s r').2))
 (h:bC r'.f=0∧¬kJ s r'=⟨#[41]⟩) (hX:(bL (s.size+1) s r').1=x):
 (bL (s.size+1) s r').2.p≤s.size∧(acc++[x]).length+(m-1)=s.size+2∧((bL (s.size+1) s r').2.f=none→s.size-(bL (s.size+1) s r').2.p<m-1)∧
  db (s.size+2) s r0=(acc++[x]++(db (m-1) s (bL (s.size+1) s r').2).1,(db (m-1) s (bL (s.size+1) s r').2).2):=by
 rw[dZ] at h;obtain⟨h1,h2,h3,h4⟩:=hinv;have hm:=h3 h.1;obtain⟨m,rfl⟩:∃k,m=k+1:=⟨m-1,by omega⟩;have hle:=eI (s:=s) (s.size+1) h1;refine⟨hle.2,by simp;omega,fun hf=>by have:=xj h1 h.1 hf;omega,?_⟩;rw[h4];simp only[db];rw[if_pos h,←hX];simp
theorem wH(k:Nat):partsOf k≤3:=by unfold partsOf;split;omega;split<;>omega
theorem qy(s:ByteArray)(hs:s.size≤1099511627776):∀(n:Nat) (r:RS),r.p≤s.size→s.size-r.p<n→
 er Tryz.prog (ux g) 52 [iw s r] [.b0 0 0] fun out ob'=>out=.ret (.d (bT n s r).1.d)∧ob'=[iw s (bT n s r).2]:=by
 intro n
 induction n with
 |zero=>intro r _ h;omega
 |succ n ih=>
  intro r hp hn;have hat:=fq (s:=s) hp;obtain⟨p,f⟩:=r;simp only at hat hp hn;cases f with
  |some a=>
   refine bS Tryz.func52 Tryz.ntmps52 1 ?_;refine gc 8 ?_;refine oc (ck pD rfl rfl (c6 s p (bC (some a)) (eF (some a)) hs hp) [0] rfl (bh .nil) (an .nil) ?_);refine ko 10 [5,4,3,2,0] 10 ?_;refine vS (fun h2=>?_) (fun h2=>?_)
   ·simp only[dq,Int.reduceEq,Int.reduceNe,Int.reduceLT,Int.reduceLE,bC,eF] at h2
   (try simp only[dq,Int.reduceEq,Int.reduceNe,Int.reduceLT,Int.reduceLE,bC,eF] at h2);refine kc 0 [2] 8 ?_;refine eo (aP.d) [0] [iw s ⟨p,some a⟩] ?_
   ·exact ⟨rfl,rfl⟩
  |none=>
   have hn1:=cZ (s:=s) (r:=⟨p,none⟩) hp;have hn2:=cZ (s:=s) (r:=(aQ s ⟨p,none⟩).2) hn1.2;have hpos:=size_pos (s:=(bc s p).1);have hash:=Bk (s:=s) hp;have hwl:(strs fk).length=7:=rfl;have hwl2:fk.length=7:=rfl;refine bS Tryz.func52 Tryz.ntmps52 1 ?_;refine gc 8 ?_;refine oc (ck pD rfl rfl (c6 s p (bC none) (eF none) hs hp) [0] rfl (bh .nil) (an .nil) ?_);refine ko 10 [5,4,3,2,0] 10 ?_;refine cd (fun h2=>?_) (fun h2=>?_)
   ·simp only[dq,Int.reduceEq,Int.reduceNe,Int.reduceLT,Int.reduceLE,dz] at h2
   (try simp only[dq,Int.reduceEq,Int.reduceNe,Int.reduceLT,Int.reduceLE,dz] at h2);refine kc 3 [5,4,3,2,0] 5 ?_
   apply nD (yt:=31) (d:=29) 2 rfl rfl rfl (.none rfl) rfl rfl
   case h1=>
    intro hb4 hK;have hc:=hb4;(try simp only[dq,Int.reduceEq,Int.reduceNe,Int.reduceLT,Int.reduceLE,dz] at hc);refine lS ?_ (hbw:=by exact hb4);refine go 1 ?_;refine lS ?_ (hbw:=by exact hb4);refine go 1 ?_;exact hK [_,_] rfl rfl
   case h2=>
    intro hb4 hK;refine lN ?_ (hbw:=by exact hb4);refine lN ?_ (hbw:=by exact hb4);exact hK [_,_] rfl
   refine go 1 ?_;apply nD (yt:=40) (d:=33) 7 rfl rfl rfl (.none rfl) rfl rfl
   case h1=>
    intro hb12 hK;have hc:=hb12;(try simp only[dq,Int.reduceEq,Int.reduceNe,Int.reduceLT,Int.reduceLE,dz] at hc);refine lS ?_ (hbw:=by exact hb12);refine go 1 ?_;refine lS ?_ (hbw:=by exact hb12);refine o1 (Fe uP ?_ (h01:=by have h1:=hpos hc.2;omega));refine lS ?_ (hbw:=by exact hb12);refine go 1 ?_;refine lS ?_ (hbw:=by exact hb12);refine go 1 ?_;apply FV (yt:=39) (d:=37) 2 rfl rfl rfl (.yes rfl rfl rfl hb12) rfl rfl
    case h1=>
     intro hb21 hK;have hc:=hb21;(try simp only[dq,Int.reduceEq,Int.reduceNe,Int.reduceLT,Int.reduceLE,dz] at hc);refine lS ?_ (hbw:=by exact hb21);refine go 1 ?_;refine lS ?_ (hbw:=by exact hb21);refine go 1 ?_;exact hK [_,_] rfl rfl
    case h2=>
     intro hb21 hK;refine lN ?_ (hbw:=by exact hb21);refine lN ?_ (hbw:=by exact hb21);exact hK [_,_] rfl
    exact hK [_,_,_,_,_] rfl rfl
   case h2=>
    intro hb12 hK;refine lN ?_ (hbw:=by exact hb12);refine lN ?_ (hbw:=by exact hb12);refine lN ?_ (hbw:=by exact hb12);refine lN ?_ (hbw:=by exact hb12);refine go 2 ?_;refine lN ?_ (hbw:=by exact hb12);exact hK [_,_,_,_,_,_,_] rfl
   refine go 2 ?_;refine cd (fun h4=>?_) (fun h4=>?_)
   ·(try simp only[dq,Int.reduceEq,Int.reduceNe,Int.reduceLT,Int.reduceLE,dz] at h4)
    refine kc 0 [4,2,0] 4 ?_;refine oc (ck uJ rfl rfl (eJ s (bc s p).2.1 ⟨p,none⟩) [0] rfl (bh .nil) (an (an .nil)) ?_);refine ko 2 [2] 8 ?_;refine eo (aP.d) [0] [iw s ((RS.mk p none).fail (bc s p).2.1)] ?_
    ·rw [tU (by rintro⟨ha,hb⟩;rcases h4 with(h|h)|h;exact ha (rB h);exact ha h;rcases hb with hb|hb;exact h.1 hb;exact h.2 hb)];exact⟨rfl,rfl⟩
   (try simp only[dq,Int.reduceEq,Int.reduceNe,Int.reduceLT,Int.reduceLE,dz] at h4);refine kc 2 [3,2,0] 3 ?_;refine oc (ck Dd rfl rfl (im s ⟨p,none⟩ hs hp) [0] rfl (bh .nil) (an .nil) ?_);refine go 9 ?_;refine cd (fun h8=>?_) (fun h8=>?_)
   ·(try simp only[dq,Int.reduceEq,Int.reduceNe,Int.reduceLT,Int.reduceLE,dz] at h8)
    refine kc 1 [3,2] 0 ?_;have hh4:vi (bc s p).1:=⟨h4.1.2,h4.2⟩;have hh35:bo (bc s p).1 0=35:=by rcases h4.2 with h|h;exact h;exact absurd h h8
    have hhash:=hash h4.1.2 hh35;refine gc 2 ?_;refine o1 (JX uP rfl rfl rfl (by omega) ?_);refine oc (cv Pw rfl rfl (vd ((bc s p).1.extract 1 (bc s p).1.size) (by rw[ByteArray.size_extract];omega) hhash.2.2) (an .nil) ?_);refine go 6 ?_;refine eo ((ae.mk 0 (kS ((bc s p).1.extract 1 (bc s p).1.size) ((bc s p).1.extract 1 (bc s p).1.size).size) .empty [] []).d) [0] [iw s (aQ s ⟨p,none⟩).2] ?_
    ·rw [tT hh4 h8,show((bc s p).1.extract 1 (bc s p).1.size).size=(bc s p).1.size-1 by rw[ByteArray.size_extract];omega];exact⟨rfl,rfl⟩
   (try simp only[dq,Int.reduceEq,Int.reduceNe,Int.reduceLT,Int.reduceLE,dz] at h8);refine kc 2 [2,0] 3 ?_;refine oc (ck pD rfl rfl (c6 s (aQ s ⟨p,none⟩).2.p (bC (aQ s ⟨p,none⟩).2.f) (eF (aQ s ⟨p,none⟩).2.f) hs hn1.2) [0] rfl (bh .nil) (an .nil) ?_);refine ko 9 [7,6,2,0] 12 ?_;refine lP (ι:=Nat) (fun i=>[(10,int i),(9,int (oU (bc s (aQ s ⟨p,none⟩).2.p).1 i))]) [7,6,2,0] (fun i=>1≤i∧i≤7) (fun i=>7-i) (1) rfl ?I1 ?M1 ?H1
   case I1=>
    exact⟨Nat.le_refl _,by omega⟩
   case M1=>
    refine mo ?_ (aH (ee rfl (by exact Fit.of_eq (by unfold oU;rw[show(if fB (bc s (aQ s ⟨p,none⟩).2.p).1<1 then fB (bc s (aQ s ⟨p,none⟩).2.p).1 else 0)=0 by split<;>omega];rfl)) (aH (aH (aH (aH dC))))))
    repeat (first|exact cG|refine bh ?_)
   case H1=>
    rintro i hinv
    try dsimp only at hinv
    refine kc 0 [10,9,7,6,2,0] 9 ?_;refine cd (fun h13=>?_) (fun h13=>?_)
    ·(try simp only[dq,Int.reduceEq,Int.reduceNe,Int.reduceLT,Int.reduceLE,dz] at h13)
     refine kc 4 [10,9,7,6,2,0] 4 ?_;refine o1 (cr pI tV ?_ (he:=by exact(j8 (show i<fk.length by omega))));refine go 5 ?_;refine vS (fun h15=>?_) (fun h15=>?_)
     ·(try simp only[dq,Int.reduceEq,Int.reduceNe,Int.reduceLT,Int.reduceLE,dz] at h15)
      refine kc 3 [10,9,7,6,2,0] 2 ?_;refine o1 (cF ?_);refine go 2 ?_;refine bi (i+1) rfl ?_ ?_
      ·exact ⟨⟨by omega,by omega⟩,by omega⟩
      ·refine mo ?_ (aH (ee rfl (by exact Fit.of_eq (by(first|rw[xn hinv.1 (by omega) h15]|rw[zv hinv.1 (by omega) h15]);rfl)) (aH (aH (aH (aH dC))))))
       repeat (first|exact cG|refine bh ?_)
     (try simp only[dq,Int.reduceEq,Int.reduceNe,Int.reduceLT,Int.reduceLE,dz] at h15);refine kc 0 [10,7,6,2,0] 8 ?_;refine o1 (cF ?_);refine go 2 ?_;refine bi (i+1) rfl ?_ ?_
     ·exact ⟨⟨by omega,by omega⟩,by omega⟩
     ·refine mo ?_ (aH (ee rfl (by exact Fit.of_eq (by(first|rw[xn hinv.1 (by omega) h15]|rw[zv hinv.1 (by omega) h15]);rfl)) (aH (aH (aH (aH dC))))))
      repeat (first|exact cG|refine bh ?_)
    (try simp only[dq,Int.reduceEq,Int.reduceNe,Int.reduceLT,Int.reduceLE,dz] at h13);refine kc 7 [9,7,2,0] 0 ?_;obtain rfl:i=7:=by omega
    rw[JH];have hkl:=xq (bc s (aQ s ⟨p,none⟩).2.p).1;generalize hk:fB (bc s (aQ s ⟨p,none⟩).2.p).1=k at hkl ⊢;refine gc 5 ?_;refine cd (fun h17=>?_) (fun h17=>?_)
    ·(try simp only[dq,Int.reduceEq,Int.reduceNe,Int.reduceLT,Int.reduceLE,dz] at h17)
     refine gc 4 ?_;refine oc (ck uJ rfl rfl (eJ s (bc s (aQ s ⟨p,none⟩).2.p).2.1 (aQ s ⟨p,none⟩).2) [0] rfl (bh .nil) (an (an .nil)) ?_);refine ko 2 [2] 8 ?_;refine eo (aP.d) [0] [iw s ((aQ s ⟨p,none⟩).2.fail (bc s (aQ s ⟨p,none⟩).2.p).2.1)] ?_
     ·rw [rE h8 (by omega)];exact⟨rfl,rfl⟩
    (try simp only[dq,Int.reduceEq,Int.reduceNe,Int.reduceLT,Int.reduceLE,dz] at h17);refine gc 5 ?_;refine oc (ck Dd rfl rfl (im s (aQ s ⟨p,none⟩).2 hs hn1.2) [0] rfl (bh .nil) (an .nil) ?_);refine ko 2 [9,2,0] 9 ?_;refine bz 39 5 rfl ?_;refine kc 10 [83,12,11,2,0] 0 ?_;refine xo (ι:=ByteArray×List aO×RS) (fun⟨nm,L,r3⟩=>[(12,int (partsOf k))]) (fun⟨nm,L,r3⟩=>[iw s r3,.cells [.d (.v (.int .i64 0)),.d (.v (.int .i64 0)),.d (.v (.string .empty)),.d (.v (.slice none 0 0)),.d (.v (.slice none 0 0))] 39,.cells [.d (.v (.int .i64 k)),.d (.v (.int .i64 0)),.d (.v (.string nm)),.own 3 3 (bE L),.d (.v (.slice none 0 0))] 39,.row 121 3,.bW 39 5]) [11,2,0] (fun⟨nm,L,r3⟩=>ja s k (aQ s (aQ s ⟨p,none⟩).2).2=(nm,L,r3)) rfl ?A2 ?B2
    case A2=>
     refine gc 7 ?_;refine cd (fun h24=>?_) (fun h24=>?_)
     ·(try simp only[dq,Int.reduceEq,Int.reduceNe,Int.reduceLT,Int.reduceLE,dz] at h24)
      refine kc 1 [11,2,0] 0 ?_;obtain⟨k1,s1,a1,hX⟩:=aO.case (bL (s.size+1) s (aQ s (aQ s ⟨p,none⟩).2).2).1;refine gz [0,1,2] mixed ?_;refine A2 3 rfl (aJ L3 rfl rfl rfl rfl (xh s hs (s.size+1) (aQ s (aQ s ⟨p,none⟩).2).2 hn2.2 (by omega)) [0] (bh .nil) rfl rfl rfl rfl (an .nil) (fun s ob' hq=>?_) (fun s ob' hq=>?_))
      rotate_left
      ·first|exact hq.elim|cases hq.1
      obtain⟨hq1,rfl⟩:=hq;rw[hX] at hq1;cases hq1;refine⟨_,_,_,_,_,rfl,rfl,rfl,rfl,rfl,?_⟩;refine A2 4 rfl (gK jg [.tmp 89] eK ?_);refine A2 (T:=fun _=>False) 5 rfl (rn jg rfl rfl rfl rfl rfl rfl (by simp only[List.length_cons,List.length_nil,Nat.reduceAdd];rfl) rfl rfl (by decide) (by simp) (by first|decide|(simp only[maxLen,List.length_cons,List.length_nil,List.length_append,List.length_map];omega)|omega) rfl rfl rfl ?_);refine ga [6] ?_;refine A2 7 rfl (dP vy ?_);refine aS ?_;refine ke 1 [11,2,0] 4 ?_;refine bk ((.empty,[aO.mk k1 s1 a1],(bL (s.size+1) s (aQ s (aQ s ⟨p,none⟩).2).2).2)) rfl ?_ ([0,1,2,5,3]) ?_
      ·unfold ja;rw[if_pos (by omega),hX]
      ·refine mo ?_ (ee rfl (by exact Fit.of_eq (by unfold partsOf;first|(rw[if_pos (by omega)];rfl)|(rw[if_neg (by omega),if_pos (by omega)];rfl)|(rw[if_neg (by omega),if_neg (by omega)];rfl))) (aH (aH (aH dC))))
       repeat (first|exact cG|refine bh ?_|refine cw ?_|refine Il ?_)
     (try simp only[dq,Int.reduceEq,Int.reduceNe,Int.reduceLT,Int.reduceLE,dz] at h24);refine gc 6 ?_;refine vS (fun h27=>?_) (fun h27=>?_)
     ·(try simp only[dq,Int.reduceEq,Int.reduceNe,Int.reduceLT,Int.reduceLE,dz] at h27)
      refine kc 1 [83,12,11,2,0] 0 ?_;refine bz 121 3 rfl ?_;refine gc 5 ?_;refine vS (fun h32=>?_) (fun h32=>?_)
      ·(try simp only[dq,Int.reduceEq,Int.reduceNe,Int.reduceLT,Int.reduceLE,dz] at h32)
       refine gc 2 ?_;refine bk ((.empty,[],(aQ s (aQ s ⟨p,none⟩).2).2)) rfl ?_ ([0,1,2,4,3]) ?_
       ·unfold ja;rw[if_neg (by omega),if_neg (by omega)]
       ·refine mo ?_ (ee rfl (by exact Fit.of_eq (by unfold partsOf;first|(rw[if_pos (by omega)];rfl)|(rw[if_neg (by omega),if_pos (by omega)];rfl)|(rw[if_neg (by omega),if_neg (by omega)];rfl))) (aH (aH (aH dC))))
        repeat (first|exact cG|exact zI|refine bh ?_|refine Il ?_|refine qZ ?_|refine Bd ?_ ?_|refine an ?_|refine .cons (.nil rfl) ?_)
      (try simp only[dq,Int.reduceEq,Int.reduceNe,Int.reduceLT,Int.reduceLE,dz] at h32);refine kc 0 [11,2,0] 4 ?_;refine bk ((.empty,[],(aQ s (aQ s ⟨p,none⟩).2).2)) rfl ?_ ([0,1,2,4,3]) ?_
      ·unfold ja;rw[if_neg (by omega),if_neg (by omega)]
      ·refine mo ?_ (ee rfl (by exact Fit.of_eq (by unfold partsOf;first|(rw[if_pos (by omega)];rfl)|(rw[if_neg (by omega),if_pos (by omega)];rfl)|(rw[if_neg (by omega),if_neg (by omega)];rfl))) (aH (aH (aH dC))))
       repeat (first|exact cG|exact zI|refine bh ?_|refine Il ?_|refine qZ ?_|refine Bd ?_ ?_|refine an ?_|refine .cons (.nil rfl) ?_)
     (try simp only[dq,Int.reduceEq,Int.reduceNe,Int.reduceLT,Int.reduceLE,dz] at h27);refine kc 1 [11,2,0] 0 ?_
     have hnm:=eD (s:=s) (r:=(aQ s (aQ s ⟨p,none⟩).2).2) hn2.2;refine gc 2 ?_;refine oc (ck L0 rfl rfl (qN s (aQ s (aQ s ⟨p,none⟩).2).2 hs hn2.2) [0] rfl (bh .nil) (an .nil) ?_);refine ko 10 [12,11,2,0] 0 ?_;refine bz 121 3 rfl ?_;refine lp (ι:=Nat×List aO×RS) (fun⟨m,acc,r'⟩=>[]) (fun⟨m,acc,r'⟩=>[iw s r',.cells [.d (.v (.int .i64 0)),.d (.v (.int .i64 0)),.d (.v (.string .empty)),.d (.v (.slice none 0 0)),.d (.v (.slice none 0 0))] 39,.cells [.d (.v (.int .i64 k)),.d (.v (.int .i64 0)),.d (.v (.string (cT s (aQ s (aQ s ⟨p,none⟩).2).2).1)),.own 4 3 (bE acc),.d (.v (.slice none 0 0))] 39,.bW 39 5,.row 121 3]) [12,11,2,0] (fun⟨m,acc,r'⟩=>r'.p≤s.size∧acc.length+m=s.size+2∧(r'.f=none→s.size-r'.p<m)∧db (s.size+2) s (cT s (aQ s (aQ s ⟨p,none⟩).2).2).2=(acc++(db m s r').1,(db m s r').2)) (fun⟨m,acc,r'⟩=>m) ((s.size+2,[],(cT s (aQ s (aQ s ⟨p,none⟩).2).2).2)) ([0,1,2,3,4]) rfl ?I3 ?M3 ?H3
     case I3=>
      exact⟨hnm.2,by simp,fun _=>by omega,rfl⟩
     case M3=>
      refine mo ?_ (aH (aH (aH (aH dC))))
      repeat (first|exact cG|exact zI|refine bh ?_|refine Il ?_|refine qZ ?_|refine Bd ?_ ?_|refine an ?_|refine .cons (.nil rfl) ?_)
     case H3=>
      rintro⟨m,acc,r'⟩ hinv
      try dsimp only at hinv
      refine kc 0 [12,11,2,0] 10 ?_;apply FV (yt:=107) (d:=104) 3 rfl rfl rfl (.none rfl) rfl rfl
      case h1=>
       intro hb13 hK;have hc:=hb13;(try simp only[dq,Int.reduceEq,Int.reduceNe,Int.reduceLT,Int.reduceLE,dz] at hc);refine lS ?_ (hbw:=by exact hb13);refine go 1 ?_;refine lS ?_ (hbw:=by exact hb13);refine oc (ck Oc rfl rfl (uf s r' hs hinv.1) [0] rfl (bh .nil) (an .nil) ?_);refine lS ?_ (hbw:=by exact hb13);refine go 1 ?_;exact hK [_,_,_] rfl rfl
      case h2=>
       intro hb13 hK;refine lN ?_ (hbw:=by exact hb13);refine lN ?_ (hbw:=by exact hb13);refine lN ?_ (hbw:=by exact hb13);exact hK [_,_,_] rfl
      refine go 2 ?_;refine vS (fun h30=>?_) (fun h30=>?_)
      ·(try simp only[dq,Int.reduceEq,Int.reduceNe,Int.reduceLT,Int.reduceLE,dz] at h30)
       refine gc 5 ?_;refine bk (((cT s (aQ s (aQ s ⟨p,none⟩).2).2).1,acc,r')) rfl ?_ ([0,1,2,4,3]) ?_
       ·unfold ja;rw[if_neg (by omega),if_pos (by omega),hinv.2.2.2,Cx (by rintro⟨ha,hb⟩;rcases h30 with h|h;exact h ha;exact hb h),List.append_nil]
       ·refine mo ?_ (ee rfl (by exact Fit.of_eq (by unfold partsOf;first|(rw[if_pos (by omega)];rfl)|(rw[if_neg (by omega),if_pos (by omega)];rfl)|(rw[if_neg (by omega),if_neg (by omega)];rfl))) (aH (aH (aH dC))))
        repeat (first|exact cG|refine bh ?_|refine cw ?_|refine Il ?_)
      (try simp only[dq,Int.reduceEq,Int.reduceNe,Int.reduceLT,Int.reduceLE,dz] at h30);refine kc 3 [12,11,2,0] 0 ?_
      obtain⟨k1,s1,a1,hX⟩:=aO.case (bL (s.size+1) s r').1
      have hm1:=hinv.2.2.1 (dZ.1 h30.1);have hln:=bU acc;have hlast:bE acc++[[.v (.int .i64 k1),.v (.string s1),.sl 3 (bE a1)]]=bE (acc++[aO.mk k1 s1 a1]):=by rw[p6];rfl
      refine gz [0,1,2] mixed ?_;refine A2 3 rfl (aJ L3 rfl rfl rfl rfl (xh s hs (s.size+1) r' hinv.1 (by omega)) [0] (bh .nil) rfl rfl rfl rfl (an .nil) (fun s ob' hq=>?_) (fun s ob' hq=>?_));rotate_left
      ·first|exact hq.elim|cases hq.1
      obtain⟨hq1,rfl⟩:=hq;rw[hX] at hq1;cases hq1;refine⟨_,_,_,_,_,rfl,rfl,rfl,rfl,rfl,?_⟩;refine A2 4 rfl (gK jg [.tmp 112] eK ?_);refine A2 5 rfl (px jg ?_);refine ga [6] ?_;refine A2 7 rfl (dP vy ?_);refine aS ?_;refine ge 1 ?_;rw[hlast];refine bk ((m-1,acc++[aO.mk k1 s1 a1],(bL (s.size+1) s r').2)) rfl ?_ ([0,1,2,3,4]) ?_
      ·exact ⟨Cy hinv h30 hX,show m-1<m by omega⟩
      ·refine mo ?_ (aH (aH (aH (aH dC))))
       repeat (first|exact cG|refine bh ?_|refine cw ?_|refine Il ?_)
    case B2=>
     rintro⟨nm,L,r3⟩ hcut
     try dsimp only at hcut
     refine kc 0 [12,11,2,0] 2 ?_;have hh3:=tw (s:=s) k (r:=(aQ s (aQ s ⟨p,none⟩).2).2) hn2.2;rw[hcut] at hh3;dsimp only at hh3;have hpl:=wH k;refine gc 5 ?_;refine lp (ι:=Nat) (fun i=>[(13,int i)]) (fun i=>[iw s (dW (bT n s) i r3).2,.cells [.d (.v (.int .i64 0)),.d (.v (.int .i64 0)),.d (.v (.string .empty)),.d (.v (.slice none 0 0)),.d (.v (.slice none 0 0))] 39,.cells [.d (.v (.int .i64 k)),.d (.v (.int .i64 0)),.d (.v (.string nm)),.own 3 3 (bE L),.own 4 5 (ay (dW (bT n s) i r3).1)] 39,.row 121 3,.row 39 5]) [12,11,2,0] (fun i=>i≤partsOf k) (fun i=>partsOf k-i) (0) ([0,1,2,3,4]) rfl ?I4 ?M4 ?H4
     case I4=>
      exact Nat.zero_le _
     case M4=>
      refine mo ?_ (aH (aH (aH (aH (aH dC)))))
      repeat (first|exact cG|exact zI|refine bh ?_|refine cw ?_|refine qZ ?_|refine Bd ?_ ?_|refine an ?_|refine .cons (.nil rfl) ?_)
     case H4=>
      rintro i hinv
      try dsimp only at hinv
      refine kc 0 [13,12,11,2,0] 8 ?_;refine vS (fun h35=>?_) (fun h35=>?_)
      ·(try simp only[dq,Int.reduceEq,Int.reduceNe,Int.reduceLT,Int.reduceLE,dz] at h35)
       refine kc 5 [11,2,0] 3 ?_;refine oc (ck yB rfl rfl (gd s ⟨#[41]⟩ (dW (bT n s) i r3).2 hs (jZ (s:=s) (f:=bT n s) (fun r hr=>et n r hr) i hh3.2).2) [0] rfl (bh .nil) (an (an .nil)) ?_);refine go 9 ?_;refine fR ?_;obtain rfl:i=partsOf k:=by omega
       refine ni ⟨_,_,rfl,(dY rfl rfl bt rfl rfl rfl rfl),rfl⟩ rfl ((ae.mk k 0 nm L (dW (bT n s) (partsOf k) r3).1).d) (by exact .refl _) ([0]) ([iw s (ch s ⟨#[41]⟩ (dW (bT n s) (partsOf k) r3).2)]) rfl rfl rfl ?_ ?_
       ·repeat (first|exact cG|refine bh ?_)
       ·rw [rD h8 hk (by omega) hcut];exact⟨rfl,rfl⟩
      (try simp only[dq,Int.reduceEq,Int.reduceNe,Int.reduceLT,Int.reduceLE,dz] at h35);refine gc 4 ?_
      have hpp:=jZ (s:=s) (f:=bT n s) (fun r hr=>et n r hr) i hh3.2;obtain⟨k2,n2,s2,l2,a2',hX⟩:=ae.case (bT n s (dW (bT n s) i r3).2).1
      have hln:(ay (dW (bT n s) i r3).1).length=i:=by rw[aN,wG]
      have hlast:ay (dW (bT n s) i r3).1++[[.v (.int .i64 k2),.v (.int .i64 n2),.v (.string s2),.sl 3 (bE l2),.sl 5 (ay a2')]]=ay (dW (bT n s) (i+1) r3).1:=by simp only[dW];rw[hX,dt];rfl
      have hpr:p<(aQ s ⟨p,none⟩).2.p:=by rw[iK (by rw[h8];decide),h8];simp only;have:(ByteArray.mk #[40]).size=1:=rfl;omega
      refine gz [0,1,2] mixed ?_;refine A2 3 rfl (aJ Ks rfl rfl rfl rfl (ih (dW (bT n s) i r3).2 hpp.2 (by omega)) [0] (bh .nil) rfl rfl rfl rfl (an .nil) (fun s ob' hq=>?_) (fun s ob' hq=>?_));rotate_left
      ·first|exact hq.elim|cases hq.1
      obtain⟨hq1,rfl⟩:=hq;rw[hX] at hq1;cases hq1;refine⟨_,_,_,_,_,rfl,rfl,rfl,rfl,rfl,?_⟩;refine A2 4 rfl (gK dL [.tmp 126] bt ?_);refine A2 5 rfl (px dL ?_);refine ga [6] ?_;refine A2 7 rfl (dP DI ?_);refine aS ?_;refine ke 2 [13,12,11,2,0] 2 ?_;refine o1 (cF ?_);refine go 2 ?_;rw[hlast];refine bk (i+1) rfl ?_ [0,1,2,3,4] mz;exact⟨by omega,by omega⟩
end
section
open Go Go.Vd Go.RowKit
attribute [local irreducible] bq bu dh ak bJ cQ
variable {g gl:Nat→List D}
variable {s:ByteArray}
theorem FH{p:Nat}(hp:p≤s.size)(h0:(bc s p).1≠ .empty)(h:48≤bo (bc s p).1 0∧bo (bc s p).1 0≤57):
 (bc s p).1.size≤5∧uN (bc s p).1∧(1<(bc s p).1.size→¬bo (bc s p).1 0=48):=by
 have hle:=fu q7 s p hp;revert h0 h;unfold bc;dsimp only;split
 ·intro h0;exact absurd rfl h0
 ·rename_i hn;have hlt:cX q7 s p<s.size:=by omega
  split
  ·rename_i hc;intro _ h;rw[cE s (by omega) (by omega),Nat.add_zero] at h;omega
  ·split
   ·rename_i hc hnm;have h3:=fu (fX · false) s (cX q7 s p+1) (by omega);split
    ·intro h0;exact absurd rfl h0
    ·intro _ h;rw[cE s (by omega) (by omega),Nat.add_zero] at h
     exfalso
     revert hnm;unfold fX;simp;omega
   ·split
    ·have h3:=fu jM s (cX q7 s p+1) (by omega);by_cases h35:bo s (cX q7 s p)=35
     ·simp only[if_pos h35];split
      ·intro h0;exact absurd rfl h0
      ·intro _ h;rw[cE s (by omega) (by omega),Nat.add_zero] at h;omega
     ·simp only[if_neg h35];split
      ·intro h0;exact absurd rfl h0
      ·rename_i hd;intro _ h;rw[cE s (by omega) (by omega),Nat.add_zero] at h ⊢;simp only[ByteArray.size_extract];refine⟨by omega,fun i hi=>?_,fun h1 h48=>hd (.inr (.inr ⟨by omega,h48⟩))⟩;simp only[ByteArray.size_extract] at hi;rw[cE s (by omega) (by omega)];rcases Nat.eq_zero_or_pos i with rfl|hi0
       ·exact h
       ·have:=tY (f:=jM) (s:=s) (p:=cX q7 s p+1) (j:=cX q7 s p+i) (by omega) (by omega)
        simpa[jM] using this
    ·intro h0;exact absurd rfl h0
variable {r r1:RS}
theorem E3(h1:ch s ⟨#[40]⟩ r=r1)(hk:vh (bc s r1.p).1=0):eE s r=(.mk 0 .empty [] aP aP 0 [],r1.fail (bc s r1.p).2.1):=by
 unfold eE bN;dsimp only;rw[h1,if_pos hk];rfl
variable {k:Nat} {nm:ByteArray} {ps:List ByteArray}
theorem C8{r5:RS}(h1:ch s ⟨#[40]⟩ r=r1)(hk:vh (bc s r1.p).1=k)(h0:¬k=0)(h3:(cT s (aQ s r1).2).1=nm)
 (h5:dQ (s.size+2) s (ch s ⟨#[40]⟩ (cT s (aQ s r1).2).2)=(ps,r5)):bN s r=(k,nm,ps,ch s ⟨#[41]⟩ r5):=by
 unfold bN;dsimp only;rw[h1,hk,if_neg h0,h3,h5]
variable {r6:RS}
theorem HS(h:bN s r=(3,nm,ps,r6))(hb:¬qq (bc s r6.p)):eE s r=(.mk 3 nm ps aP aP 0 [],r6.fail (bc s r6.p).2.1):=by
 unfold eE;dsimp only;rw[h,if_neg (by simp),if_pos ⟨rfl,hb⟩]
theorem E4{r7 r8 r9 r10:RS}{a:Int}{t v:ae}{cs:List (ByteArray×ae)}(h:bN s r=(k,nm,ps,r6))(h0:¬k=0)(hb:¬(k=3∧¬qq (bc s r6.p)))(ha:fU s k r6=(a,r7))
 (ht:bT (s.size+1) s r7=(t,r8)) (hv:rz s k r8=(v,r9)) (hc:nn s k r9=(cs,r10)):eE s r=(.mk k nm ps t v a cs,ch s ⟨#[41]⟩ r10):=by
 unfold eE;dsimp only;rw[h,if_neg h0,if_neg hb];simp only[iQ,ha,ht,hv,hc]
def ot(k m:Nat)(s:ByteArray)(r:RS):List (ByteArray×ae)×RS:=if k=3 then dM m s r else([],r)
variable {m:Nat}
theorem Ia(h:¬(k=3∧r.f=none∧kJ s r=⟨#[40]⟩)):ot k m s r=([],r):=by
 unfold ot;split
 ·rename_i hk;exact E5 fun h2=>h ⟨hk,h2⟩
 ·rfl
theorem Ib{r0 r':RS}{acc:List (ByteArray×ae)}{x:ByteArray×ae}(hinv:r'.p≤s.size∧acc.length+m=s.size+2∧(r'.f=none→s.size-r'.p<m)∧ot k (s.size+2) s r0=(acc++(ot k m s r').1,(ot k m s r').2))
 (hk:k=3) (h:r'.f=none∧kJ s r'=⟨#[40]⟩) (hX:(eP s r').1=x):
 (eP s r').2.p≤s.size∧(acc++[x]).length+(m-1)=s.size+2∧((eP s r').2.f=none→s.size-(eP s r').2.p<m-1)∧
  ot k (s.size+2) s r0=(acc++[x]++(ot k (m-1) s (eP s r').2).1,(ot k (m-1) s (eP s r').2).2):=by
 subst hk;unfold ot at hinv ⊢;simp only[if_true] at hinv ⊢;exact E6 hinv h hX
theorem CC{w:ByteArray}(h1:¬w=⟨#[97,120,105,111,109]⟩)(h2:¬w=⟨#[100,101,102]⟩)(h3:¬w=⟨#[105,110,100,117,99,116,105,118,101]⟩):vh w=0:=by
 unfold vh;rw[if_neg h1,if_neg h2,if_neg h3]
variable {acc:List dN}
theorem yj(h:fD (s.size+2) s ⟨0,none⟩=(acc,r))(hf:r.f=none):eX s=(acc,0,0):=by
 unfold eX;rw[h];simp only[hf]
theorem Au{a:Nat}(h:fD (s.size+2) s ⟨0,none⟩=(acc,r))(hf:r.f=some a):eX s=([],1,(a:Int)):=by
 unfold eX;rw[h];simp only[hf]
theorem HG(h:fD (s.size+2) s ⟨0,none⟩=(acc,r))(hf:¬bC r.f=0):eX s=([],bC r.f,eF r.f):=by
 cases hr:r.f with
 |none=>rw[hr] at hf;exact absurd rfl hf
 |some a=>rw[Au h hr];rfl
end
section
open Go Go.Vd Go.RowKit
variable {s:ByteArray} {p:Nat}
theorem Lq(hp:p≤s.size)(h:(bc s p).1≠ .empty):p+1≤(aQ s ⟨p,none⟩).2.p:=by
 have hat:=fq (s:=s) hp;rw[iK h];have:=size_pos h;simp only;omega
theorem Nx(hp:p≤s.size)(h:vi (bc s p).1)(h1:(bc s p).1≠⟨#[40]⟩):
 0≤kS ((bc s p).1.extract 1 (bc s p).1.size) ((bc s p).1.size-1)∧kS ((bc s p).1.extract 1 (bc s p).1.size) ((bc s p).1.size-1)≤99999:=by
 have h2:bo (bc s p).1 0=35:=by rcases h.2 with h|h;exact h;exact absurd h h1
 have h3:=Bk hp h.1 h2;exact wR h3.2.2 _ (by rw[ByteArray.size_extract];omega) (by omega)
theorem G8{t:ByteArray}(hd:uN t)(h2:t.size≤2):0≤kS t t.size∧kS t t.size≤99:=by
 have key:t.size=0∨t.size=1∨t.size=2:=by omega
 rcases key with h|h|h
 ·rw [h];simp[kS]
 ·have d0:=hd 0 (by omega);rw[h];simp only[kS];omega
 ·have d0:=hd 0 (by omega);have d1:=hd 1 (by omega);rw[h];simp only[kS];omega
end
section
open Go Go.Vd Go.RowKit
def JT(l:aO):Prop:= ∃x:eB,l=x.cB∧vG x.cB∧∀w,x.has w→ic w
mutual
def ru : ae → Prop
  | .mk k n s ls args => (∀ l ∈ ls, JT l) ∧ uw args ∧
    ((k = 0 ∧ 0 ≤ n ∧ n ≤ 99999 ∧ s = .empty ∧ ls = [] ∧ args = []) ∨ (k = 1 ∧ n = 0 ∧ s = .empty ∧ ls.length = 1 ∧ args = []) ∨ (k = 2 ∧ n = 0 ∧ ic s ∧ args = []) ∨
      ((k = 3 ∨ k = 4 ∨ k = 5) ∧ n = 0 ∧ s = .empty ∧ ls = [] ∧ args.length = 2) ∨ (k = 6 ∧ n = 0 ∧ s = .empty ∧ ls = [] ∧ args.length = 3))
def uw : List ae → Prop
  | [] => True
  | t :: r => ru t ∧ uw r
end
theorem EG{l:List ae}{t:ae}(h1:uw l)(h2:ru t):uw (l++[t]):=by
 induction l with
 |nil=>exact⟨h2,trivial⟩
 |cons a r ih=>exact⟨h1.1,ih h1.2⟩
variable {s:ByteArray} {r:RS}
theorem vg(n:Nat)(hp:r.p≤s.size):JT (bL n s r).1:=by
 obtain⟨x,h1,h2,_⟩:=xk (s:=s) n hp;exact⟨x,h1,h2,Hg n hp x h1⟩
theorem AE:∀(n:Nat) {r:RS},r.p≤s.size→∀l∈(db n s r).1,JT l:=by
 intro n
 induction n with
 |zero=>intro r hp l hl;simp[db] at hl
 |succ n ih=>
  intro r hp l hl;simp only[db] at hl;split at hl
  ·rcases List.mem_cons.1 hl with rfl|hl
   ·exact vg _ hp
   ·exact ih (eI (s:=s) (s.size+1) hp).2 l hl
  ·simp at hl
theorem mJ(hp:r.p≤s.size)(h:(cT s r).2.f=none):ic (cT s r).1:=by
 obtain⟨p,f⟩:=r;unfold cT at h ⊢;dsimp only at h ⊢;split at h
 ·exact absurd h (iP _ _)
 ·rename_i hn;rw[if_neg hn];cases f with
  |none=>
   have h1:dI (bc s p).1=true:=by
    cases hb:dI (bc s p).1 with
    |true=>rfl
    |false=>exact absurd (.inr hb) hn
   exact wc hp h1
  |some a=>cases h
theorem JE:∀{n:Nat} {r:RS},(db n s r).2.f=none→r.f=none
 |0,r,h=>h
 |n+1,r,h=>by
  simp only[db] at h;split at h
  ·rename_i hc;exact hc.1
  ·exact h
theorem BS{s:ByteArray}{n:Nat}:∀{i:Nat} {r:RS},(dW (bT n s) i r).2.f=none→r.f=none
 |0,r,h=>h
 |i+1,r,h=>BS (i:=i) (rC h)
theorem oz:∀(n:Nat) (r:RS),r.p≤s.size→(bT n s r).2.f=none→s.size<n+r.p→ru (bT n s r).1:=by
 intro n
 induction n with
 |zero=>intro r hp _ hn;omega
 |succ n ih=>
  intro r hp hf hn;obtain⟨p,f⟩:=r;simp only at hp hn;cases f with
  |some a=>cases hf
  |none=>
   have h1:=cZ (s:=s) (r:=⟨p,none⟩) hp;have h2:=cZ (s:=s) (r:=(aQ s ⟨p,none⟩).2) h1.2;simp only at h1;by_cases c1:vi (bc s p).1
   ·by_cases c2:(bc s p).1=⟨#[40]⟩
    ·rcases hk:fB (bc s (aQ s ⟨p,none⟩).2.p).1 with _|k
     ·rw [rE c2 hk] at hf;exact absurd hf (iP _ _)
     ·rcases hh:ja s (k+1) (aQ s (aQ s ⟨p,none⟩).2).2 with⟨nm,L,r3⟩;have h3:=tw (s:=s) (k+1) h2.2;rw[hh] at h3;simp only at h3;have h9:=xq (bc s (aQ s ⟨p,none⟩).2.p).1;have h10:=Lq hp (by rw[c2];decide);have hpart:∀(i:Nat),(dW (bT n s) i r3).2.f=none→uw (dW (bT n s) i r3).1:=by
       intro i
       induction i with
       |zero=>intro _;exact trivial
       |succ i ihi=>
        intro hfi;have h5:=jZ (s:=s) (f:=bT n s) (fun r hr=>et n r hr) i h3.2;exact EG (ihi (rC hfi)) (ih _ h5.2 hfi (by omega))
      rw[rD c2 hk (by omega) hh] at hf ⊢;have hf2:=jd hf;have hf3:=BS hf2;have hpl:=wG (bT n s) (partsOf (k+1)) r3;have hga:=hpart _ hf2;generalize(dW (bT n s) (partsOf (k+1)) r3).1=as1 at hpl hga ⊢;unfold ja at hh;split at hh
      ·rename_i hk1;cases hh;refine⟨fun l hl=>?_,hga,.inr (.inl ⟨by omega,rfl,rfl,rfl,?_⟩)⟩
       ·simp only[List.mem_singleton] at hl;subst hl;exact vg _ h2.2
       ·rw [hk1] at hpl;exact List.length_eq_zero_iff.1 hpl
      ·split at hh
       ·rename_i hk1 hk2;cases hh;have h6:=eD (s:=s) h2.2;refine⟨AE _ h6.2,hga,.inr (.inr (.inl ⟨by omega,rfl,mJ h2.2 (JE hf3),?_⟩))⟩;rw[hk2] at hpl;exact List.length_eq_zero_iff.1 hpl
       ·rename_i hk1 hk2;cases hh;refine⟨fun l hl=>(by cases hl),hga,?_⟩;unfold partsOf at hpl;rw[if_neg (by omega)] at hpl;split at hpl
        ·exact .inr (.inr (.inr (.inr ⟨by omega,rfl,rfl,rfl,hpl⟩)))
        ·exact .inr (.inr (.inr (.inl ⟨by omega,rfl,rfl,rfl,hpl⟩)))
    ·rw [tT c1 c2];have h3:=Nx hp c1 c2;exact⟨fun l hl=>(by cases hl),trivial,.inl ⟨rfl,h3.1,h3.2,rfl,rfl,rfl⟩⟩
   ·rw [tU c1] at hf;exact absurd hf (iP _ _)
theorem HN(h:(iv s r).f=none):r.f=none:=by
 unfold iv at h;dsimp only at h;split at h
 ·exact absurd h (iP _ _)
 ·exact h
theorem D7(h:(gh s).2.1=0):ru (gh s).1:=by
 unfold gh at h ⊢;split at h
 ·exact absurd (show(2:Int)=0 from h) (by decide)
 ·rename_i hs;rw[if_neg hs];dsimp only at h ⊢;split at h
  ·rename_i hf;simp only;exact oz _ _ (Nat.zero_le _) (HN hf) (by simp)
  ·exact absurd (show(1:Int)=0 from h) (by decide)
end
section
open Go Go.Vd Go.RowKit
variable {s:ByteArray} {r:RS}
theorem zC(hf:(bN s r).2.2.2.f=none):(bN s r).1≤3∧¬(bN s r).1=0:=by
 unfold bN at hf ⊢;dsimp only at hf ⊢;split at hf
 ·exact absurd hf (iP _ _)
 ·rename_i hk;rw[if_neg hk];exact⟨JI _,hk⟩
def F8:dN→Prop
 | .mk k nm ps t v a cs=>ic nm∧(∀ w∈ps,ic w)∧ru t∧
  ((k=1∧v=aP∧a=0∧cs=[])∨(k=2∧ru v∧a=0∧cs=[])∨(k=3∧v=aP∧0≤a∧a≤99∧∀c∈cs,ic c.1∧ru c.2))
theorem Cn:∀(n:Nat) {r:RS},r.p≤s.size→(dQ n s r).2.f=none→∀w∈(dQ n s r).1,ic w:=by
 intro n
 induction n with
 |zero=>intro r hp _ w hw;simp[dQ] at hw
 |succ n ih=>
  intro r hp hf w hw;simp only[dQ] at hf hw;split at hf
  ·rename_i hc;rw[if_pos hc] at hw;rcases List.mem_cons.1 hw with rfl|hw
   ·exact mJ hp (vN hf)
   ·exact ih (eD (s:=s) hp).2 hf w hw
  ·rename_i hc;rw[if_neg hc] at hw;simp at hw
theorem E8(hp:r.p≤s.size)(hf:(eP s r).2.f=none):ic (eP s r).1.1∧ru (eP s r).1.2:=by
 have h1:=bX (s:=s) (w:=⟨#[40]⟩) hp;have h2:=bX (s:=s) (w:=jQ) h1.2;have h3:=eD (s:=s) h2.2;unfold eP at hf ⊢;have g1:=jd hf;exact⟨mJ h2.2 (rC g1),oz _ _ h3.2 g1 (by omega)⟩
theorem C9:∀(n:Nat) {r:RS},r.p≤s.size→(dM n s r).2.f=none→∀c∈(dM n s r).1,ic c.1∧ru c.2:=by
 intro n
 induction n with
 |zero=>intro r hp _ w hw;simp[dM] at hw
 |succ n ih=>
  intro r hp hf w hw;simp only[dM] at hf hw;split at hf
  ·rename_i hc;rw[if_pos hc] at hw;rcases List.mem_cons.1 hw with rfl|hw
   ·exact E8 hp (AW hf)
   ·exact ih (tF (s:=s) hp).2 hf w hw
  ·rename_i hc;rw[if_neg hc] at hw;simp at hw
theorem ED(hp:r.p≤s.size)(hf:(bN s r).2.2.2.f=none):ic (bN s r).2.1∧∀w∈(bN s r).2.2.1,ic w:=by
 have h1:=bX (s:=s) (w:=⟨#[40]⟩) hp;have h2:=cZ (s:=s) h1.2;have h3:=eD (s:=s) h2.2;have h4:=bX (s:=s) (w:=⟨#[40]⟩) h3.2;unfold bN at hf ⊢;dsimp only at hf ⊢;split at hf
 ·exact absurd hf (iP _ _)
 ·rename_i hk;rw[if_neg hk];have g1:=jd hf;exact⟨mJ h2.2 (jd (vN g1)),Cn _ h4.2 g1⟩
theorem E2(hp:r.p≤s.size)(hf:(eE s r).2.f=none):F8 (eE s r).1:=by
 have hh:=nk (s:=s) hp;unfold eE at hf ⊢;dsimp only at hf ⊢;split at hf
 ·rename_i hk;exact absurd (zC hf).2 (fun h=>h hk)
 ·rename_i hk;rw[if_neg hk];split at hf
  ·exact absurd hf (iP _ _)
  ·rename_i hb;rw[if_neg hb];have ha:=ow (s:=s) (k:=(bN s r).1) hh.2;have hfh:=GA (IQ hf);have hg:=zC hfh;have hs:=ED hp hfh;generalize hk1:(bN s r).1=k at*
   generalize hn1:(bN s r).2.1=nm at*
   generalize hp1:(bN s r).2.2.1=ps at*
   generalize hr1:(bN s r).2.2.2=r6 at*
   have har:(¬ k=3→(fU s k r6).1=0)∧(k=3→0≤(fU s k r6).1∧(fU s k r6).1≤99):=by
    unfold fU;refine⟨fun h=>by rw[if_neg h],fun h=>?_⟩;rw[if_pos h];have hab:qq (bc s r6.p):=Classical.byContradiction fun h2=>hb ⟨h,h2⟩
    obtain⟨_,had,_⟩:=FH hh.2 hab.1 ⟨hab.2.1,hab.2.2.1⟩;exact G8 had hab.2.2.2
   generalize(fU s k r6).1=a at*
   generalize(fU s k r6).2=r7 at*
   unfold iQ at hf ⊢;dsimp only at hf ⊢;have f1:=jd hf;have f2:=Km f1;have f3:=Ml f2;have t2:=et (s:=s) (s.size+1) r7 ha.2;have v2:=vJ (s:=s) (k:=k) t2.2;have gt:=oz (s:=s) (s.size+1) r7 ha.2 f3 (by omega);refine⟨hs.1,hs.2,gt,?_⟩;have hk123:k=1∨k=2∨k=3:=by omega
   rcases hk123 with rfl|rfl|rfl
   ·refine .inl ⟨rfl,?_,har.1 (by decide),?_⟩
    ·unfold rz;rw[if_neg (by decide)]
    ·unfold nn;rw[if_neg (by decide)]
   ·refine .inr (.inl ⟨rfl,?_,har.1 (by decide),?_⟩)
    ·unfold rz at f2 ⊢;rw[if_pos rfl] at f2 ⊢;exact oz _ _ t2.2 f2 (by omega)
    ·unfold nn;rw[if_neg (by decide)]
   ·refine .inr (.inr ⟨rfl,?_,(har.2 rfl).1,(har.2 rfl).2,?_⟩)
    ·unfold rz;rw[if_neg (by decide)]
    ·unfold nn at f1 ⊢;rw[if_pos rfl] at f1 ⊢;exact C9 _ v2.2 f1
theorem EU:∀(n:Nat) {r:RS},r.p≤s.size→(fD n s r).2.f=none→∀d∈(fD n s r).1,F8 d:=by
 intro n
 induction n with
 |zero=>intro r hp _ d hd;simp[fD] at hd
 |succ n ih=>
  intro r hp hf d hd;simp only[fD] at hf hd;split at hf
  ·rename_i hc;rw[if_pos hc] at hd;have hdn:(eE s r).2.f=none:=by
    cases hx:(eE s r).2.f with
    |none=>rfl
    |some a=>
     rw[uC (by rintro⟨e,_⟩;rw[hx] at e;cases e)] at hf;rw[hx] at hf;cases hf
   rcases List.mem_cons.1 hd with rfl|hd
   ·exact E2 hp hdn
   ·exact ih (xM (s:=s) hp).2 hf d hd
  ·rename_i hc;rw[if_neg hc] at hd;simp at hd
theorem At(h:(fQ s).2.1=0):∀d∈(fQ s).1,F8 d:=by
 unfold fQ at h ⊢;split at h
 ·exact absurd h (by decide)
 ·rename_i hs;rw[if_neg hs];unfold eX at h ⊢;split at h
  ·rename_i hf;simp only;exact EU _ (Nat.zero_le _) hf
  ·exact absurd (show(1:Int)=0 from h) (by decide)
end
section
open Go Go.Vd Go.RowKit
def Pb(l:aO):Prop:= ∃x:eB,l=x.cB∧vG x.cB
def Cl(k n:Int)(s:ByteArray)(ls:List aO)(a:Nat)(V:Prop)(C:Prop):Prop:=
 (k=0∧V∧s=.empty∧ls=[]∧a=0)∨(k=1∧n=0∧s=.empty∧ls.length=1∧a=0)∨(k=2∧n=0∧C∧a=0)∨
  ((k=3∨k=4∨k=5)∧n=0∧s=.empty∧ls=[]∧a=2)∨(k=6∧n=0∧s=.empty∧ls=[]∧a=3)
variable {k n:Int} {s:ByteArray} {ls:List aO}
theorem Cl.imp{a:Nat}{V C V' C':Prop}(h:Cl k n s ls a V C)(hv:k=0→V→V')(hc:k=2→C→C'):Cl k n s ls a V' C':=by
 rcases h with⟨h1,h2,h3⟩|h|⟨h1,h2,h3,h4⟩|h|h
 ·exact .inl ⟨h1,hv h1 h2,h3⟩
 ·exact .inr (.inl h)
 ·exact .inr (.inr (.inl ⟨h1,h2,hc h1 h3,h4⟩))
 ·exact .inr (.inr (.inr (.inl h)))
 ·exact .inr (.inr (.inr (.inr h)))
mutual
def iA(B:Int):ae→Prop
 | .mk k n s ls args=>(∀ l∈ls,Pb l)∧ub B args∧Cl k n s ls args.length (0≤n∧n≤B) True
def ub(B:Int):List ae→Prop
 |[]=>True
 |t::r=>iA B t∧ub B r
end
theorem Bv{B:Int}:∀{l:List ae} {t:ae},ub B l→t∈l→iA B t
 |[],t,_,h=>by cases h
 |a::r,t,ho,h=>by
  rcases List.mem_cons.1 h with rfl|h
  ·exact ho.1
  ·exact Bv ho.2 h
variable {B:Int} {t:ae}
theorem wu{l:List ae}{i:Nat}(h:ub B l)(hi:l[i]? =some t):iA B t:=Bv h (List.mem_of_getElem? hi)
variable {args:List ae}
theorem pN(h:iA B (.mk k n s ls args))(hk:k=0):0≤n∧n≤B∧s=.empty∧ls=[]∧args=[]:=by
 obtain⟨_,_,h3⟩:=h;rcases h3 with h3|h3|h3|h3|h3
 ·exact ⟨h3.2.1.1,h3.2.1.2,h3.2.2.1,h3.2.2.2.1,List.length_eq_zero_iff.1 h3.2.2.2.2⟩
 all_goals omega
mutual
theorem jC{B B':Int}(hb:B≤B'):∀{t:ae},iA B t→iA B' t
 | .mk k n s ls args,h=>⟨h.1,yW hb h.2.1,h.2.2.imp (fun _ h=>⟨h.1,by omega⟩) fun _ h=>h⟩
theorem yW{B B':Int}(hb:B≤B'):∀{l:List ae},ub B l→ub B' l
 |[],_=>trivial
 |t::r,h=>⟨jC hb h.1,yW hb h.2⟩
end
mutual
theorem pO:∀{t:ae},ru t→iA 99999 t
 | .mk k n s ls args,h=>by
  refine⟨fun l hl=>(h.1 l hl).imp fun x h=>⟨h.1,h.2.1⟩,yY h.2.1,?_⟩;rcases h.2.2 with h|h|h|h|h
  ·exact .inl ⟨h.1,⟨h.2.1,h.2.2.1⟩,h.2.2.2.1,h.2.2.2.2.1,by rw[h.2.2.2.2.2];rfl⟩
  ·exact .inr (.inl ⟨h.1,h.2.1,h.2.2.1,h.2.2.2.1,by rw[h.2.2.2.2];rfl⟩)
  ·exact .inr (.inr (.inl ⟨h.1,h.2.1,trivial,by rw[h.2.2.2];rfl⟩))
  ·exact .inr (.inr (.inr (.inl h)))
  ·exact .inr (.inr (.inr (.inr h)))
theorem yY:∀{l:List ae},uw l→ub 99999 l
 |[],_=>trivial
 |t::r,h=>⟨pO h.1,yY h.2⟩
end
def iN(ps:List ByteArray)(l:aO):Prop:= ∃x:eB,l=x.cB∧vG x.cB∧∀p,x.has p→p∈ps
abbrev Sg:=ByteArray→Option Nat
mutual
def Wt(sg:Sg)(ps:List ByteArray):ae→Int→Prop
 | .mk k n s ls args,c=>(∀ l∈ls,iN ps l)∧gU sg ps (decide (4≤k)) args c∧Cl k n s ls args.length (0≤n∧n<c) (sg s=some ls.length)
def gU(sg:Sg)(ps:List ByteArray)(b:Bool):List ae→Int→Prop
 |[],_=>True
 |t::r,c=>Wt sg ps t (if b&&r.isEmpty then c+1 else c)∧gU sg ps b r c
end
def yI(a b:Sg):Prop:= ∀s n,a s=some n→b s=some n
variable {l:aO}
theorem iN.mono{ps qs:List ByteArray}(h:iN ps l)(hp:∀p∈ps,p∈qs):iN qs l:=by
 obtain⟨x,h1,h2,h3⟩:=h;exact⟨x,h1,h2,fun p hx=>hp p (h3 p hx)⟩
theorem iN.ok{ps:List ByteArray}(h:iN ps l):Pb l:=h.imp fun x h=>⟨h.1,h.2.1⟩
section
variable {sg sg':Sg} {ps qs:List ByteArray}
mutual
theorem Wt.mono(hs:yI sg sg')(hp:∀p∈ps,p∈qs):∀{t:ae} {c c':Int},Wt sg ps t c→c≤c'→Wt sg' qs t c'
 | .mk k n s ls args,c,c',h,hc=>⟨fun l hl=>(h.1 l hl).mono hp,gU.mono hs hp h.2.1 hc,h.2.2.imp (fun _ h=>⟨h.1,by omega⟩) fun _ h=>hs _ _ h⟩
theorem gU.mono(hs:yI sg sg')(hp:∀p∈ps,p∈qs):∀{l:List ae} {b:Bool} {c c':Int},gU sg ps b l c→c≤c'→gU sg' qs b l c'
 |[],b,c,c',_,_=>trivial
 |t::r,b,c,c',h,hc=>⟨Wt.mono hs hp h.1 (by split<;>omega),gU.mono hs hp h.2 hc⟩
end
theorem yI.refl(sg:Sg):yI sg sg:=fun _ _ h=>h
variable {c:Int}
theorem Wt.up{c':Int}(h:Wt sg ps t c)(hc:c≤c'):Wt sg ps t c':=h.mono (yI.refl _) (fun _ h=>h) hc
mutual
theorem Wt.sh:∀{t:ae} {c:Int},Wt sg ps t c→∀{B:Int},c+t.size≤B+1→iA B t
 | .mk k n s ls args,c,h,B,hB=>by
  simp only[ae.size] at hB;exact⟨fun l hl=>(h.1 l hl).ok,gU.sh h.2.1 (by omega),h.2.2.imp (fun _ h=>⟨h.1,by omega⟩) fun _ _=>trivial⟩
theorem gU.sh:∀{l:List ae} {b:Bool} {c:Int},gU sg ps b l c→∀{B:Int},c+aj l≤B→ub B l
 |[],_,_,_,_,_=>trivial
 |t::r,b,c,h,B,hB=>by
  simp only[aj] at hB;exact⟨Wt.sh h.1 (by split<;>omega),gU.sh h.2 (by omega)⟩
end
mutual
theorem Wt.lift{m fr:Int}(hm:0≤m):∀{t:ae} {c d:Int},Wt sg ps t c→Wt sg ps (bZ (dJ m fr) t d) (c+m)
 | .mk k n s ls args,c,d,h=>by
  by_cases hk:k=0
  ·subst hk;have hv:=h.2.2;rcases hv with hv|hv|hv|hv|hv
   ·obtain ⟨_,⟨h0,h1⟩,rfl,rfl,ha⟩:=hv;have ha:=List.length_eq_zero_iff.1 ha;subst ha;rw[cH,dJ];split
    ·exact ⟨fun l hl=>(by cases hl),trivial,.inl ⟨rfl,⟨by omega,by omega⟩,rfl,rfl,rfl⟩⟩
    ·exact ⟨fun l hl=>(by cases hl),trivial,.inl ⟨rfl,⟨by omega,by omega⟩,rfl,rfl,rfl⟩⟩
   all_goals omega
  ·rw [bZ,if_neg hk];refine⟨h.1,gU.lift hm h.2.1,?_⟩;rw[fA];exact h.2.2.imp (fun h=>absurd h hk) fun _ h=>h
theorem gU.lift{m fr:Int}(hm:0≤m):∀{l:List ae} {b:Bool} {c d:Int},gU sg ps b l c→gU sg ps b (bO (dJ m fr) b l d) (c+m)
 |[],b,c,d,_=>by simp[bO,gU]
 |t::r,b,c,d,h=>by
  rw[bO,gU];refine⟨?_,gU.lift hm h.2⟩;rw[jD];have:=Wt.lift (fr:=fr) hm (d:=if (b&&r.isEmpty)=true then d+1 else d) h.1;refine this.up ?_;split<;>omega
end
theorem Wt.NB{m fr:Int}(hm:0≤m)(h:Wt sg ps t c):Wt sg ps (dw t m fr) (c+m):=by
 rw[dX];exact h.lift hm
mutual
theorem Wt.inst{v:ae}{c:Int}(hc:0≤c)(hv:Wt sg ps v c):∀{t:ae} {d:Int},0≤d→Wt sg ps t (c+1+d)→Wt sg ps (bZ (dc v) t d) (c+d)
 | .mk k n s ls args,d,hd,h=>by
  by_cases hk:k=0
  ·subst hk;rcases h.2.2 with h2|h2|h2|h2|h2
   ·obtain ⟨_,⟨h0,h1⟩,rfl,rfl,ha⟩:=h2;have ha:=List.length_eq_zero_iff.1 ha;subst ha;rw[cH,dc];split
    ·exact ⟨fun l hl=>(by cases hl),trivial,.inl ⟨rfl,⟨by omega,by omega⟩,rfl,rfl,rfl⟩⟩
    ·split
     ·exact hv.NB hd
     ·exact ⟨fun l hl=>(by cases hl),trivial,.inl ⟨rfl,⟨by omega,by omega⟩,rfl,rfl,rfl⟩⟩
   all_goals omega
  ·rw [bZ,if_neg hk];refine⟨h.1,gU.inst hc hv hd h.2.1,?_⟩;rw[fA];exact h.2.2.imp (fun h=>absurd h hk) fun _ h=>h
theorem gU.inst{v:ae}{c:Int}(hc:0≤c)(hv:Wt sg ps v c):∀{l:List ae} {b:Bool} {d:Int},0≤d→gU sg ps b l (c+1+d)→gU sg ps b (bO (dc v) b l d) (c+d)
 |[],b,d,_,_=>by simp[bO,gU]
 |t::r,b,d,hd,h=>by
  rw[bO,gU];refine⟨?_,gU.inst hc hv hd h.2⟩;rw[jD];have h1:=h.1;split at h1
  ·rename_i e;rw[if_pos e,if_pos e];have:=Wt.inst hc hv (d:=d+1) (by omega) (h1.up (by omega));exact this.up (by omega)
  ·rename_i e;rw[if_neg e,if_neg e];exact Wt.inst hc hv hd h1
end
variable {b v:ae}
theorem Wt.sub(hc:0≤c)(hb:Wt sg ps b (c+1))(hv:Wt sg ps v c):Wt sg ps (dj b v) c:=by
 have:=Wt.inst hc hv (t:=b) (d:=0) (Int.le_refl _) (by rw[Int.add_zero];exact hb)
 rwa [Int.add_zero] at this
mutual
theorem Wt.tP{v:ae}{c B:Int}(hc:0≤c):∀{t:ae} {d:Int},0≤d→iA B t→Wt sg ps (bZ (dc v) t d) (c+d)→Wt sg ps t (c+1+d)
 | .mk k n s ls args,d,hd,hs,h=>by
  by_cases hk:k=0
  ·subst hk;obtain⟨h0,_,rfl,rfl,rfl⟩:=pN hs rfl;rw[cH,dc] at h;refine⟨fun l hl=>(by cases hl),trivial,.inl ⟨rfl,⟨h0,?_⟩,rfl,rfl,rfl⟩⟩;split at h
   ·omega
   ·split at h
    ·omega
    ·rcases h.2.2 with h2|h2|h2|h2|h2
     ·have:=h2.2.1.2;omega
     all_goals omega
  ·rw [bZ,if_neg hk] at h;refine⟨h.1,gU.tP hc hd hs.2.1 h.2.1,?_⟩;have h2:=h.2.2;rw[fA] at h2;exact h2.imp (fun h=>absurd h hk) fun _ h=>h
theorem gU.tP{v:ae}{c B:Int}(hc:0≤c):∀{l:List ae} {b:Bool} {d:Int},0≤d→ub B l→gU sg ps b (bO (dc v) b l d) (c+d)→gU sg ps b l (c+1+d)
 |[],b,d,_,_,_=>trivial
 |t::r,b,d,hd,hs,h=>by
  rw[bO,gU,jD] at h;refine⟨?_,gU.tP hc hd hs.2 h.2⟩;have h1:=h.1;split at h1
  ·rename_i e;rw[if_pos e];have:=Wt.tP hc (d:=d+1) (by omega) hs.1 (h1.up (by omega));exact this.up (by omega)
  ·rename_i e;rw[if_neg e];exact Wt.tP hc hd hs.1 h1
end
theorem Wt.Mo(hc:0≤c)(hs:iA B b)(h:Wt sg ps (dj b v) c):Wt sg ps b (c+1):=by
 have:=Wt.tP (v:=v) (B:=B) hc (t:=b) (d:=0) (Int.le_refl _) hs (by rw[Int.add_zero];exact h)
 rwa [Int.add_zero] at this
theorem gU.get:∀{l:List ae} {b:Bool} {c:Int} {i:Nat} {t:ae},gU sg ps b l c→l[i]? =some t→Wt sg ps t (if b=true∧i+1=l.length then c+1 else c)
 |[],b,c,i,t,_,h=>by simp at h
 |a::r,b,c,0,t,hp,h=>by
  simp at h;subst h;have:=hp.1;cases r<;>simpa using this
 |a::r,b,c,i+1,t,hp,h=>by
  have:=gU.get (l:=r) (i:=i) (t:=t) hp.2 (by simpa using h)
  simpa only[List.length_cons,Nat.add_right_cancel_iff] using this
theorem Wt.two(h:Wt sg ps (.mk k n s ls args) c)(hk:k=3∨k=4∨k=5):∃a b,args=[a,b]∧n=0∧s=.empty∧ls=[]∧Wt sg ps a c∧Wt sg ps b (if k=3 then c else c+1):=by
 rcases h.2.2 with h2|h2|h2|h2|h2
 ·omega
 ·omega
 ·omega
 ·obtain ⟨_,hn,hs,hl,ha⟩:=h2
  match args,ha with
  |[a,b],_=>
   have h3:=h.2.1;simp only[gU,List.isEmpty_cons,List.isEmpty_nil,Bool.and_false,Bool.and_true,Bool.false_eq_true,if_false,decide_eq_true_eq] at h3;refine⟨a,b,rfl,hn,hs,hl,h3.1,?_⟩;have h4:=h3.2.1;by_cases h5:k=3
   ·rw [if_pos h5];rw[if_neg (by omega)] at h4;exact h4
   ·rw [if_neg h5];rw[if_pos (by omega)] at h4;exact h4
 ·omega
theorem Wt.three(h:Wt sg ps (.mk k n s ls args) c)(hk:k=6):∃a v b,args=[a,v,b]∧n=0∧s=.empty∧ls=[]∧Wt sg ps a c∧Wt sg ps v c∧Wt sg ps b (c+1):=by
 rcases h.2.2 with h2|h2|h2|h2|h2
 ·omega
 ·omega
 ·omega
 ·omega
 ·obtain ⟨_,hn,hs,hl,ha⟩:=h2
  match args,ha with
  |[a,v,b],_=>
   have h3:=h.2.1;simp only[gU,List.isEmpty_cons,List.isEmpty_nil,Bool.and_false,Bool.and_true,Bool.false_eq_true,if_false,decide_eq_true_eq] at h3;refine⟨a,v,b,rfl,hn,hs,hl,h3.1,h3.2.1,?_⟩;have h4:=h3.2.2.1;rw[if_pos (by omega)] at h4;exact h4
variable {a:ae}
theorem Wt.Ri(hk:k=3∨k=4∨k=5)(ha:Wt sg ps a c)(hb:Wt sg ps b (if k=3 then c else c+1)):Wt sg ps (.mk k 0 .empty [] [a,b]) c:=by
 refine⟨fun l hl=>(by cases hl),?_,.inr (.inr (.inr (.inl ⟨hk,rfl,rfl,rfl,rfl⟩)))⟩;simp only[gU,List.isEmpty_cons,List.isEmpty_nil,Bool.and_false,Bool.and_true,Bool.false_eq_true,if_false,decide_eq_true_eq];refine⟨ha,?_,trivial⟩;by_cases h5:k=3
 ·rw [if_pos h5] at hb;rw[if_neg (by omega)];exact hb
 ·rw [if_neg h5] at hb;rw[if_pos (by omega)];exact hb
theorem Wt.app(ha:Wt sg ps a c)(hb:Wt sg ps b c):Wt sg ps (.mk 3 0 .empty [] [a,b]) c:=Wt.Ri (.inl rfl) ha (by rw[if_pos rfl];exact hb)
theorem Wt.bind(hk:k=4∨k=5)(ha:Wt sg ps a c)(hb:Wt sg ps b (c+1)):Wt sg ps (.mk k 0 .empty [] [a,b]) c:=Wt.Ri (.inr hk) ha (by rw[if_neg (by omega)];exact hb)
theorem Wt.var(h0:0≤n)(h1:n<c):Wt sg ps (.mk 0 n .empty [] []) c:=⟨fun l hl=>(by cases hl),trivial,.inl ⟨rfl,⟨h0,h1⟩,rfl,rfl,rfl⟩⟩
theorem Wt.sort(h:iN ps l):Wt sg ps (.mk 1 0 .empty [l] []) c:=⟨fun x hx=>by simp only[List.mem_singleton] at hx;subst hx;exact h,trivial,.inr (.inl ⟨rfl,rfl,rfl,rfl,rfl⟩)⟩
theorem Wt.apply{f:ae}{bs:List ae}(hf:Wt sg ps f c)(hb:∀b∈bs,Wt sg ps b c):Wt sg ps (bw f bs) c:=by
 unfold bw
 induction bs generalizing f with
 |nil=>exact hf
 |cons a r ih=>exact ih (Wt.app hf (hb a List.mem_cons_self)) fun b h=>hb b (List.mem_cons_of_mem _ h)
theorem Wt.spine:∀(n:Nat) {t:ae} {c:Int},t.size≤n→Wt sg ps t c→q8 t∧Wt sg ps (bd t).1 c∧(∀ b∈(bd t).2,Wt sg ps b c)∧bw (bd t).1 (bd t).2=t:=by
 intro n
 induction n with
 |zero=>intro t c h;obtain⟨k,m,s,ls,args,rfl⟩:=ae.case t;simp[ae.size] at h
 |succ n ih=>
  intro t c hn h;obtain⟨k,m,s,ls,args,rfl⟩:=ae.case t
  by_cases hk:k=3
  ·subst hk;obtain⟨a,b,rfl,rfl,rfl,rfl,ha,hb⟩:=h.two (.inl rfl);rw[if_pos rfl] at hb;simp only[ae.size,aj] at hn;obtain⟨h1,h2,h3,h4⟩:=ih (by omega) ha;rw[je];refine⟨fun _=>h1,h2,fun x hx=>?_,?_⟩
   ·rcases List.mem_append.1 hx with hx|hx
    ·exact h3 x hx
    ·simp only[List.mem_singleton] at hx;subst hx;exact hb
   ·show bw (bd a).1 ((bd a).2++[b])=_;unfold bw at h4 ⊢;rw[List.foldl_append,h4];rfl
  ·rw [j9 hk];exact⟨by
    match args with
    |[a,b]=>intro e;exact absurd e hk
    |[]=>exact hk
    |[a]=>exact hk
    |a::b::c::r=>exact hk,h,fun b hb=>(by cases hb),rfl⟩
end
end
section
open Go Go.Vd Go.RowKit
mutual
def eu(ps:List ByteArray)(us:List aO):ae→ae
 | .mk k n s ls args=>.mk k n s (ls.map fun x=>x.subst ps us) (du ps us args)
def du(ps:List ByteArray)(us:List aO):List ae→List ae
 |[]=>[]
 |t::r=>eu ps us t::du ps us r
end
theorem qC{ps:List ByteArray}{us:List aO}:∀l:List ae,(du ps us l).length=l.length
 |[]=>rfl
 |t::r=>by simp[du,qC r]
theorem tW{ps:List ByteArray}{us:List aO}:∀{l:List ae} {i:Nat} {t:ae},l[i]? =some t→(du ps us l)[i]? =some (eu ps us t)
 |[],i,t,h=>by simp at h
 |a::r,0,t,h=>by simp at h;subst h;simp[du]
 |a::r,i+1,t,h=>by simpa[du] using tW (l:=r) (i:=i) (t:=t) (by simpa using h)
variable {i:Nat}
theorem w9{l:List aO}{x:aO}(h:l[i]? =some x):bE (l.take i)++[x.cells]=bE (l.take (i+1)):=by
 rw[List.take_add_one,h,p6];rfl
theorem v8{l:List ae}{x:ae}(h:l[i]? =some x):ay (l.take i)++[x.cells]=ay (l.take (i+1)):=by
 rw[List.take_add_one,h,dt];rfl
theorem rI:∀{l:List aO} {i:Nat} {t:aO},l[i]? =some t→t.size≤bg l
 |[],i,t,h=>by simp at h
 |a::r,0,t,h=>by simp at h;subst h;simp[bg]
 |a::r,i+1,t,h=>by
  have:=rI (l:=r) (i:=i) (t:=t) (by simpa using h);simp[bg];omega
theorem oG:∀l:List aO,l.length≤bg l
 |[]=>by simp
 | .mk k s args::r=>by have:=oG r;simp[bg,aO.size];omega
theorem dE(l m:List ae):aj (l++m)=aj l+aj m:=by
 induction l with
 |nil=>simp[aj]
 |cons a r ih=>simp[aj,ih];omega
theorem dD:∀(n:Nat) (t:ae),t.size≤n→(bd t).1.size+aj (bd t).2≤t.size:=by
 intro n
 induction n with
 |zero=>intro t h;obtain⟨k,m,s,ls,args,rfl⟩:=ae.case t;simp[ae.size] at h
 |succ n ih=>
  intro t h
  match t with
  | .mk k m s ls [f,a]=>
   simp only[ae.size,aj] at h;by_cases hk:k=3
   ·have h1:=ih f (by omega);rw[bd,if_pos hk];simp only[dE,aj,ae.size];omega
   ·rw [bd,if_neg hk];simp[aj]
  | .mk k m s ls []=>simp[bd,aj]
  | .mk k m s ls [a]=>simp[bd,aj]
  | .mk k m s ls (a::b::c::r)=>simp[bd,aj]
theorem cy(f:ae)(bs:List ae):(bw f bs).size=f.size+aj bs+bs.length:=by
 unfold bw
 induction bs generalizing f with
 |nil=>simp[aj]
 |cons a r ih=>rw[List.foldl_cons,ih];simp only[ae.size,bg,aj,List.length_cons];omega
end
section
open Go Go.Vd Go.RowKit
theorem HC{ps:List ByteArray}{s:ByteArray}(h:s∈ps):∃i,ps.findIdx? (· =s)=some i∧i<ps.length:=by
 induction ps with
 |nil=>cases h
 |cons p r ih=>
  by_cases e:p=s
  ·exact ⟨0,by simp[List.findIdx?_cons,e],by simp⟩
  ·rcases List.mem_cons.1 h with h|h
   ·exact absurd h.symm e
   ·obtain ⟨i,h1,h2⟩:=ih h;exact⟨i+1,by simp[List.findIdx?_cons,e,h1],by simp;omega⟩
theorem j2{ps qs:List ByteArray}{us:List aO}(hl:ps.length≤us.length)(hu:∀u∈us,iN qs u):∀x:eB,vG x.cB→(∀ p,x.has p→p∈ps)→iN qs (x.cB.subst ps us)
 | .zero,_,_=>⟨.zero,rfl,⟨by decide,by decide,fun e=>absurd e (by decide),trivial⟩,fun p h=>h.elim⟩
 | .succ a,hf,h=>by
  obtain⟨y,h1,h2,h3⟩:=j2 hl hu a hf.2.2.2.1 h;refine⟨.succ y,?_,⟨by decide,by decide,fun e=>absurd e (by decide),h2,trivial⟩,h3⟩;show aO.subst ps us (.mk 1 .empty [a.cB])=.mk 1 .empty [y.cB];simp only[aO.subst,dV,h1];rfl
 | .max a b,hf,h=>by
  obtain⟨y,h1,h2,h3⟩:=j2 hl hu a hf.2.2.2.1 fun p hp=>h p (.inl hp)
  obtain⟨z,g1,g2,g3⟩:=j2 hl hu b hf.2.2.2.2.1 fun p hp=>h p (.inr hp)
  refine⟨.max y z,?_,⟨by decide,by decide,fun e=>absurd e (by decide),h2,g2,trivial⟩,fun p hp=>hp.elim (h3 p) (g3 p)⟩;show aO.subst ps us (.mk 2 .empty [a.cB,b.cB])=.mk 2 .empty [y.cB,z.cB];simp only[aO.subst,dV,h1,g1];rfl
 | .imax a b,hf,h=>by
  obtain⟨y,h1,h2,h3⟩:=j2 hl hu a hf.2.2.2.1 fun p hp=>h p (.inl hp)
  obtain⟨z,g1,g2,g3⟩:=j2 hl hu b hf.2.2.2.2.1 fun p hp=>h p (.inr hp)
  refine⟨.imax y z,?_,⟨by decide,by decide,fun e=>absurd e (by decide),h2,g2,trivial⟩,fun p hp=>hp.elim (h3 p) (g3 p)⟩;show aO.subst ps us (.mk 3 .empty [a.cB,b.cB])=.mk 3 .empty [y.cB,z.cB];simp only[aO.subst,dV,h1,g1];rfl
 | .param s,hf,h=>by
  obtain⟨i,h1,h2⟩:=HC (h s rfl);have hi:i<us.length:=by omega
  show iN qs (aO.subst ps us (.mk 4 s []));simp only[aO.subst,if_true,h1];rw[List.getD_eq_getElem?_getD,List.getElem?_eq_getElem hi];exact hu _ (List.getElem_mem hi)
theorem iN.subst{ps qs:List ByteArray}{us:List aO}{l:aO}(hl:ps.length≤us.length)(hu:∀u∈us,iN qs u)(h:iN ps l):iN qs (l.subst ps us):=by
 obtain⟨x,rfl,h2,h3⟩:=h;exact j2 hl hu x h2 h3
theorem Bo(ps:List ByteArray)(us:List aO)(r:List ae):(du ps us r).isEmpty=r.isEmpty:=by cases r<;>simp[du]
mutual
theorem Wt.Ix{sg:Sg}{ps qs:List ByteArray}{us:List aO}(hl:ps.length≤us.length)(hu:∀u∈us,iN qs u):∀{t:ae} {c:Int},Wt sg ps t c→Wt sg qs (eu ps us t) c
 | .mk k n s ls args,c,h=>by
  rw[eu];refine⟨fun l hm=>?_,gU.Ix hl hu h.2.1,?_⟩
  ·obtain ⟨x,hx,rfl⟩:=List.mem_map.1 hm;exact(h.1 x hx).subst hl hu
  ·rw [qC];rcases h.2.2 with h|h|h|h|h
   ·exact .inl ⟨h.1,h.2.1,h.2.2.1,by rw[h.2.2.2.1];rfl,h.2.2.2.2⟩
   ·exact .inr (.inl ⟨h.1,h.2.1,h.2.2.1,by rw[List.length_map];exact h.2.2.2.1,h.2.2.2.2⟩)
   ·exact .inr (.inr (.inl ⟨h.1,h.2.1,by rw[List.length_map];exact h.2.2.1,h.2.2.2⟩))
   ·exact .inr (.inr (.inr (.inl ⟨h.1,h.2.1,h.2.2.1,by rw[h.2.2.2.1];rfl,h.2.2.2.2⟩)))
   ·exact .inr (.inr (.inr (.inr ⟨h.1,h.2.1,h.2.2.1,by rw[h.2.2.2.1];rfl,h.2.2.2.2⟩)))
theorem gU.Ix{sg:Sg}{ps qs:List ByteArray}{us:List aO}(hl:ps.length≤us.length)(hu:∀u∈us,iN qs u):∀{l:List ae} {b:Bool} {c:Int},gU sg ps b l c→gU sg qs b (du ps us l) c
 |[],b,c,_=>by simp[du,gU]
 |t::r,b,c,h=>by
  rw[du,gU,Bo];exact⟨Wt.Ix hl hu h.1,gU.Ix hl hu h.2⟩
end
mutual
def mi:ae→Int→Nat
 | .mk k n s ls args,v=>if k=0∧n=v then 1 else jI (decide (4≤k)) args v
def jI(b:Bool):List ae→Int→Nat
 |[],_=>0
 |t::r,v=>mi t (if b&&r.isEmpty then v+1 else v)+jI b r v
end
mutual
theorem ua(m fr:Int):∀(t:ae) (d:Int),(bZ (dJ m fr) t d).size=t.size
 | .mk k n s ls args,d=>by
  by_cases hk:k=0
  ·rw [bZ,if_pos hk,dJ];split<;>rfl
  ·rw [bZ,if_neg hk];simp only[ae.size,wm m fr args]
theorem wm(m fr:Int):∀(l:List ae) (b:Bool) (d:Int),aj (bO (dJ m fr) b l d)=aj l
 |[],b,d=>by simp[bO]
 |t::r,b,d=>by simp only[bO,aj,ua m fr t,wm m fr r]
end
theorem jh(t:ae)(m fr:Int):(dw t m fr).size=t.size:=by rw[dX,ua]
mutual
theorem yU(v:ae):∀(t:ae) (d:Int),(bZ (dc v) t d).size≤t.size+mi t d*v.size
 | .mk k n s ls args,d=>by
  by_cases hk:k=0
  ·rw [bZ,if_pos hk,dc,mi];split
   ·rw [if_neg (by omega)];simp only[ae.size];omega
   ·split
    ·rw [if_pos ⟨hk,by omega⟩,jh];simp only[ae.size];omega
    ·rw [if_neg (by omega)];simp only[ae.size];omega
  ·rw [bZ,if_neg hk,mi,if_neg (fun h=>hk h.1)];have:=wo v args (decide (4≤k)) d;simp only[ae.size];omega
theorem wo(v:ae):∀(l:List ae) (b:Bool) (d:Int),aj (bO (dc v) b l d)≤aj l+jI b l d*v.size
 |[],b,d=>by simp[bO,aj]
 |t::r,b,d=>by
  have h1:=yU v t (if b&&r.isEmpty then d+1 else d);have h2:=wo v r b d;simp only[bO,aj,jI,Nat.add_mul];omega
end
structure ON where
 two:Nat→Nat→Nat
 lam:Nat→Nat→Nat
 Ru:Nat→Nat→Nat→Nat
 leaf:Nat
 QR:Nat
def gp(x:Nat)(ρ:Nat→Nat):Nat→Nat
 |0=>x
 |i+1=>ρ i
def zE(al:ON):ae→(Nat→Nat)→Nat
 | .mk k n s ls [a,b],ρ=>if k=0 then ρ n.toNat else if 4≤k then al.lam (zE al a ρ) (zE al b (gp al.QR ρ)) else al.two (zE al a ρ) (zE al b ρ)
 | .mk k n s ls [a,v,b],ρ=>if k=0 then ρ n.toNat else if 4≤k then al.Ru (zE al a ρ) (zE al v ρ) (zE al b (gp (zE al v ρ) ρ)) else al.leaf
 | .mk k n s ls _,ρ=>if k=0 then ρ n.toNat else al.leaf
def rJ(m d:Nat)(ρ:Nat→Nat)(i:Nat):Nat:=if i<d then ρ i else ρ (i+m)
theorem wq(m d x:Nat)(ρ:Nat→Nat):rJ m (d+1) (gp x ρ)=gp x (rJ m d ρ):=by
 funext i;cases i with
 |zero=>simp[rJ,gp]
 |succ i=>
  simp only[rJ,gp,Nat.add_lt_add_iff_right];split
  ·rfl
  ·rw [show i+1+m=(i+m)+1 by omega]
variable {B:Int}
theorem KW(al:ON)(m:Nat):∀(n:Nat) (t:ae) (d:Nat) (ρ:Nat→Nat),t.size≤n→iA B t→zE al (bZ (dJ m 0) t d) ρ=zE al t (rJ m d ρ):=by
 intro n
 induction n with
 |zero=>intro t d ρ h;obtain⟨k,m,s,ls,args,rfl⟩:=ae.case t;simp[ae.size] at h
 |succ n ih=>
  intro t d ρ hn hs;obtain⟨k,v,s,ls,args,rfl⟩:=ae.case t
  by_cases hk:k=0
  ·subst hk;obtain⟨h0,_,rfl,rfl,rfl⟩:=pN hs rfl;rw[cH,dJ];simp only[Int.zero_add];split
   ·simp only[zE,if_true,rJ];rw[if_neg (by omega)];congr 1;omega
   ·simp only[zE,if_true,rJ];rw[if_pos (by omega)]
  ·rw [bZ,if_neg hk];have h2:=hs.2.2;simp only[ae.size] at hn;rcases h2 with h2|h2|h2|h2|h2
   ·omega
   ·obtain ⟨_,_,_,_,ha⟩:=h2
    match args,ha with
    |[],_=>simp only[bO,zE,if_neg hk]
   ·obtain ⟨_,_,_,ha⟩:=h2
    match args,ha with
    |[],_=>simp only[bO,zE,if_neg hk]
   ·obtain ⟨hk3,_,_,_,ha⟩:=h2
    match args,ha with
    |[a,b],_=>
     simp only[aj] at hn;have h3:=hs.2.1;simp only[bO,List.isEmpty_cons,List.isEmpty_nil,Bool.and_false,Bool.and_true,Bool.false_eq_true,if_false,decide_eq_true_eq];rw[zE,zE,if_neg hk,if_neg hk];by_cases h4:4≤k
     ·rw [if_pos h4,if_pos h4,if_pos h4,ih a d ρ (by omega) h3.1,←wq,show(d:Int)+1=((d+1:Nat):Int) by omega,ih b (d+1) _ (by omega) h3.2.1]
     ·rw [if_neg h4,if_neg h4,if_neg h4,ih a d ρ (by omega) h3.1,ih b d ρ (by omega) h3.2.1]
   ·obtain ⟨hk3,_,_,_,ha⟩:=h2
    match args,ha with
    |[a,v,b],_=>
     simp only[aj] at hn;have h3:=hs.2.1;simp only[bO,List.isEmpty_cons,List.isEmpty_nil,Bool.and_false,Bool.and_true,Bool.false_eq_true,if_false,decide_eq_true_eq];rw[zE,zE,if_neg hk,if_neg hk,if_pos (by omega),if_pos (by omega),if_pos (by omega),ih a d ρ (by omega) h3.1,ih v d ρ (by omega) h3.2.1,←wq,show(d:Int)+1=((d+1:Nat):Int) by omega,ih b (d+1) _ (by omega) h3.2.2.1]
variable {B':Int}
theorem KX(al:ON)(v:ae)(hv:iA B' v):∀(n:Nat) (t:ae) (d:Nat) (ρ:Nat→Nat),t.size≤n→iA B t→zE al (bZ (dc v) t d) ρ=zE al t (fun i=>if i<d then ρ i else if i=d then zE al v (fun j=>ρ (j+d)) else ρ (i-1)):=by
 intro n
 induction n with
 |zero=>intro t d ρ h;obtain⟨k,m,s,ls,args,rfl⟩:=ae.case t;simp[ae.size] at h
 |succ n ih=>
  intro t d ρ hn hs;obtain⟨k,w,s,ls,args,rfl⟩:=ae.case t
  have hcons:∀x,(fun i=>if i<d+1 then gp x ρ i else if i=d+1 then zE al v (fun j=>gp x ρ (j+(d+1))) else gp x ρ (i-1))=gp x (fun i=>if i<d then ρ i else if i=d then zE al v (fun j=>ρ (j+d)) else ρ (i-1)):=by
   intro x;funext i;cases i with
   |zero=>simp[gp]
   |succ i=>
    simp only[gp,Nat.add_lt_add_iff_right,Nat.add_right_cancel_iff];split
    ·rfl
    ·split
     ·rfl
     ·cases i with
      |zero=>omega
      |succ i=>simp[gp]
  by_cases hk:k=0
  ·subst hk;obtain⟨h0,_,rfl,rfl,rfl⟩:=pN hs rfl;rw[cH,dc];split
   ·simp only[zE,if_true];rw[if_pos (by omega)]
   ·split
    ·have hz:zE al (bZ (dJ (d:Int) 0) v 0) ρ=_:=KW al d v.size v 0 ρ (Nat.le_refl _) hv;simp only[zE,if_true];rw[if_neg (by omega),if_pos (by omega),dX,hz]
     congr 1
    ·simp only[zE,if_true];rw[if_neg (by omega),if_neg (by omega)];congr 1;omega
  ·rw [bZ,if_neg hk];have h2:=hs.2.2;simp only[ae.size] at hn;rcases h2 with h2|h2|h2|h2|h2
   ·omega
   ·obtain ⟨_,_,_,_,ha⟩:=h2
    match args,ha with
    |[],_=>simp only[bO,zE,if_neg hk]
   ·obtain ⟨_,_,_,ha⟩:=h2
    match args,ha with
    |[],_=>simp only[bO,zE,if_neg hk]
   ·obtain ⟨hk3,_,_,_,ha⟩:=h2
    match args,ha with
    |[a,b],_=>
     simp only[aj] at hn;have h3:=hs.2.1;simp only[bO,List.isEmpty_cons,List.isEmpty_nil,Bool.and_false,Bool.and_true,Bool.false_eq_true,if_false,decide_eq_true_eq];rw[zE,zE,if_neg hk,if_neg hk];by_cases h4:4≤k
     ·rw [if_pos h4,if_pos h4,if_pos h4,ih a d ρ (by omega) h3.1,←hcons,show(d:Int)+1=((d+1:Nat):Int) by omega,ih b (d+1) _ (by omega) h3.2.1]
     ·rw [if_neg h4,if_neg h4,if_neg h4,ih a d ρ (by omega) h3.1,ih b d ρ (by omega) h3.2.1]
   ·obtain ⟨hk3,_,_,_,ha⟩:=h2
    match args,ha with
    |[a,v',b],_=>
     simp only[aj] at hn;have h3:=hs.2.1;simp only[bO,List.isEmpty_cons,List.isEmpty_nil,Bool.and_false,Bool.and_true,Bool.false_eq_true,if_false,decide_eq_true_eq];rw[zE,zE,if_neg hk,if_neg hk,if_pos (by omega),if_pos (by omega),if_pos (by omega),ih a d ρ (by omega) h3.1,ih v' d ρ (by omega) h3.2.1,←hcons,show(d:Int)+1=((d+1:Nat):Int) by omega,ih b (d+1) _ (by omega) h3.2.2.1]
theorem Iy(al:ON){b v:ae}(hv:iA B' v)(hb:iA B b)(ρ:Nat→Nat):zE al (dj b v) ρ=zE al b (gp (zE al v ρ) ρ):=by
 have:=KX al v hv b.size b 0 ρ (Nat.le_refl _) hb;unfold dj;have h2:zE al (bZ (dc v) b 0) ρ=_:=this;rw[h2]
 congr 1
 funext i;cases i with
 |zero=>simp[gp]
 |succ i=>simp[gp]
end
end Go.Proofs.YtndbnldjidciiaaGreatDoor
namespace Go.Vd
def dN.k:dN→Int| .mk k _ _ _ _ _ _=>k
def dN.nm:dN→ByteArray| .mk _ s _ _ _ _ _=>s
def dN.ps:dN→List ByteArray| .mk _ _ p _ _ _ _=>p
def dN.ty:dN→ae| .mk _ _ _ t _ _ _=>t
def dN.vl:dN→ae| .mk _ _ _ _ v _ _=>v
def dN.ar:dN→Int| .mk _ _ _ _ _ a _=>a
def dN.cs:dN→List (ByteArray×ae)| .mk _ _ _ _ _ _ c=>c
end Go.Vd
namespace Go.Proofs.YtndbnldjidciiaaGreatDoor
section
open Go Go.Vd Go.RowKit
structure cu where
 d:dN
 rp:List ByteArray
 rt:ae
def cu.cells(e:cu):List D:=e.d.cells++(.sl 1 (strs e.rp)::e.rt.cells)
def cu.dd(e:cu):D:=.agg e.cells
def pC(l:List cu):List (List D):=l.map cu.cells
theorem tB(l:List cu):(pC l).length=l.length:=by simp[pC]
theorem C2(l m:List cu):pC (l++m)=pC l++pC m:=by simp[pC]
theorem cu.case(x:cu):∃k s ps k1 n1 s1 l1 a1 k2 n2 s2 l2 a2 a cs rp k3 n3 s3 l3 a3,x=⟨.mk k s ps (.mk k1 n1 s1 l1 a1) (.mk k2 n2 s2 l2 a2) a cs,rp,.mk k3 n3 s3 l3 a3⟩:=by
 obtain⟨⟨k,s,ps,⟨k1,n1,s1,l1,a1⟩,⟨k2,n2,s2,l2,a2⟩,a,cs⟩,rp,⟨k3,n3,s3,l3,a3⟩⟩:=x;exact⟨_,_,_,_,_,_,_,_,_,_,_,_,_,_,_,_,_,_,_,_,_,rfl⟩
variable {l:List cu} {i:Nat}
theorem Gj(h:i<l.length):∃k s ps k1 n1 s1 l1 a1 k2 n2 s2 l2 a2 a cs rp k3 n3 s3 l3 a3,l[i]? =some ⟨.mk k s ps (.mk k1 n1 s1 l1 a1) (.mk k2 n2 s2 l2 a2) a cs,rp,.mk k3 n3 s3 l3 a3⟩:=by
 have:l[i]? =some l[i]:=by simp[h]
 rw[this];obtain⟨k,s,ps,k1,n1,s1,l1,a1,k2,n2,s2,l2,a2,a,cs,rp,k3,n3,s3,l3,a3,e⟩:=cu.case l[i]
 rw[e];exact⟨_,_,_,_,_,_,_,_,_,_,_,_,_,_,_,_,_,_,_,_,_,rfl⟩
theorem rZ{k:Int}{s:ByteArray}{ps:List ByteArray}{k1 n1:Int}{s1:ByteArray}{l1:List aO}{a1:List ae}{k2 n2:Int}{s2:ByteArray}{l2:List aO}{a2:List ae}{a:Int}{cs:List (ByteArray×ae)}{rp:List ByteArray}{k3 n3:Int}{s3:ByteArray}{l3:List aO}{a3:List ae}
 (h:l[i]? =some ⟨.mk k s ps (.mk k1 n1 s1 l1 a1) (.mk k2 n2 s2 l2 a2) a cs,rp,.mk k3 n3 s3 l3 a3⟩):(pC l)[((i:Nat):Int).toNat]? =some [.v (.int .i64 k),.v (.string s),.sl 1 (strs ps),.v (.int .i64 k1),.v (.int .i64 n1),.v (.string s1),.sl 3 (bE l1),.sl 5 (ay a1),.v (.int .i64 k2),.v (.int .i64 n2),.v (.string s2),.sl 3 (bE l2),.sl 5 (ay a2),.v (.int .i64 a),.sl 6 (gL cs),.sl 1 (strs rp),.v (.int .i64 k3),.v (.int .i64 n3),.v (.string s3),.sl 3 (bE l3),.sl 5 (ay a3)]:=by
 simp[pC,h,cu.cells,dN.Dc,ae.cells]
def Mj:dN:=.mk 0 .empty [] aP aP 0 []
def Ac:cu:=⟨Mj,[],aP⟩
def wC:ByteArray:=⟨#[46,114,101,99]⟩
def eG(nm:ByteArray):List (ByteArray×ae)→Option Nat
 |[]=>none
 |c::r=>if c.1=nm then some 0 else(eG nm r).map (· +1)
def bK(nm:ByteArray):List cu→Int×cu×Nat
 |[]=>(0,Ac,0)
 |e::r=>if e.d.nm=nm then(e.d.k,e,0) else
  match eG nm e.d.cs with
  |some i=>(4,e,i)
  |none=>if e.d.k=3∧e.d.nm++wC=nm then(5,e,0) else bK nm r
theorem drop_cons{α:Type}{l:List α}{x:α}(h:l[i]? =some x):l.drop i=x::l.drop (i+1):=by
 obtain⟨hi,rfl⟩:=List.getElem?_eq_some_iff.1 h;exact List.drop_eq_getElem_cons hi
theorem xN{nm:ByteArray}:∀{l:List (ByteArray×ae)} {i:Nat} {c:ByteArray×ae},(∀ j x,j<i→l[j]? =some x→¬x.1=nm)→l[i]? =some c→c.1=nm→eG nm l=some i
 |[],i,c,_,h,_=>by simp at h
 |a::r,0,c,_,h,e=>by simp at h;subst h;simp[eG,e]
 |a::r,i+1,c,h0,h,e=>by
  have h1:=h0 0 a (by omega) rfl;rw[eG,if_neg h1,xN (i:=i) (fun j x hj hx=>h0 (j+1) x (by omega) (by simpa using hx)) (by simpa using h) e];rfl
theorem vp{nm:ByteArray}:∀{l:List (ByteArray×ae)},(∀ (j:Nat) x,l[j]? =some x→¬x.1=nm)→eG nm l=none
 |[],_=>rfl
 |a::r,h0=>by
  rw[eG,if_neg (h0 0 a rfl),vp fun j x hx=>h0 (j+1) x (by simpa using hx)];rfl
theorem se{nm:ByteArray}:∀{l:List (ByteArray×ae)} {i:Nat},eG nm l=some i→∃c,l[i]? =some c∧c.1=nm
 |[],i,h=>by cases h
 |a::r,i,h=>by
  rw[eG] at h;split at h
  ·rename_i e;cases h;exact⟨a,rfl,e⟩
  ·obtain ⟨j,hj,rfl⟩:=Option.map_eq_some_iff.1 h;obtain⟨c,h1,h2⟩:=se hj;exact⟨c,by simpa using h1,h2⟩
def ik(nm:ByteArray)(es:List cu):Option (List ByteArray×ae):=
 let f:=bK nm es
 if f.1=0 then none else if f.1=4 then(f.2.1.d.cs[f.2.2]?).map fun c=>(f.2.1.d.ps,c.2) else if f.1=5 then some (f.2.1.rp,f.2.1.rt) else some (f.2.1.d.ps,f.2.1.d.ty)
def eh(es:List cu):Sg:=fun nm=>(ik nm es).map fun t=>t.1.length
theorem uA{nm:ByteArray}:∀{es:List cu},(bK nm es).1≠0→(bK nm es).2.1∈es
 |[],h=>absurd rfl h
 |e::r,h=>by
  rw[bK] at h ⊢;split
  ·exact List.mem_cons_self
  ·rename_i h1;rw[if_neg h1] at h;split
   ·exact List.mem_cons_self
   ·rename_i h2;rw[h2] at h;simp only at h;split
    ·exact List.mem_cons_self
    ·rename_i h3;rw[if_neg h3] at h;exact List.mem_cons_of_mem _ (uA h)
theorem oY{nm:ByteArray}:∀{es:List cu},(∀ e∈es,e.d.k≠4)→(bK nm es).1=4→∃c,(bK nm es).2.1.d.cs[(bK nm es).2.2]? =some c∧c.1=nm
 |[],_,h=>by cases h
 |e::r,hk,h=>by
  rw[bK] at h ⊢;split
  ·rename_i h1;rw[if_pos h1] at h;exact absurd h (hk e List.mem_cons_self)
  ·rename_i h1;rw[if_neg h1] at h;split
   ·rename_i i h2;exact se h2
   ·rename_i h2;rw[h2] at h;simp only at h;split
    ·rename_i h3;rw[if_pos h3] at h;cases h
    ·rename_i h3;rw[if_neg h3] at h;exact oY (fun e he=>hk e (List.mem_cons_of_mem _ he)) h
def bf:ae→Nat
 | .mk k _ _ _ [_,b]=>if k=5 then bf b+1 else 0
 |_=>0
end
section
open Go Go.Vd Go.RowKit
attribute [local irreducible] bq bu dh ak bJ cQ
variable {g gl:Nat→List D}
theorem wY{F:ae→Int→ae}{b:Bool}{d:Int}{l:List ae}{i:Nat}{t:ae}(h:(bO F b l d)[i]? =some t):ay ((bO F b l d).take i)++[t.cells]=ay ((bO F b l d).take (i+1)):=by
 rw[List.take_add_one,h,dt];rfl
theorem np(k m:Int)(s:ByteArray)(ls:List aO)(args:List ae)(i:Int)(hb:args.length≤1099511627776):cC Tryz.prog gl 99 [(ae.mk k m s ls args).d,.v (.int .i64 i)] (· =.v (.bool (decide (4≤k)&&decide (i=(ay args).length-1)))):=by
 have hal:=aN args;refine bD Tryz.func99 Tryz.ntmps99 ?_;refine gc 12 ?_;refine' oa (yt:=14) (d:=8) 6 ?a1 ?b1 ?_
 case a1=>
  intro hc hK;refine go 4 ?_;refine gy ?_;refine o1 (iz ?_);refine go 1 ?_;exact hK [_,_,_,_,_,_] rfl rfl
 case b1=>
  intro _ hK;refine go 6 ?_;exact hK [_,_,_,_,_,_] rfl
 refine go 4 ?_;refine ez ?_;rfl
theorem jV(k m:Int)(s:ByteArray)(ls:List aO)(args bs:List ae):cC Tryz.prog gl 67 [(ae.mk k m s ls args).d,.sl 5 (ay bs)] (· =(ae.mk k m s ls bs).d):=by
 refine bD Tryz.func67 Tryz.ntmps67 ?_;refine gc 22 ?_;refine ez ?_;rfl
variable {B:Int}
theorem ig{n0:Int}(hB:B≤1125899906842624)(h0:0≤n0∧n0≤1099511627776):∀(n:Nat) (k m:Int) (s:ByteArray) (ls:List aO) (args:List ae) (fr:Int),(ae.mk k m s ls args).size≤n→iA B (.mk k m s ls args)→0≤fr→fr+(ae.mk k m s ls args).size≤1099511627776→
 cC Tryz.prog gl 55 [(ae.mk k m s ls args).d,.v (.int .i64 n0),.v (.int .i64 fr)] (· =(bZ (dJ n0 0) (.mk k m s ls args) fr).d):=by
 intro n
 induction n with
 |zero=>intro k m s ls args d h;simp[ae.size] at h
 |succ n ih=>
  intro k m s ls args fr hsz hg hd0 hd1;have hsz2:=hsz;simp only[ae.size] at hsz2 hd1;have hal:=aN args;have hsa:=br args;have hml:=fA (dJ n0 0) (decide (4≤k)) fr args;refine bD Tryz.func55 Tryz.ntmps55 ?_;refine gc 14 ?_;refine cj (fun h1=>?_) (fun h1=>?_)
  ·refine kc 2 [6,3,1,2] 0 ?_;obtain rfl:=h1;have hgv:=pN hg rfl;obtain⟨hm0,hm1,rfl,rfl,rfl⟩:=hgv;refine gc 7 ?_;refine cJ (fun h2=>?_) (fun h2=>?_)
   ·refine kc 2 [6,3] 8 ?_;refine ed ((ae.mk 0 m .empty [] []).d) ?_;rw[cH,dJ,if_neg (by omega)]
   refine kc 0 [6,3,1] 5 ?_;refine o1 (cF ?_);refine go 7 ?_;refine ed ((ae.mk 0 (m+n0) .empty [] []).d) ?_;rw[cH,dJ,if_pos (by omega)]
  refine kc 2 [6,3,1,2] 12 ?_;refine bz 39 5 rfl ?_;refine lp (ι:=Nat) (fun i=>[(8,int i),(7,.own 2 5 (ay ((bO (dJ n0 0) (decide (4≤k)) args fr).take i)))]) (fun i=>[.cells [.d (.v (.int .i64 k)),.d (.v (.int .i64 m)),.d (.v (.string s)),.d (.sl 3 (bE ls)),.d (.sl 5 (ay args))] 39,.cells [.d (.v (.int .i64 0)),.d (.v (.int .i64 0)),.d (.v (.string .empty)),.d (.v (.slice none 0 0)),.d (.v (.slice none 0 0))] 39,.row 39 5]) [6,3,1,2] (fun i=>i≤args.length) (fun i=>args.length-i) (0) ([0,1,2]) rfl ?I2 ?M2 ?H2
  case I2=>
   exact Nat.zero_le _
  case M2=>
   refine mo ?_ (aH (ee rfl (by(rw[List.take_zero];exact Fit.nil rfl)) (aH (aH (aH (aH dC))))))
   repeat (first|exact cG|refine bh ?_|refine qZ ?_)
  case H2=>
   rintro i hinv
   try dsimp only at hinv
   refine kc 0 [8,7,6,3,1,2] 10 ?_;refine cJ (fun h7=>?_) (fun h7=>?_)
   ·refine kc 6 [7,6,3] 0 ?_;obtain rfl:i=args.length:=(by omega);rw[List.take_of_length_le (by omega)];have hws:=jV (gl:=gl) k m s ls args (bO (dJ n0 0) (decide (4≤k)) args fr);refine gc 3 ?_;refine oc (cv Ig rfl rfl (hws) (bl (bl .nil)) ?_);refine go 4 ?_;refine ed ((ae.mk k m s ls (bO (dJ n0 0) (decide (4≤k)) args fr)).d) ?_;rw[bZ,if_neg h1]
   refine kc 5 [8,7,6,3,1,2] 0 ?_;obtain⟨k2,m2,s2,l2,a2,hget⟩:=bM (show i<args.length by omega);have hg1:=bF hget;have hg2:=nW (dJ n0 0) (decide (4≤k)) fr hget;have hgg:=wu hg.2.1 hget;obtain⟨k3,m3,s3,l3,a3,hY⟩:=ae.case (bZ (dJ n0 0) (.mk k2 m2 s2 l2 a2) (if decide (4≤k)=true∧i+1=args.length then fr+1 else fr));refine gc 10 ?_;refine oc (cv LZ rfl rfl (np k m s ls args i (by omega)) (bl (an .nil)) ?_);refine ko 2 [33,9,8,7,6,3,1,2] 0 ?_;refine xc (ι:=Unit) (fun _=>[(9,int (if decide (4≤k)=true∧i+1=args.length then fr+1 else fr))]) [8,7,6,3,1,2] (fun _=>True) rfl ?A3 ?B3
   case A3=>
    refine cJ (fun h10=>?_) (fun h10=>?_)
    ·refine gc 1 ?_;refine bi (()) rfl ?_ ?_
     ·trivial
     ·refine mo ?_ (ee rfl (by exact Fit.of_eq (by first|(rw[if_pos (by simp only[decide_eq_true_eq];omega)];rfl)|(rw[if_neg (by simp only[decide_eq_true_eq];omega)];rfl))) (aH (aH (aH (aH (aH (aH dC)))))))
      repeat (first|exact cG|refine bh ?_|refine cw ?_)
    refine gc 2 ?_;refine o1 (cF ?_);refine go 2 ?_;refine bi (()) rfl ?_ ?_
    ·trivial
    ·refine mo ?_ (ee rfl (by exact Fit.of_eq (by first|(rw[if_pos (by simp only[decide_eq_true_eq];omega)];rfl)|(rw[if_neg (by simp only[decide_eq_true_eq];omega)];rfl))) (aH (aH (aH (aH (aH (aH dC)))))))
     repeat (first|exact cG|refine bh ?_|refine cw ?_)
   case B3=>
    rintro _ hcut
    try dsimp only at hcut
    refine kp [9,8,7,6,3,1,2] ?_;have hihx:=ih k2 m2 s2 l2 a2 (if decide (4≤k)=true∧i+1=args.length then fr+1 else fr) (by omega) hgg (by split<;>omega) (by split<;>omega);rw[hY] at hihx hg2;have hnx:ay ((bO (dJ n0 0) (decide (4≤k)) args fr).take i)++[[.v (.int .i64 k3),.v (.int .i64 m3),.v (.string s3),.sl 3 (bE l3),.sl 5 (ay a3)]]=ay ((bO (dJ n0 0) (decide (4≤k)) args fr).take (i+1)):=wY hg2;have htl:=aN ((bO (dJ n0 0) (decide (4≤k)) args fr).take i);have htk:=List.length_take (i:=i) (l:=bO (dJ n0 0) (decide (4≤k)) args fr);refine gc 5 ?_;refine o1 (cr bA bG ?_ (he:=by exact(bV hget)));refine go 3 ?_;refine oc (cv De rfl rfl (hihx) (bl (an (an .nil))) ?_);refine oc (gK dL [.tmp 44] bt ?_);refine oc (px dL ?_);refine ko 4 [7,8,6,3,1,2] 2 ?_;refine o1 (cF ?_);refine go 2 ?_;rw[hnx];refine bk (i+1) rfl ?_ [0,1,2] mz;exact⟨by omega,by omega⟩
theorem yo(hB:B≤1125899906842624)(kv nv:Int)(sv:ByteArray)(lv:List aO)(av:List ae)(hgv':iA B (.mk kv nv sv lv av))(hsv:(ae.mk kv nv sv lv av).size≤1099511627776):∀(n:Nat) (k m:Int) (s:ByteArray) (ls:List aO) (args:List ae) (fr:Int),(ae.mk k m s ls args).size≤n→iA B (.mk k m s ls args)→0≤fr→fr+(ae.mk k m s ls args).size≤1099511627776→
 cC Tryz.prog gl 121 [(ae.mk k m s ls args).d,(ae.mk kv nv sv lv av).d,.v (.int .i64 fr)] (· =(bZ (dc (.mk kv nv sv lv av)) (.mk k m s ls args) fr).d):=by
 intro n
 induction n with
 |zero=>intro k m s ls args d h;simp[ae.size] at h
 |succ n ih=>
  intro k m s ls args fr hsz hg hd0 hd1;have hsz2:=hsz;simp only[ae.size] at hsz2 hd1;have hal:=aN args;have hsa:=br args;have hml:=fA (dc (.mk kv nv sv lv av)) (decide (4≤k)) fr args;refine bD Tryz.func121 Tryz.ntmps121 ?_;refine gc 15 ?_;refine cj (fun h1=>?_) (fun h1=>?_)
  ·refine kc 2 [6,4,3,2] 0 ?_;obtain rfl:=h1;have hgv:=pN hg rfl;obtain⟨hm0,hm1,rfl,rfl,rfl⟩:=hgv;have hli:=ig (gl:=gl) (n0:=fr) hB ⟨hd0,by omega⟩ _ kv nv sv lv av 0 (Nat.le_refl _) hgv' (Int.le_refl _) (by omega);rw[← dX] at hli;obtain⟨k1,m1,s1,l1,a1,hX⟩:=ae.case (dw (.mk kv nv sv lv av) fr 0)
   rw[hX] at hli;refine gc 7 ?_;refine cj (fun h2=>?_) (fun h2=>?_)
   ·refine kc 0 [6,4,2] 4 ?_;refine oc (cv De rfl rfl (hli) (bl (an (an .nil))) ?_);refine go 6 ?_;refine ed ((ae.mk k1 m1 s1 l1 a1).d) ?_;rw[cH,dc,if_neg (by omega),if_pos (by omega),hX]
   refine kc 3 [6,3,2] 8 ?_;refine cJ (fun h4=>?_) (fun h4=>?_)
   ·refine kc 2 [6,3] 8 ?_;refine ed ((ae.mk 0 m .empty [] []).d) ?_;rw[cH,dc,if_pos (by omega)]
   refine kc 0 [6,3] 4 ?_;refine o1 (iz ?_);refine go 7 ?_;refine ed ((ae.mk 0 (m-1) .empty [] []).d) ?_;rw[cH,dc,if_neg (by omega),if_neg (by omega)]
  refine kc 2 [6,4,3,2] 12 ?_;refine bz 39 5 rfl ?_;refine lp (ι:=Nat) (fun i=>[(8,int i),(7,.own 3 5 (ay ((bO (dc (.mk kv nv sv lv av)) (decide (4≤k)) args fr).take i)))]) (fun i=>[.cells [.d (.v (.int .i64 k)),.d (.v (.int .i64 m)),.d (.v (.string s)),.d (.sl 3 (bE ls)),.d (.sl 5 (ay args))] 39,.cells [.d (.v (.int .i64 kv)),.d (.v (.int .i64 nv)),.d (.v (.string sv)),.d (.sl 3 (bE lv)),.d (.sl 5 (ay av))] 39,.cells [.d (.v (.int .i64 0)),.d (.v (.int .i64 0)),.d (.v (.string .empty)),.d (.v (.slice none 0 0)),.d (.v (.slice none 0 0))] 39,.row 39 5]) [6,4,3,2] (fun i=>i≤args.length) (fun i=>args.length-i) (0) ([0,1,2,3]) rfl ?I4 ?M4 ?H4
  case I4=>
   exact Nat.zero_le _
  case M4=>
   refine mo ?_ (aH (ee rfl (by(rw[List.take_zero];exact Fit.nil rfl)) (aH (aH (aH (aH dC))))))
   repeat (first|exact cG|refine bh ?_|refine qZ ?_)
  case H4=>
   rintro i hinv
   try dsimp only at hinv
   refine kc 0 [8,7,6,4,3,2] 10 ?_;refine cJ (fun h9=>?_) (fun h9=>?_)
   ·refine kc 6 [7,6,3] 0 ?_;obtain rfl:i=args.length:=(by omega);rw[List.take_of_length_le (by omega)];have hws:=jV (gl:=gl) k m s ls args (bO (dc (.mk kv nv sv lv av)) (decide (4≤k)) args fr);refine gc 3 ?_;refine oc (cv Ig rfl rfl (hws) (bl (bl .nil)) ?_);refine go 4 ?_;refine ed ((ae.mk k m s ls (bO (dc (.mk kv nv sv lv av)) (decide (4≤k)) args fr)).d) ?_;rw[bZ,if_neg h1]
   refine kc 5 [8,7,6,4,3,2] 0 ?_;obtain⟨k2,m2,s2,l2,a2,hget⟩:=bM (show i<args.length by omega);have hg1:=bF hget;have hg2:=nW (dc (.mk kv nv sv lv av)) (decide (4≤k)) fr hget;have hgg:=wu hg.2.1 hget;obtain⟨k3,m3,s3,l3,a3,hY⟩:=ae.case (bZ (dc (.mk kv nv sv lv av)) (.mk k2 m2 s2 l2 a2) (if decide (4≤k)=true∧i+1=args.length then fr+1 else fr));refine gc 10 ?_;refine oc (cv LZ rfl rfl (np k m s ls args i (by omega)) (bl (an .nil)) ?_);refine ko 2 [39,9,8,7,6,4,3,2] 0 ?_;refine xc (ι:=Unit) (fun _=>[(9,int (if decide (4≤k)=true∧i+1=args.length then fr+1 else fr))]) [8,7,6,4,3,2] (fun _=>True) rfl ?A5 ?B5
   case A5=>
    refine cJ (fun h12=>?_) (fun h12=>?_)
    ·refine gc 1 ?_;refine bi (()) rfl ?_ ?_
     ·trivial
     ·refine mo ?_ (ee rfl (by exact Fit.of_eq (by first|(rw[if_pos (by simp only[decide_eq_true_eq];omega)];rfl)|(rw[if_neg (by simp only[decide_eq_true_eq];omega)];rfl))) (aH (aH (aH (aH (aH (aH dC)))))))
      repeat (first|exact cG|refine bh ?_|refine cw ?_)
    refine gc 2 ?_;refine o1 (cF ?_);refine go 2 ?_;refine bi (()) rfl ?_ ?_
    ·trivial
    ·refine mo ?_ (ee rfl (by exact Fit.of_eq (by first|(rw[if_pos (by simp only[decide_eq_true_eq];omega)];rfl)|(rw[if_neg (by simp only[decide_eq_true_eq];omega)];rfl))) (aH (aH (aH (aH (aH (aH dC)))))))
     repeat (first|exact cG|refine bh ?_|refine cw ?_)
   case B5=>
    rintro _ hcut
    try dsimp only at hcut
    refine kp [9,8,7,6,4,3,2] ?_;have hihx:=ih k2 m2 s2 l2 a2 (if decide (4≤k)=true∧i+1=args.length then fr+1 else fr) (by omega) hgg (by split<;>omega) (by split<;>omega);rw[hY] at hihx hg2;have hnx:ay ((bO (dc (.mk kv nv sv lv av)) (decide (4≤k)) args fr).take i)++[[.v (.int .i64 k3),.v (.int .i64 m3),.v (.string s3),.sl 3 (bE l3),.sl 5 (ay a3)]]=ay ((bO (dc (.mk kv nv sv lv av)) (decide (4≤k)) args fr).take (i+1)):=wY hg2;have htl:=aN ((bO (dc (.mk kv nv sv lv av)) (decide (4≤k)) args fr).take i);have htk:=List.length_take (i:=i) (l:=bO (dc (.mk kv nv sv lv av)) (decide (4≤k)) args fr);refine gz [0,1,2,3] mixed ?_;refine A1 4 rfl (cr bA bG ⟨_,rfl,?_⟩ (he:=by exact(bV hget)));refine ga [5,6,7] ?_;refine A2 8 rfl (cv MS rfl rfl (hihx) (bl (bl (an .nil))) ?_);refine A2 9 rfl (gK dL [.tmp 50] bt ?_);refine A2 10 rfl (px dL ?_);refine ga [11] ?_;refine aS ?_;refine ke 2 [7,8,6,4,3,2] 2 ?_;refine o1 (cF ?_);refine go 2 ?_;rw[hnx];refine bk (i+1) rfl ?_ [0,1,2,3] mz;exact⟨by omega,by omega⟩
theorem p9(hB:B≤1125899906842624)(kv nv:Int)(sv:ByteArray)(lv:List aO)(av:List ae)(hgv:iA B (.mk kv nv sv lv av))(hsv:(ae.mk kv nv sv lv av).size≤1099511627776)(k m:Int)(s:ByteArray)(ls:List aO)(args:List ae)(hg:iA B (.mk k m s ls args))(hsz:(ae.mk k m s ls args).size≤1099511627776):
 cC Tryz.prog gl 82 [(ae.mk k m s ls args).d,(ae.mk kv nv sv lv av).d] (· =(dj (.mk k m s ls args) (.mk kv nv sv lv av)).d):=by
 have hc:=yo (gl:=gl) hB kv nv sv lv av hgv hsv _ k m s ls args 0 (Nat.le_refl _) hg (Int.le_refl _) (by omega);rw[dj];obtain⟨k1,m1,s1,l1,a1,hX⟩:=ae.case (bZ (dc (.mk kv nv sv lv av)) (.mk k m s ls args) 0)
 rw[hX] at hc ⊢;refine bD Tryz.func82 Tryz.ntmps82 ?_;refine gc 11 ?_;refine oc (cv MS rfl rfl (hc) (bl (bl (an .nil))) ?_);refine go 4 ?_;refine ez ?_;rfl
end
section
open Go Go.Vd Go.RowKit
attribute [local irreducible] bq bu dh ak bJ cQ
variable {g gl:Nat→List D}
theorem qQ(n:Int):cC Tryz.prog gl 83 [.v (.int .i64 n)] (· =(ae.mk 0 n .empty [] []).d):=by
 refine bD Tryz.func83 Tryz.ntmps83 ?_;refine gc 13 ?_;refine ed ((ae.mk 0 n .empty [] []).d) ?_;rfl
theorem jr(k:Int)(s:ByteArray)(args:List aO):cC Tryz.prog gl 57 [(aO.mk k s args).d] (· =(ae.mk 1 0 .empty [.mk k s args] []).d):=by
 refine bD Tryz.func57 Tryz.ntmps57 ?_;refine gc 9 ?_;refine oc (gK jg [.tmp 3] eK ?_);refine go 5 ?_;refine ed ((ae.mk 1 0 .empty [.mk k s args] []).d) ?_;rfl
theorem tu(k m:Int)(s:ByteArray)(ls:List aO)(args:List ae)(k2 m2:Int)(s2:ByteArray)(ls2:List aO)(args2:List ae):cC Tryz.prog gl 62 [(ae.mk k m s ls args).d,(ae.mk k2 m2 s2 ls2 args2).d] (· =(ae.mk 5 0 .empty [] [.mk k m s ls args,.mk k2 m2 s2 ls2 args2]).d):=by
 refine bD Tryz.func62 Tryz.ntmps62 ?_;refine gc 11 ?_;refine oc (gK dL [.tmp 5,.tmp 6] bt ?_);refine go 5 ?_;refine ed ((ae.mk 5 0 .empty [] [.mk k m s ls args,.mk k2 m2 s2 ls2 args2]).d) ?_;rfl
theorem Hj(k m:Int)(s:ByteArray)(ls:List aO)(args:List ae)(k2 m2:Int)(s2:ByteArray)(ls2:List aO)(args2:List ae):cC Tryz.prog gl 151 [(ae.mk k m s ls args).d,(ae.mk k2 m2 s2 ls2 args2).d] (· =(ae.mk 4 0 .empty [] [.mk k m s ls args,.mk k2 m2 s2 ls2 args2]).d):=by
 refine bD Tryz.func151 Tryz.ntmps151 ?_;refine gc 11 ?_;refine oc (gK dL [.tmp 5,.tmp 6] bt ?_);refine go 5 ?_;refine ed ((ae.mk 4 0 .empty [] [.mk k m s ls args,.mk k2 m2 s2 ls2 args2]).d) ?_;rfl
theorem dp(k m:Int)(s:ByteArray)(ls:List aO)(args:List ae)(k2 m2:Int)(s2:ByteArray)(ls2:List aO)(args2:List ae):cC Tryz.prog gl 66 [(ae.mk k m s ls args).d,(ae.mk k2 m2 s2 ls2 args2).d] (· =(ae.mk 3 0 .empty [] [.mk k m s ls args,.mk k2 m2 s2 ls2 args2]).d):=by
 refine bD Tryz.func66 Tryz.ntmps66 ?_;refine gc 11 ?_;refine oc (gK dL [.tmp 5,.tmp 6] bt ?_);refine go 5 ?_;refine ed ((ae.mk 3 0 .empty [] [.mk k m s ls args,.mk k2 m2 s2 ls2 args2]).d) ?_;rfl
theorem yR(l:List ByteArray)(i:Nat):(strs l).take ((i:Nat):Int).toNat=strs (l.take i):=by simp[strs,List.map_take]
theorem wU{l:List ByteArray}{i:Nat}(hi:i<l.length)(h:(l.take i).Nodup)(hm:vD l[i] (l.take i)=false):(l.take (i+1)).Nodup:=by
 rw[List.take_add_one,List.getElem?_eq_getElem hi,List.nodup_append];refine⟨h,by simp,fun x hx y hy e=>?_⟩;simp at hy;subst hy e;rw[iM.2 hx] at hm;cases hm
theorem v7(l:List ByteArray)(hb:l.length≤1099511627776):cC Tryz.prog gl 161 [ey l] fun d=> ∃b:Bool,d=.v (.bool b)∧(b=false→l.length≤6∧l.Nodup):=by
 have hlen:=cO l;refine bD Tryz.func161 Tryz.ntmps161 ?_;refine kc 12 [3,0] 0 ?_;refine lP (ι:=Nat) (fun i=>[(3,int i)]) [0] (fun i=>i≤l.length∧(l.take i).Nodup) (fun i=>l.length-i) (0) rfl ?I1 ?M1 ?H1
 case I1=>
  exact⟨Nat.zero_le _,by simp⟩
 case M1=>
  exact mz
 case H1=>
  rintro i hinv
  try dsimp only at hinv
  refine kc 0 [3,0] 9 ?_;refine cJ (fun h2=>?_) (fun h2=>?_)
  ·refine kc 5 [0] 9 ?_;refine ez ?_;have h9:=hinv.2;rw[List.take_of_length_le (by omega)] at h9;exact⟨_,rfl,fun h=>⟨by simp only[decide_eq_false_iff_not] at h;omega,h9⟩⟩
  refine kc 5 [3,0] 0 ?_;have hst:=yR l i;refine gz [0,1] mixed ?_;refine A1 2 rfl (cr pI tV ⟨_,rfl,?_⟩ (he:=by exact(j8 (by omega))));refine ga [3,4,5] ?_;refine A1 6 rfl (fC pI tV rfl rfl rfl rfl rfl rfl (by omega) (hst) ⟨_,rfl,?_⟩);refine A2 7 rfl (cv zV rfl rfl (jv (l[i]'(by omega)) (l.take i) (by rw[List.length_take];omega)) (an (an .nil)) ?_);refine ga [8] ?_;refine aS ?_;refine ke 1 [4,3,0] 5 ?_;refine cj (fun h5=>?_) (fun h5=>?_)
  ·refine kc 0 [] 11 ?_;refine ez ?_;exact⟨true,rfl,fun h=>by cases h⟩
  refine gc 5 ?_;refine o1 (cF ?_);refine go 2 ?_;refine bi (i+1) rfl ?_ mz;exact⟨⟨by omega,wU (by omega) hinv.2 h5⟩,by omega⟩
end
end Go.Proofs.YtndbnldjidciiaaGreatDoor
namespace Go.Vd
open Go Go.RowKit
theorem eB.fS:∀(l:eB) {ah:List ByteArray},ah.Nodup→(l.params ah).Nodup
 | .zero,_,h=>h
 | .succ a,_,h=>a.fS h
 | .max a b,_,h=>b.fS (a.fS h)
 | .imax a b,_,h=>b.fS (a.fS h)
 | .param s,ah,h=>by
  simp only[eB.params];split
  ·exact h
  ·rename_i h2;rw[List.nodup_append];refine⟨h,by simp,fun x hx y hy e=>?_⟩;simp at hy;subst hy e;exact h2 (iM.2 hx)
theorem eB.jl:∀(l:eB) {ah:List ByteArray} {p:ByteArray},p∈l.params ah→p∈ah∨l.has p
 | .zero,_,_,h=>.inl h
 | .succ a,_,_,h=>a.jl h
 | .max a b,_,_,h=>(b.jl h).elim (fun h=>(a.jl h).imp (fun h=>h) .inl) (fun h=>.inr (.inr h))
 | .imax a b,_,_,h=>(b.jl h).elim (fun h=>(a.jl h).imp (fun h=>h) .inl) (fun h=>.inr (.inr h))
 | .param s,ah,p,h=>by
  simp only[eB.params] at h;split at h
  ·exact .inl h
  ·rcases List.mem_append.1 h with h|h
   ·exact .inl h
   ·simp at h;exact .inr h
end Go.Vd
namespace Go.Proofs.YtndbnldjidciiaaGreatDoor
section
open Go Go.Vd Go.RowKit
attribute [local irreducible] bq bu dh ak bJ cQ
variable {g gl:Nat→List D}
variable {B:Int}
theorem DS{k n:Int}{s:ByteArray}{ls:List aO}{args:List ae}(h:iA B (.mk k n s ls args))(hk:k=3∨k=4∨k=5):∃k1 n1 s1 l1 a1 k2 n2 s2 l2 a2,args=[.mk k1 n1 s1 l1 a1,.mk k2 n2 s2 l2 a2]∧iA B (.mk k1 n1 s1 l1 a1)∧iA B (.mk k2 n2 s2 l2 a2):=by
 rcases h.2.2 with h2|h2|h2|h2|h2
 ·omega
 ·omega
 ·omega
 ·obtain ⟨_,hn,hs,hl,ha⟩:=h2
  match args,ha with
  |[⟨k1,n1,s1,l1,a1⟩,⟨k2,n2,s2,l2,a2⟩],_=>exact⟨_,_,_,_,_,_,_,_,_,_,rfl,h.2.1.1,h.2.1.2.1⟩
 ·omega
theorem dS:∀(n:Nat) (t:ae),t.size≤n→bf t<t.size+1:=by
 intro n
 induction n with
 |zero=>intro t h;obtain⟨k,m,s,ls,args,rfl⟩:=ae.case t;simp[ae.size] at h
 |succ n ih=>
  intro t h
  match t with
  | .mk k m s ls [a,b]=>
   rw[bf];simp only[ae.size,aj] at h ⊢;have:=ih b (by omega);split<;>omega
  | .mk k m s ls []=>simp[bf]
  | .mk k m s ls [a]=>simp[bf]
  | .mk k m s ls (a::b::c::r)=>simp[bf]
theorem iH(k m:Int)(s:ByteArray)(ls:List aO)(args:List ae)(hs:iA B (.mk k m s ls args))(hz:(ae.mk k m s ls args).size≤1099511627776):cC Tryz.prog gl 122 [(ae.mk k m s ls args).d] (· =.v (.int .i64 (bf (.mk k m s ls args)))):=by
 have hp:=dS _ (.mk k m s ls args) (Nat.le_refl _);generalize hr:bf (.mk k m s ls args)=r at hp ⊢;have hr2:=hr;refine bD Tryz.func122 Tryz.ntmps122 ?_;refine kc 13 [3,1] 0 ?_;refine lp (ι:=Nat×Int×Int×ByteArray×List aO×List ae) (fun⟨i,k',m',s',ls',args'⟩=>[(3,int i)]) (fun⟨i,k',m',s',ls',args'⟩=>[.cells [.d (.v (.int .i64 k')),.d (.v (.int .i64 m')),.d (.v (.string s')),.d (.sl 3 (bE ls')),.d (.sl 5 (ay args'))] 39]) [1] (fun⟨i,k',m',s',ls',args'⟩=>r=i+bf (.mk k' m' s' ls' args')∧iA B (.mk k' m' s' ls' args')) (fun⟨i,k',m',s',ls',args'⟩=>(ae.mk k' m' s' ls' args').size) ((0,k,m,s,ls,args)) ([0]) rfl ?I1 ?M1 ?H1
 case I1=>
  exact⟨by rw[Nat.zero_add];exact hr.symm,hs⟩
 case M1=>
  exact mz
 case H1=>
  rintro⟨i,k',m',s',ls',args'⟩ hinv
  try dsimp only at hinv
  refine kc 0 [3,1] 8 ?_;refine cJ (fun h2=>?_) (fun h2=>?_)
  ·refine kc 5 [3] 7 ?_;refine ez ?_;have hp1:=hinv.1;have:bf (.mk k' m' s' ls' args')=0:=(by match args' with|[a,b]=>(rw[bf,if_neg h2])|[]=>rfl|[a]=>rfl|a::b::c::r=>rfl);rw[this] at hp1;rw[hp1];rfl
  refine gc 4 ?_;obtain⟨k1,m1,s1,l1,a1,k2,m2,s2,l2,a2,rfl,hs1,hs2⟩:=DS hinv.2 (.inr (.inr h2));have hp1:=hinv.1;rw[bf,if_pos h2] at hp1;refine gc 2 ?_;refine o1 (cF ?_);refine ko 3 [3,1] 3 ?_;refine o1 (cr bA bG ?_ (he:=by exact(rfl)));refine go 4 ?_;refine bk (i+1,k2,m2,s2,l2,a2) rfl ?_ [0] mz;exact⟨⟨by rw[hinv.1,bf,if_pos h2];omega,hs2⟩,by simp only[ae.size,aj];omega⟩
def eg:Nat→ae→ae
 |0,t=>t
 |n+1,.mk k m s ls [a,b]=>eg n b
 |n+1,t=>t
theorem tC(n:Nat)(k m:Int)(s:ByteArray)(ls:List aO)(args:List ae)(hs:iA B (.mk k m s ls args))(hn:n≤bf (.mk k m s ls args))(hz:(ae.mk k m s ls args).size≤1099511627776):cC Tryz.prog gl 162 [(ae.mk k m s ls args).d,.v (.int .i64 n)] (· =(eg n (.mk k m s ls args)).d):=by
 have hp:=dS _ (.mk k m s ls args) (Nat.le_refl _);obtain⟨kR,mR,sR,lR,aR,hR⟩:=ae.case (eg n (.mk k m s ls args))
 rw[hR];refine bD Tryz.func162 Tryz.ntmps162 ?_;refine kc 13 [5,4,2,1] 0 ?_;refine lp (ι:=Nat×Int×Int×ByteArray×List aO×List ae) (fun⟨i,k',m',s',ls',args'⟩=>[(5,int i)]) (fun⟨i,k',m',s',ls',args'⟩=>[.cells [.d (.v (.int .i64 k')),.d (.v (.int .i64 m')),.d (.v (.string s')),.d (.sl 3 (bE ls')),.d (.sl 5 (ay args'))] 39,.cells [.d (.v (.int .i64 0)),.d (.v (.int .i64 0)),.d (.v (.string .empty)),.d (.v (.slice none 0 0)),.d (.v (.slice none 0 0))] 39]) [4,2,1] (fun⟨i,k',m',s',ls',args'⟩=>i≤n∧n-i≤bf (.mk k' m' s' ls' args')∧eg (n-i) (.mk k' m' s' ls' args')=.mk kR mR sR lR aR∧iA B (.mk k' m' s' ls' args')) (fun⟨i,k',m',s',ls',args'⟩=>n-i) ((0,k,m,s,ls,args)) ([0,1]) rfl ?I2 ?M2 ?H2
 case I2=>
  exact⟨Nat.zero_le _,hn,hR,hs⟩
 case M2=>
  exact mz
 case H2=>
  rintro⟨i,k',m',s',ls',args'⟩ hinv
  try dsimp only at hinv
  refine kc 0 [5,4,2,1] 8 ?_;refine cJ (fun h2=>?_) (fun h2=>?_)
  ·refine kc 6 [4,2] 0 ?_;have h9:=hinv.2.2.1;rw[show n-i=0 by omega] at h9;simp only[eg,ae.mk.injEq] at h9;obtain⟨rfl,rfl,rfl,rfl,rfl⟩:=h9;refine gc 6 ?_;refine ez ?_;rfl
  refine gc 4 ?_;have hk5:k'=5:=Classical.byContradiction fun h=>by
   have:bf (.mk k' m' s' ls' args')=0:=(by match args' with|[a,b]=>(rw[bf,if_neg h])|[]=>rfl|[a]=>rfl|a::b::c::r=>rfl);omega
  obtain⟨k1,m1,s1,l1,a1,k2,m2,s2,l2,a2,rfl,hs1,hs2⟩:=DS hinv.2.2.2 (.inr (.inr hk5));have hE:=hinv.2.2.1;have hp1:=hinv.2.1;rw[bf,if_pos hk5] at hp1;refine gc 3 ?_;refine o1 (cr bA bG ?_ (he:=by exact(rfl)));refine ko 5 [5,4,2,1] 2 ?_;refine o1 (cF ?_);refine go 2 ?_;refine bk (i+1,k2,m2,s2,l2,a2) rfl ?_ [0,1] mz;exact⟨⟨by omega,by omega,by rw[← hE,show n-i=(n-(i+1))+1 by omega];rfl,hs2⟩,show n-(i+1)<n-i by omega⟩
theorem jy(ctx:List ae)(k m:Int)(s:ByteArray)(ls:List aO)(args:List ae)(hb:ctx.length≤1099511627776):cC Tryz.prog gl 61 [.sl 5 (ay ctx),(ae.mk k m s ls args).d] (· =.sl 5 (ay (ctx++[.mk k m s ls args]))):=by
 have hlen:=aN ctx;refine bD Tryz.func61 Tryz.ntmps61 ?_;refine gc 15 ?_;refine oc (T:=fun _=>False) (iI dL rfl rfl rfl rfl rfl rfl (by simp only[List.length_cons,List.length_nil,Nat.reduceAdd];rfl) rfl rfl (by decide) (by first|decide|(simp only[maxLen,List.length_cons,List.length_nil,List.length_append,List.length_map];omega)|omega) rfl rfl rfl ?_);refine ko 3 [5,3] 4 ?_;refine oc (gK dL [.tmp 10] bt ?_);refine oc (px dL ?_);refine go 4 ?_;refine ez ?_;rw[dt];rfl
theorem rv(x:eB)(ps:List ByteArray)(hb:x.size≤1099511627776)(hp:ps.length≤1099511627776):cC Tryz.prog gl 56 [x.cB.d,ey ps] fun d=> ∃b:Bool,d=.v (.bool b)∧(b=true→∀p,x.has p→p∈ps):=by
 have hsz:=x.fP;have hpl:=x.eY [];have hplen:=x.cB.wJ [];obtain⟨k,s,args,hX⟩:=aO.case x.cB
 rw[hX] at hsz hpl hplen;rw[hX];have hq:=BU (gl:=gl) _ k s args [] (Nat.le_refl _) (by simp;omega);rw[hpl] at hq hplen;simp only[List.length_nil,Nat.zero_add] at hplen;have hsl:=cO (x.params []);refine bD Tryz.func56 Tryz.ntmps56 ?_;refine gc 7 ?_;refine bz 9 1 rfl ?_;refine gc 2 ?_;refine oc (ck Di rfl rfl (hq) [1] rfl (qZ .nil) (bl (.cons (.nil rfl) .nil)) ?_);refine ko 4 [5,1] 6 ?_;refine lP (ι:=Nat) (fun i=>[(6,int i)]) [5,1] (fun i=>i≤(x.params []).length∧∀p∈(x.params []).take i,p∈ps) (fun i=>(x.params []).length-i) (0) rfl ?I3 ?M3 ?H3
 case I3=>
  exact⟨Nat.zero_le _,by simp⟩
 case M3=>
  exact mz
 case H3=>
  rintro i hinv
  try dsimp only at hinv
  refine kc 0 [6,5,1] 9 ?_;refine cJ (fun h3=>?_) (fun h3=>?_)
  ·refine kc 5 [] 6 ?_;refine ez ?_;have h9:=hinv.2;rw[List.take_of_length_le (by omega)] at h9;exact⟨true,rfl,fun _ p hp=>h9 p (x.jt hp)⟩
  refine kc 4 [6,5,1] 4 ?_;refine o1 (FY pI tV ?_ (he:=by exact(j8 (by omega))));refine go 2 ?_;refine oc (cv zV rfl rfl (jv ((x.params [])[i]'(by omega)) ps (by omega)) (an (an .nil)) ?_);refine ko 3 [7,6,5,1] 6 ?_;refine cj (fun h6=>?_) (fun h6=>?_)
  ·refine kc 0 [] 11 ?_;refine ez ?_;exact⟨false,rfl,fun h=>by cases h⟩
  refine gc 5 ?_;refine o1 (cF ?_);refine go 2 ?_;refine bi (i+1) rfl ?_ mz
  ·refine ⟨⟨by omega,fun p hp=>?_⟩,by omega⟩;rw[List.take_add_one,List.getElem?_eq_getElem (by omega)] at hp;rcases List.mem_append.1 hp with hp|hp
   ·exact hinv.2 p hp
   ·simp at hp;subst hp;exact iM.1 h6
end
section
open Go Go.Vd Go.RowKit
attribute [local irreducible] bq bu dh ak bJ cQ
variable {g gl:Nat→List D}
def ba(es:List cu)(w:Bool):Ob:=.cells [.own 1 21 (pC es),.d (.v (.bool w))] 47
def tO(k m:Int)(s:ByteArray)(ls:List aO)(args:List ae):Ob:=.cells [.d (.v (.int .i64 k)),.d (.v (.int .i64 m)),.d (.v (.string s)),.d (.sl 3 (bE ls)),.d (.sl 5 (ay args))] 39
def zO:Ob:=.cells [.d (.v (.int .i64 0)),.d (.v (.int .i64 0)),.d (.v (.string .empty)),.d (.v (.slice none 0 0)),.d (.v (.slice none 0 0))] 39
def tR:Ob:=.row 39 5
def aZ:Ob:=.row 63 21
def Qp(es:List cu):Prop:=es.length≤1099511627776∧∀e∈es,e.d.cs.length≤1099511627776∧e.d.nm.size≤1099511627776
variable {nm:ByteArray} {es:List cu} {i:Nat} {e:cu}
theorem HD(hg:es[i]? =some e)(h:e.d.nm=nm):bK nm (es.drop i)=(e.d.k,e,0):=by
 rw[drop_cons hg,bK,if_pos h]
theorem J4{j:Nat}(hg:es[i]? =some e)(h:¬e.d.nm=nm)(hi:eG nm e.d.cs=some j):bK nm (es.drop i)=(4,e,j):=by
 rw[drop_cons hg,bK,if_neg h,hi]
theorem ES(hg:es[i]? =some e)(h:¬e.d.nm=nm)(hi:eG nm e.d.cs=none)(hr:e.d.k=3∧e.d.nm++wC=nm):bK nm (es.drop i)=(5,e,0):=by
 rw[drop_cons hg,bK,if_neg h,hi];exact if_pos hr
theorem ET(hg:es[i]? =some e)(h:¬e.d.nm=nm)(hi:eG nm e.d.cs=none)(hr:¬(e.d.k=3∧e.d.nm++wC=nm)):bK nm (es.drop i)=bK nm (es.drop (i+1)):=by
 rw[drop_cons hg,bK,if_neg h,hi];exact if_neg hr
theorem find_spec(es:List cu)(w:Bool)(nm:ByteArray)(hE:Qp es):
 er Tryz.prog gl 47 [ba es w,aZ] [.b0 0 0,.d (.v (.string nm))] fun out ob'=>out=.ret (.d (.bY [.v (.int .i64 (bK nm es).1),(bK nm es).2.1.dd,.v (.int .i64 (bK nm es).2.2)]))∧ob'=[ba es w,aZ]:=by
 have hlen:=tB es;have hb:=hE.1;rcases hF:bK nm es with⟨kf,⟨⟨kd,sd,pd,⟨k1,n1,s1,l1,a1⟩,⟨k2,n2,s2,l2,a2⟩,ad,cd'⟩,rpd,⟨k3,n3,s3,l3,a3⟩⟩,jf⟩;refine bS Tryz.func47 Tryz.ntmps47 2 ?_;refine kc 14 [7,5,0,1] 0 ?_;refine lp (ι:=Nat) (fun i=>[(7,int i)]) (fun i=>[ba es w,aZ,.cells [.d (.v (.int .i64 0)),.d (.v (.string .empty)),.d (.v (.slice none 0 0)),.d (.v (.int .i64 0)),.d (.v (.int .i64 0)),.d (.v (.string .empty)),.d (.v (.slice none 0 0)),.d (.v (.slice none 0 0)),.d (.v (.int .i64 0)),.d (.v (.int .i64 0)),.d (.v (.string .empty)),.d (.v (.slice none 0 0)),.d (.v (.slice none 0 0)),.d (.v (.int .i64 0)),.d (.v (.slice none 0 0)),.d (.v (.slice none 0 0)),.d (.v (.int .i64 0)),.d (.v (.int .i64 0)),.d (.v (.string .empty)),.d (.v (.slice none 0 0)),.d (.v (.slice none 0 0))] 63]) [5,0,1] (fun i=>i≤es.length∧bK nm es=bK nm (es.drop i)) (fun i=>es.length-i) (0) ([0,1,2]) rfl ?I2 ?M2 ?H2
 case I2=>
  exact⟨Nat.zero_le _,rfl⟩
 case M2=>
  exact mz
 case H2=>
  rintro i hinv
  try dsimp only at hinv
  refine kc 0 [7,5,0,1] 12 ?_;refine cJ (fun h2=>?_) (fun h2=>?_)
  ·refine kc 6 [5] 0 ?_;rw[hinv.2,List.drop_of_length_le (by omega)] at hF;simp only[bK,Ac,Mj,aP,Prod.mk.injEq,cu.mk.injEq,dN.mk.injEq,ae.mk.injEq,dN.k] at hF;obtain⟨rfl,⟨⟨rfl,rfl,rfl,⟨rfl,rfl,rfl,rfl,rfl⟩,⟨rfl,rfl,rfl,rfl,rfl⟩,rfl,rfl⟩,rfl,rfl,rfl,rfl,rfl,rfl⟩,rfl⟩:=hF;refine gc 8 ?_;refine eo (.bY [.v (.int .i64 0),Ac.dd,.v (.int .i64 0)]) [0,1] [ba es w,aZ] ?_
   ·exact ⟨rfl,rfl⟩
  refine kc 5 [7,5,0,1] 0 ?_;obtain⟨ek,en,ep,ek1,en1,es1,el1,ea1,ek2,en2,es2,el2,ea2,ea,ec,erp,ek3,en3,es3,el3,ea3,hget⟩:=Gj (show i<es.length by omega);have hcl:=iR ec;have hcb:ec.length≤1099511627776∧en.size≤1099511627776:=hE.2 _ (List.mem_of_getElem? hget);refine gc 6 ?_;refine o1 (FY Bi DJ ?_ (he:=by exact(rZ hget)));refine ko 7 [8,7,5,0,1] 8 ?_;refine cj (fun h5=>?_) (fun h5=>?_)
  ·refine kc 1 [8,7,5,0] 0 ?_;rw[hinv.2,HD hget h5] at hF;simp only[Prod.mk.injEq,cu.mk.injEq,dN.mk.injEq,ae.mk.injEq,dN.k] at hF;obtain⟨rfl,⟨⟨rfl,rfl,rfl,⟨rfl,rfl,rfl,rfl,rfl⟩,⟨rfl,rfl,rfl,rfl,rfl⟩,rfl,rfl⟩,rfl,rfl,rfl,rfl,rfl,rfl⟩,rfl⟩:=hF;refine gz [0,1,2,3,4,5,6] mixed ?_;refine A1 7 rfl (FY Bi DJ ⟨_,rfl,?_⟩ (he:=by exact(rZ hget)));refine ga [8,9] ?_;refine A2 10 rfl (dP DH ?_);refine ga [11] ?_;refine aS ?_;refine ge 8 ?_;refine sy [0,1] [ba es w,aZ] ?_
   ·exact ⟨rfl,rfl⟩
  refine kc 4 [8,7,5,0,1] 0 ?_;have houter:=hinv;refine gc 5 ?_;refine lP (ι:=Nat) (fun j=>[(9,int j)]) [8,7,5,0,1] (fun j=>j≤ec.length∧∀q x,q<j→ec[q]? =some x→¬x.1=nm) (fun j=>ec.length-j) (0) rfl ?I3 ?M3 ?H3
  case I3=>
   exact⟨Nat.zero_le _,fun q x h=>absurd h (Nat.not_lt_zero _)⟩
  case M3=>
   exact mz
  case H3=>
   rintro j hinv
   try dsimp only at hinv
   refine kc 0 [9,8,7,5,0,1] 10 ?_;refine cj (fun h8=>?_) (fun h8=>?_)
   ·refine kc 5 [9,8,7,5,0,1] 0 ?_;obtain⟨cn,ck,cm,cs,cl,ca,hgc⟩:=qX (show j<ec.length by omega);refine gc 4 ?_;refine o1 (cr yb Af ?_ (he:=by exact(o9 hgc)));refine go 6 ?_;refine cJ (fun h10=>?_) (fun h10=>?_)
    ·refine kc 3 [9,8,7,5,0,1] 2 ?_;refine o1 (cF ?_);refine go 2 ?_;refine bi (j+1) rfl ?_ mz
     ·refine ⟨⟨by omega,fun q x hq hx=>?_⟩,by omega⟩;rcases Nat.lt_or_ge q j with h|h
      ·exact hinv.2 q x h hx
      ·obtain rfl:q=j:=by omega
       rw[hgc] at hx;cases hx;exact h10
    refine kc 1 [9,7,5,0] 0 ?_;have hix:eG nm ec=some j:=xN hinv.2 hgc h10;rw[houter.2,J4 hget h5 hix] at hF;simp only[Prod.mk.injEq,cu.mk.injEq,dN.mk.injEq,ae.mk.injEq,dN.k] at hF;obtain⟨rfl,⟨⟨rfl,rfl,rfl,⟨rfl,rfl,rfl,rfl,rfl⟩,⟨rfl,rfl,rfl,rfl,rfl⟩,rfl,rfl⟩,rfl,rfl,rfl,rfl,rfl,rfl⟩,rfl⟩:=hF;refine gz [0,1,2,3,4] mixed ?_;refine A1 5 rfl (FY Bi DJ ⟨_,rfl,?_⟩ (he:=by exact(rZ hget)));refine ga [6,7,8] ?_;refine A2 9 rfl (dP DH ?_);refine ga [10] ?_;refine aS ?_;refine ge 12 ?_;refine sy [0,1] [ba es w,aZ] ?_
    ·exact ⟨rfl,rfl⟩
   refine kc 6 [8,7,5,0,1] 0 ?_;have hix:eG nm ec=none:=vp fun q x hx=>hinv.2 q x (by have:=(List.getElem?_eq_some_iff.1 hx).1;omega) hx
   replace hinv:=houter
   refine gc 5 ?_;refine' oa (yt:=71) (d:=66) 5 ?a1 ?b1 ?_
   case a1=>
    intro hc hK;refine go 2 ?_;refine gy ?_;refine o1 (uD ?_ (hb:=by(try simp only[ByteArray.size_append,qD,List.size_toArray,List.length_cons,List.length_nil]);omega));refine go 2 ?_;exact hK [_,_,_,_,_] rfl rfl
   case b1=>
    intro _ hK;refine go 5 ?_;exact hK [_,_,_,_,_] rfl
   refine go 2 ?_;refine cJ (fun h12=>?_) (fun h12=>?_)
   ·refine kc 3 [7,5,0,1] 2 ?_;refine o1 (cF ?_);refine go 2 ?_;refine bk (i+1) rfl ?_ [0,1,2] mz;exact⟨⟨by omega,by rw[hinv.2];exact ET hget h5 hix (by rintro⟨h,h'⟩;rcases h12 with h2|h2;exact h2 h;exact h2 h')⟩,by omega⟩
   refine kc 1 [7,5,0] 0 ?_;rw[hinv.2,ES hget h5 hix h12] at hF;simp only[Prod.mk.injEq,cu.mk.injEq,dN.mk.injEq,ae.mk.injEq,dN.k] at hF;obtain⟨rfl,⟨⟨rfl,rfl,rfl,⟨rfl,rfl,rfl,rfl,rfl⟩,⟨rfl,rfl,rfl,rfl,rfl⟩,rfl,rfl⟩,rfl,rfl,rfl,rfl,rfl,rfl⟩,rfl⟩:=hF;refine gz [0,1,2,3,4] mixed ?_;refine A1 5 rfl (FY Bi DJ ⟨_,rfl,?_⟩ (he:=by exact(rZ hget)));refine ga [6,7] ?_;refine A2 8 rfl (dP DH ?_);refine ga [9] ?_;refine aS ?_;refine ge 7 ?_;refine sy [0,1] [ba es w,aZ] ?_
   ·exact ⟨rfl,rfl⟩
end
section
open Go Go.Vd Go.RowKit
attribute [local irreducible] bq bu dh ak bJ cQ
variable {g gl:Nat→List D}
theorem gw:∀{ls:List aO} {i:Nat} {l:aO},ls[i]? =some l→bg (ls.take (i+1))=bg (ls.take i)+l.size
 |[],i,l,h=>by simp at h
 |a::r,0,l,h=>by simp at h;subst h;simp[bg]
 |a::r,i+1,l,h=>by
  have:=gw (ls:=r) (i:=i) (l:=l) (by simpa using h);simp only[List.take_succ_cons,bg,this];omega
theorem gu:∀(ls:List aO) (i:Nat),bg (ls.take i)≤bg ls
 |[],i=>by simp
 |a::r,0=>by simp[bg]
 |a::r,i+1=>by have:=gu r i;simp only[List.take_succ_cons,bg];omega
theorem mn:∀{ls:List ae} {i:Nat} {l:ae},ls[i]? =some l→aj (ls.take (i+1))=aj (ls.take i)+l.size
 |[],i,l,h=>by simp at h
 |a::r,0,l,h=>by simp at h;subst h;simp[aj]
 |a::r,i+1,l,h=>by
  have:=mn (ls:=r) (i:=i) (l:=l) (by simpa using h);simp only[List.take_succ_cons,aj,this];omega
theorem kn:∀(ls:List ae) (i:Nat),aj (ls.take i)≤aj ls
 |[],i=>by simp
 |a::r,0=>by simp[aj]
 |a::r,i+1=>by have:=kn r i;simp only[List.take_succ_cons,aj];omega
theorem eH:∀{l:List aO} {i:Nat} {t:aO},l[i]? =some t→t.size≤bg l
 |[],i,t,h=>by simp at h
 |a::r,0,t,h=>by simp at h;subst h;simp[bg]
 |a::r,i+1,t,h=>by
  have:=eH (l:=r) (i:=i) (t:=t) (by simpa using h);simp[bg];omega
theorem kj:∀l:List aO,l.length≤bg l
 |[]=>by simp
 | .mk k s args::r=>by have:=kj r;simp[bg,aO.size];omega
theorem pt:∀(n:Nat) (k:Int) (s:ByteArray) (args:List aO) (most:Int),(aO.mk k s args).size≤n→(aO.mk k s args).size≤1152921504606846976→0≤most→most≤1099511627776→
 cC Tryz.prog gl 103 [(aO.mk k s args).d,.v (.int .i64 most)] fun d=> ∃r:Int,d=.v (.int .i64 r)∧1≤r∧r≤(aO.mk k s args).size∧(r≤most→r=(aO.mk k s args).size):=by
 intro n
 induction n with
 |zero=>intro k s args most h;simp[aO.size] at h
 |succ n ih=>
  intro k s args most hsz hb hm0 hm1;simp only[aO.size] at hsz hb;have hal:=bU args;have hsl:=kj args;refine bD Tryz.func103 Tryz.ntmps103 ?_;refine kc 18 [6,5,2,1] 0 ?_;refine lP (ι:=Nat×Int) (fun⟨i,c⟩=>[(6,int i),(5,int c)]) [2,1] (fun⟨i,c⟩=>i≤args.length∧1≤c∧c≤1+bg (args.take i)∧(c≤most→c=1+bg (args.take i))) (fun⟨i,c⟩=>args.length-i) ((0,1)) rfl ?I6 ?M6 ?H6
  case I6=>
   exact⟨Nat.zero_le _,by omega,by simp[bg],fun _=>by simp[bg]⟩
  case M6=>
   exact mz
  case H6=>
   rintro⟨i,c⟩ hinv
   try dsimp only at hinv
   refine kc 0 [6,5,2,1] 9 ?_;refine' oa (yt:=16) (d:=13) 3 ?a1 ?b1 ?_
   case a1=>
    intro hc hK;refine go 3 ?_;exact hK [_,_,_] rfl rfl
   case b1=>
    intro _ hK;refine go 3 ?_;exact hK [_,_,_] rfl
   refine go 2 ?_;refine cJ (fun h3=>?_) (fun h3=>?_)
   ·refine kc 5 [5] 2 ?_;have hg2:=gu args i;have hend:c≤most→i=args.length:=(fun h=>by omega);refine go 5 ?_;refine ez ?_;exact⟨c,rfl,hinv.2.1,by simp only[aO.size];omega,fun h=>by rw[hinv.2.2.2 h,hend h,List.take_length];simp only[aO.size];omega⟩
   refine kc 5 [6,5,2,1] 0 ?_;obtain⟨k',s',a',hget⟩:=dg (show i<args.length by omega);have hg1:=eH hget;have hg2:=gu args i;refine gc 4 ?_;refine o1 (cr fm fG ?_ (he:=by exact(dB hget)));refine go 3 ?_;refine o1 (iz ?_);refine oc (T:=fun _=>False) (bH Dh rfl rfl rfl rfl (ih k' s' a' (most-c) (by omega) (by omega) (by omega) (by omega)) (bl (an .nil)) (fun d hd=>?_));obtain⟨r,rfl,hr1,hr2,hr3⟩:=hd;refine ko 3 [7,6,5,2,1] 3 ?_;refine o1 (cF ?_);refine ko 4 [5,6,2,1] 2 ?_;refine o1 (cF ?_);refine go 2 ?_;refine bi (i+1,c+r) rfl ?_ mz;exact⟨⟨by omega,by omega,by rw[gw hget];omega,fun h=>by rw[gw hget];omega⟩,show args.length-(i+1)<args.length-i by omega⟩
theorem kN:∀(n:Nat) (k m:Int) (s:ByteArray) (ls:List aO) (args:List ae) (most:Int),(ae.mk k m s ls args).size≤n→(ae.mk k m s ls args).size≤1152921504606846976→0≤most→most≤1099511627776→
 cC Tryz.prog gl 102 [(ae.mk k m s ls args).d,.v (.int .i64 most)] fun d=> ∃r:Int,d=.v (.int .i64 r)∧1≤r∧r≤(ae.mk k m s ls args).size∧(r≤most→r=(ae.mk k m s ls args).size):=by
 intro n
 induction n with
 |zero=>intro k m s ls args most h;simp[ae.size] at h
 |succ n ih=>
  intro k m s ls args most hsz hb hm0 hm1;simp only[ae.size] at hsz hb;have hal:=aN args;have hll:=bU ls;have hsl:=kj ls;have hsa:=br args;refine bD Tryz.func102 Tryz.ntmps102 ?_;refine kc 18 [6,5,2,1] 0 ?_;refine lP (ι:=Nat×Int) (fun⟨i,c⟩=>[(6,int i),(5,int c)]) [2,1] (fun⟨i,c⟩=>i≤ls.length∧1≤c∧c≤1+bg (ls.take i)∧(c≤most→c=1+bg (ls.take i))) (fun⟨i,c⟩=>ls.length-i) ((0,1)) rfl ?I7 ?M7 ?H7
  case I7=>
   exact⟨Nat.zero_le _,by omega,by simp[bg],fun _=>by simp[bg]⟩
  case M7=>
   exact mz
  case H7=>
   rintro⟨i,c⟩ hinv
   try dsimp only at hinv
   refine kc 0 [6,5,2,1] 9 ?_;refine' oa (yt:=18) (d:=15) 3 ?a2 ?b2 ?_
   case a2=>
    intro hc hK;refine go 3 ?_;exact hK [_,_,_] rfl rfl
   case b2=>
    intro _ hK;refine go 3 ?_;exact hK [_,_,_] rfl
   refine go 2 ?_;refine cj (fun h3=>?_) (fun h3=>?_)
   ·refine kc 5 [6,5,2,1] 0 ?_;obtain⟨k',s',a',hget⟩:=dg (show i<ls.length by omega);have hg1:=eH hget;have hg2:=gu ls i;refine gc 4 ?_;refine o1 (cr fm fG ?_ (he:=by exact(dB hget)));refine go 3 ?_;refine o1 (iz ?_);refine oc (T:=fun _=>False) (bH Dh rfl rfl rfl rfl (pt _ k' s' a' (most-c) (Nat.le_refl _) (by omega) (by omega) (by omega)) (bl (an .nil)) (fun d hd=>?_));obtain⟨r,rfl,hr1,hr2,hr3⟩:=hd;refine ko 3 [7,6,5,2,1] 3 ?_;refine o1 (cF ?_);refine ko 4 [5,6,2,1] 2 ?_;refine o1 (cF ?_);refine go 2 ?_;refine bi (i+1,c+r) rfl ?_ mz;exact⟨⟨by omega,by omega,by rw[gw hget];omega,fun h=>by rw[gw hget];omega⟩,show ls.length-(i+1)<ls.length-i by omega⟩
   refine kc 7 [5,2,1] 0 ?_;have hg3:=gu ls i;have hc2:c≤1+bg ls:=(by omega);have hc3:c≤most→c=1+bg ls:=(fun h=>by
    have h4:i=ls.length:=by omega
    rw[hinv.2.2.2 h,h4,List.take_length])
   have hc1:=hinv.2.1;refine gc 5 ?_;refine lP (ι:=Nat×Int) (fun⟨j,e⟩=>[(8,int j),(5,int e)]) [2,1] (fun⟨j,e⟩=>j≤args.length∧1≤e∧e≤1+bg ls+aj (args.take j)∧(e≤most→e=1+bg ls+aj (args.take j))) (fun⟨j,e⟩=>args.length-j) ((0,c)) rfl ?I8 ?M8 ?H8
   case I8=>
    exact⟨Nat.zero_le _,hc1,by simp[aj];omega,fun h=>by simp[aj];exact hc3 h⟩
   case M8=>
    exact mz
   case H8=>
    rintro⟨j,e⟩ hinv
    try dsimp only at hinv
    refine kc 0 [8,5,2,1] 9 ?_;refine' oa (yt:=42) (d:=39) 3 ?a3 ?b3 ?_
    case a3=>
     intro hc hK;refine go 3 ?_;exact hK [_,_,_] rfl rfl
    case b3=>
     intro _ hK;refine go 3 ?_;exact hK [_,_,_] rfl
    refine go 2 ?_;refine cJ (fun h8=>?_) (fun h8=>?_)
    ·refine kc 5 [5] 2 ?_;have hg2:=kn args j;have hend:e≤most→j=args.length:=(fun h=>by omega);refine go 5 ?_;refine ez ?_;exact⟨e,rfl,hinv.2.1,by simp only[ae.size];omega,fun h=>by rw[hinv.2.2.2 h,hend h,List.take_length];simp only[ae.size];omega⟩
    refine kc 5 [8,5,2,1] 0 ?_;obtain⟨k2,m2,s2,l2,a2,hget⟩:=bM (show j<args.length by omega);have hg1:=bF hget;have hg2:=kn args j;refine gc 4 ?_;refine o1 (cr bA bG ?_ (he:=by exact(bV hget)));refine go 3 ?_;refine o1 (iz ?_);refine oc (T:=fun _=>False) (bH vu rfl rfl rfl rfl (ih k2 m2 s2 l2 a2 (most-e) (by omega) (by omega) (by omega) (by omega)) (bl (an .nil)) (fun d hd=>?_));obtain⟨r,rfl,hr1,hr2,hr3⟩:=hd;refine ko 3 [9,8,5,2,1] 3 ?_;refine o1 (cF ?_);refine ko 4 [5,8,2,1] 2 ?_;refine o1 (cF ?_);refine go 2 ?_;refine bi ((j+1,e+r)) rfl ?_ ?_
    ·exact ⟨⟨by omega,by omega,by rw[mn hget];omega,fun h=>by rw[mn hget];omega⟩,show args.length-(j+1)<args.length-j by omega⟩
    ·exact mz
end
section
open Go Go.Vd Go.RowKit
attribute [local irreducible] bq bu dh ak bJ cQ
variable {g gl:Nat→List D}
mutual
theorem tN:∀(t:ae) (v:Int),mi t v≤t.size
 | .mk k n s ls args,v=>by
  have:=rA args (decide (4≤k)) v;rw[mi];simp only[ae.size];split<;>omega
theorem rA:∀(l:List ae) (b:Bool) (v:Int),jI b l v≤aj l
 |[],b,v=>by simp[jI]
 |t::r,b,v=>by
  have h1:=tN t (if b&&r.isEmpty then v+1 else v);have h2:=rA r b v;simp only[jI,aj];omega
end
variable {l:List ae} {i:Nat} {x:ae}
theorem v5{b:Bool}{v:Int}(h:l[i]? =some x):jI b (l.drop i) v=mi x (if b=true∧i+1=l.length then v+1 else v)+jI b (l.drop (i+1)) v:=by
 obtain⟨hi,rfl⟩:=List.getElem?_eq_some_iff.1 h;rw[List.drop_eq_getElem_cons hi,jI];have e:(b&&(l.drop (i+1)).isEmpty)=true↔(b=true∧i+1=l.length):=by
  rw[Bool.and_eq_true,List.isEmpty_iff,List.drop_eq_nil_iff];constructor
  ·rintro ⟨h1,h2⟩;exact⟨h1,by omega⟩
  ·rintro ⟨h1,h2⟩;exact⟨h1,by omega⟩
 by_cases hc:b=true∧i+1=l.length
 ·rw [if_pos (e.2 hc),if_pos hc]
 ·rw [if_neg (fun h=>hc (e.1 h)),if_neg hc]
variable {B:Int}
theorem Ep:∀(n:Nat) (k m:Int) (s:ByteArray) (ls:List aO) (args:List ae) (v:Int),(ae.mk k m s ls args).size≤n→(ae.mk k m s ls args).size≤1099511627776→0≤v→v+(ae.mk k m s ls args).size≤2199023255552→iA B (.mk k m s ls args)→
 cC Tryz.prog gl 132 [(ae.mk k m s ls args).d,.v (.int .i64 v)] (· =.v (.int .i64 (mi (.mk k m s ls args) v))):=by
 intro n
 induction n with
 |zero=>intro k m s ls args v h;simp[ae.size] at h
 |succ n ih=>
  intro k m s ls args v hsz hb hv0 hv1 hs;have hus:=tN (.mk k m s ls args) v;simp only[ae.size] at hsz hb hv1 hus;have hal:=aN args;have hsa:=br args;have hss:=rA args (decide (4≤k)) v;generalize hr:mi (.mk k m s ls args) v=r at hus ⊢;rw[mi] at hr;refine bD Tryz.func132 Tryz.ntmps132 ?_;refine gc 13 ?_;refine' oa (yt:=16) (d:=12) 4 ?a1 ?b1 ?_
  case a1=>
   intro hc hK;refine go 4 ?_;exact hK [_,_,_,_] rfl rfl
  case b1=>
   intro _ hK;refine go 4 ?_;exact hK [_,_,_,_] rfl
  refine go 2 ?_;refine cj (fun h1=>?_) (fun h1=>?_)
  ·refine kc 0 [] 7 ?_;refine ez ?_
   (rw[if_pos (by omega)] at hr;rw[← hr];rfl)
  refine kc 3 [2,1] 0 ?_;rw[if_neg (by omega)] at hr;refine gc 11 ?_;refine lP (ι:=Nat×Nat) (fun⟨i,c⟩=>[(6,int i),(5,int c)]) [2,1] (fun⟨i,c⟩=>i≤args.length∧c+jI (decide (4≤k)) (args.drop i) v=r) (fun⟨i,c⟩=>args.length-i) ((0,0)) rfl ?I2 ?M2 ?H2
  case I2=>
   exact⟨Nat.zero_le _,by simpa using hr⟩
  case M2=>
   exact mz
  case H2=>
   rintro⟨i,c⟩ hinv
   try dsimp only at hinv
   refine kc 0 [6,5,2,1] 10 ?_;refine cJ (fun h5=>?_) (fun h5=>?_)
   ·refine kc 5 [5] 7 ?_;refine ez ?_;have h9:=hinv.2;rw[List.drop_of_length_le (by omega)] at h9;simp only[jI,Nat.add_zero] at h9;rw[← h9]
   refine kc 5 [6,5,2,1] 0 ?_;obtain⟨k2,m2,s2,l2,a2,hget⟩:=bM (show i<args.length by omega);have hg1:=bF hget;have hg3:=v5 (b:=decide (4≤k)) (v:=v) hget;have hgg:=wu hs.2.1 hget;refine gc 10 ?_;refine oc (cv LZ rfl rfl (np k m s ls args i (by omega)) (bl (an .nil)) ?_);refine ko 2 [28,7,6,5,2,1] 0 ?_;refine xc (ι:=Unit) (fun _=>[(7,int (if decide (4≤k)=true∧i+1=args.length then v+1 else v))]) [6,5,2,1] (fun _=>True) rfl ?A3 ?B3
   case A3=>
    refine cJ (fun h8=>?_) (fun h8=>?_)
    ·refine gc 1 ?_;refine bi (()) rfl ?_ ?_
     ·trivial
     ·refine mo ?_ (ee rfl (by exact Fit.of_eq (by first|(rw[if_pos (by simp only[decide_eq_true_eq];omega)];rfl)|(rw[if_neg (by simp only[decide_eq_true_eq];omega)];rfl))) (aH (aH (aH (aH dC)))))
      repeat (first|exact cG|refine bh ?_)
    refine gc 2 ?_;refine o1 (cF ?_);refine go 2 ?_;refine bi (()) rfl ?_ ?_
    ·trivial
    ·refine mo ?_ (ee rfl (by exact Fit.of_eq (by first|(rw[if_pos (by simp only[decide_eq_true_eq];omega)];rfl)|(rw[if_neg (by simp only[decide_eq_true_eq];omega)];rfl))) (aH (aH (aH (aH dC)))))
     repeat (first|exact cG|refine bh ?_)
   case B3=>
    rintro _ hcut
    try dsimp only at hcut
    refine kc 0 [7,6,5,2,1] 1 ?_;have hihx:=ih k2 m2 s2 l2 a2 (if decide (4≤k)=true∧i+1=args.length then v+1 else v) (by omega) (by omega) (by split<;>omega) (by split<;>omega) hgg;have hle:c+mi (.mk k2 m2 s2 l2 a2) (if decide (4≤k)=true∧i+1=args.length then v+1 else v)≤r:=(by have:=hinv.2;omega);refine gc 4 ?_;refine o1 (cr bA bG ?_ (he:=by exact(bV hget)));refine go 2 ?_;refine oc (cv MN rfl rfl (hihx) (bl (an .nil)) ?_);refine ko 3 [8,6,5,2,1] 3 ?_;refine o1 (cF ?_);refine ko 4 [5,6,2,1] 2 ?_;refine o1 (cF ?_);refine go 2 ?_;refine bi (i+1,c+mi (.mk k2 m2 s2 l2 a2) (if decide (4≤k)=true∧i+1=args.length then v+1 else v)) rfl ?_ mz;exact⟨⟨by omega,by rw[← hinv.2,v5 hget];omega⟩,show args.length-(i+1)<args.length-i by omega⟩
theorem Er{B':Int}(k m:Int)(s:ByteArray)(ls:List aO)(args:List ae)(k2 m2:Int)(s2:ByteArray)(ls2:List aO)(args2:List ae)(hs1:(ae.mk k m s ls args).size≤1099511627776)(hs2:(ae.mk k2 m2 s2 ls2 args2).size≤1099511627776)(h1:iA B (.mk k m s ls args)):
 cC Tryz.prog gl 106 [(ae.mk k m s ls args).d,(ae.mk k2 m2 s2 ls2 args2).d] fun d=> ∃b:Bool,d=.v (.bool b)∧(b=false→(ae.mk k m s ls args).size+mi (.mk k m s ls args) 0*(ae.mk k2 m2 s2 ls2 args2).size≤20000):=by
 have hus:=tN (.mk k m s ls args) 0;refine bD Tryz.func106 Tryz.ntmps106 ?_;refine gc 10 ?_;refine oc (T:=fun _=>False) (bH vu rfl rfl rfl rfl (kN _ k m s ls args 20000 (Nat.le_refl _) (by omega) (by omega) (by omega)) (bl (an .nil)) (fun d hd=>?_));obtain⟨r,rfl,hr1,hr2,hr3⟩:=hd;refine ko 4 [5,3,2] 6 ?_;refine cj (fun h2=>?_) (fun h2=>?_)
 ·refine kc 0 [] 7 ?_;refine ez ?_;exact⟨true,rfl,fun h=>by cases h⟩
 refine gc 5 ?_;refine oc (cv MN rfl rfl (Ep _ k m s ls args 0 (Nat.le_refl _) hs1 (by omega) (by omega) h1) (bl (an .nil)) ?_);refine ko 3 [6,5,3] 3 ?_;refine oc (T:=fun _=>False) (bH vu rfl rfl rfl rfl (kN _ k2 m2 s2 ls2 args2 20000 (Nat.le_refl _) (by omega) (by omega) (by omega)) (bl (an .nil)) (fun d hd=>?_));obtain⟨q,rfl,hq1,hq2,hq3⟩:=hd;refine go 4 ?_;generalize mi (.mk k m s ls args) 0=u at hus ⊢;have hmul:0≤(u:Int)*q:=Int.mul_nonneg (by omega) (by omega);have hmul2:(u:Int)*q≤20000*1099511627776:=Int.mul_le_mul (by omega) (by omega) (by omega) (by omega);refine gc 4 ?_;refine o1 (AN rfl rfl rfl (by omega) ?_);refine o1 (cF ?_);refine go 5 ?_;refine ez ?_;refine⟨_,rfl,fun h=>?_⟩;simp only[decide_eq_false_iff_not,Int.not_lt] at h;have hr:=hr3 (by omega);rcases Nat.eq_zero_or_pos u with h0|h0
 ·subst h0;omega
 ·have h5:1*q≤(u:Int)*q:=Int.mul_le_mul_of_nonneg_right (by omega) (by omega);have hq:=hq3 (by omega);rw[hq] at h;have h6:((u*(ae.mk k2 m2 s2 ls2 args2).size:Nat):Int)=(u:Int)*((ae.mk k2 m2 s2 ls2 args2).size:Nat):=Int.natCast_mul _ _;omega
mutual
def jn:aO→Nat
 | .mk k s args=>if k=4 then 1 else fe args
def fe:List aO→Nat
 |[]=>0
 |l::r=>jn l+fe r
end
mutual
def gr:ae→Nat
 | .mk k n s ls args=>fe ls+gi args
def gi:List ae→Nat
 |[]=>0
 |t::r=>gr t+gi r
end
mutual
theorem ve:∀l:aO,jn l≤l.size
 | .mk k s args=>by have:=oS args;rw[jn];simp only[aO.size];split<;>omega
theorem oS:∀l:List aO,fe l≤bg l
 |[]=>by simp[fe]
 |a::r=>by have:=ve a;have:=oS r;simp only[fe,bg];omega
end
mutual
theorem pJ:∀t:ae,gr t≤t.size
 | .mk k n s ls args=>by have:=oS ls;have:=sN args;simp only[gr,ae.size];omega
theorem sN:∀l:List ae,gi l≤aj l
 |[]=>by simp[gi]
 |a::r=>by have:=pJ a;have:=sN r;simp only[gi,aj];omega
end
mutual
theorem xd(ps:List ByteArray)(us:List aO)(M:Nat)(hu:∀l∈us,l.size≤M):∀l:aO,(l.subst ps us).size≤l.size+jn l*M
 | .mk k s args=>by
  have h:=vf ps us M hu args;simp only[aO.subst,jn,aO.size];split
  ·split
   ·rename_i i hi;rw[List.getD_eq_getElem?_getD];cases hg:us[i]? with
    |none=>simp[aO.size]
    |some x=>simp only[Option.getD_some];have:=hu x (List.mem_of_getElem? hg);omega
   ·simp only[aO.size];omega
  ·simp only[aO.size];omega
theorem vf(ps:List ByteArray)(us:List aO)(M:Nat)(hu:∀l∈us,l.size≤M):∀l:List aO,bg (dV ps us l)≤bg l+fe l*M
 |[]=>by simp[dV,bg]
 |a::r=>by
  have h1:=xd ps us M hu a;have h2:=vf ps us M hu r;simp only[dV,bg,fe,Nat.add_mul];omega
end
theorem xe(ps:List ByteArray)(us:List aO)(M:Nat)(hu:∀l∈us,l.size≤M):∀l:List aO,bg (l.map fun x=>x.subst ps us)≤bg l+fe l*M
 |[]=>by simp[bg]
 |a::r=>by
  have h1:=xd ps us M hu a;have h2:=xe ps us M hu r;simp only[List.map_cons,bg,fe,Nat.add_mul];omega
mutual
theorem we(ps:List ByteArray)(us:List aO)(M:Nat)(hu:∀l∈us,l.size≤M):∀t:ae,(eu ps us t).size≤t.size+gr t*M
 | .mk k n s l args=>by
  have h1:=xe ps us M hu l;have h2:=uR ps us M hu args;simp only[eu,ae.size,gr,Nat.add_mul];omega
theorem uR(ps:List ByteArray)(us:List aO)(M:Nat)(hu:∀l∈us,l.size≤M):∀l:List ae,aj (du ps us l)≤aj l+gi l*M
 |[]=>by simp[du,aj]
 |t::r=>by
  have h1:=we ps us M hu t;have h2:=uR ps us M hu r;simp only[du,aj,gi,Nat.add_mul];omega
end
theorem jS{l:List aO}{x:aO}(h:l[i]? =some x):fe (l.drop i)=jn x+fe (l.drop (i+1)):=by
 obtain⟨hi,rfl⟩:=List.getElem?_eq_some_iff.1 h;rw[List.drop_eq_getElem_cons hi,fe]
theorem sO(h:l[i]? =some x):gi (l.drop i)=gr x+gi (l.drop (i+1)):=by
 obtain⟨hi,rfl⟩:=List.getElem?_eq_some_iff.1 h;rw[List.drop_eq_getElem_cons hi,gi]
theorem vE:∀(n:Nat) (k:Int) (s:ByteArray) (args:List aO),(aO.mk k s args).size≤n→(aO.mk k s args).size≤1099511627776→
 cC Tryz.prog gl 130 [(aO.mk k s args).d] (· =.v (.int .i64 (jn (.mk k s args)))):=by
 intro n
 induction n with
 |zero=>intro k s args h;simp[aO.size] at h
 |succ n ih=>
  intro k s args hsz hb;have hus:=ve (.mk k s args);simp only[aO.size] at hsz hb hus;have hal:=bU args;have hsl:=kj args;generalize hr:jn (.mk k s args)=r at hus ⊢;rw[jn] at hr;refine bD Tryz.func130 Tryz.ntmps130 ?_;refine gc 14 ?_;refine cj (fun h1=>?_) (fun h1=>?_)
  ·refine kc 0 [] 7 ?_;refine ez ?_
   (rw[if_pos (by omega)] at hr;subst hr;first|rfl|skip)
  refine kc 3 [1] 0 ?_;rw[if_neg (by omega)] at hr;refine gc 11 ?_;refine lP (ι:=Nat×Nat) (fun⟨i,c⟩=>[(4,int i),(3,int c)]) [1] (fun⟨i,c⟩=>i≤args.length∧c+fe (args.drop i)=r) (fun⟨i,c⟩=>args.length-i) ((0,0)) rfl ?I4 ?M4 ?H4
  case I4=>
   exact⟨Nat.zero_le _,by simpa using hr⟩
  case M4=>
   exact mz
  case H4=>
   rintro⟨i,c⟩ hinv
   try dsimp only at hinv
   refine kc 0 [4,3,1] 10 ?_;refine cJ (fun h5=>?_) (fun h5=>?_)
   ·refine kc 5 [3] 7 ?_;refine ez ?_;have h9:=hinv.2;rw[List.drop_of_length_le (by omega)] at h9;simp only[fe,Nat.add_zero] at h9;rw[← h9]
   refine kc 5 [4,3,1] 0 ?_;obtain⟨k2,s2,a2,hget⟩:=dg (show i<args.length by omega);have hg1:=eH hget;have hg3:=jS hget;have hle:c+jn (.mk k2 s2 a2)≤r:=(by have:=hinv.2;omega);refine gc 4 ?_;refine o1 (cr fm fG ?_ (he:=by exact(dB hget)));refine go 1 ?_;refine oc (cv MP rfl rfl (ih k2 s2 a2 (by omega) (by omega)) (bl .nil) ?_);refine ko 3 [5,4,3,1] 3 ?_;refine o1 (cF ?_);refine ko 4 [3,4,1] 2 ?_;refine o1 (cF ?_);refine go 2 ?_;refine bi (i+1,c+jn (.mk k2 s2 a2)) rfl ?_ mz;exact⟨⟨by omega,by rw[← hinv.2,jS hget];omega⟩,show args.length-(i+1)<args.length-i by omega⟩
theorem xl:∀(n:Nat) (k m:Int) (s:ByteArray) (ls:List aO) (args:List ae),(ae.mk k m s ls args).size≤n→(ae.mk k m s ls args).size≤1099511627776→
 cC Tryz.prog gl 104 [(ae.mk k m s ls args).d] (· =.v (.int .i64 (gr (.mk k m s ls args)))):=by
 intro n
 induction n with
 |zero=>intro k m s ls args h;simp[ae.size] at h
 |succ n ih=>
  intro k m s ls args hsz hb;have hus:=pJ (.mk k m s ls args);simp only[ae.size] at hsz hb hus;have hal:=aN args;have hsa:=br args;have hll:=bU ls;have hsl:=kj ls;generalize hr:gr (.mk k m s ls args)=r at hus ⊢;rw[gr] at hr;refine bD Tryz.func104 Tryz.ntmps104 ?_;refine kc 18 [4,3,1] 0 ?_;refine lP (ι:=Nat×Nat) (fun⟨i,c⟩=>[(4,int i),(3,int c)]) [1] (fun⟨i,c⟩=>i≤ls.length∧c+fe (ls.drop i)+gi args=r) (fun⟨i,c⟩=>ls.length-i) ((0,0)) rfl ?I5 ?M5 ?H5
  case I5=>
   exact⟨Nat.zero_le _,by simpa using hr⟩
  case M5=>
   exact mz
  case H5=>
   rintro⟨i,c⟩ hinv
   try dsimp only at hinv
   refine kc 0 [4,3,1] 10 ?_;refine cj (fun h3=>?_) (fun h3=>?_)
   ·refine kc 5 [4,3,1] 0 ?_;obtain⟨k2,s2,a2,hget⟩:=dg (show i<ls.length by omega);have hg1:=eH hget;have hg3:=jS hget;have hle:c+jn (.mk k2 s2 a2)≤r:=(by have:=hinv.2;omega);refine gc 4 ?_;refine o1 (cr fm fG ?_ (he:=by exact(dB hget)));refine go 1 ?_;refine oc (cv MP rfl rfl (vE _ k2 s2 a2 (Nat.le_refl _) (by omega)) (bl .nil) ?_);refine ko 3 [5,4,3,1] 3 ?_;refine o1 (cF ?_);refine ko 4 [3,4,1] 2 ?_;refine o1 (cF ?_);refine go 2 ?_;refine bi (i+1,c+jn (.mk k2 s2 a2)) rfl ?_ mz;exact⟨⟨by omega,by rw[← hinv.2,jS hget];omega⟩,show ls.length-(i+1)<ls.length-i by omega⟩
   refine kc 7 [3,1] 0 ?_;have hc1:c+gi args=r:=(by have h9:=hinv.2;rw[List.drop_of_length_le (by omega)] at h9;simpa[fe] using h9);refine gc 5 ?_;refine lP (ι:=Nat×Nat) (fun⟨j,e⟩=>[(6,int j),(3,int e)]) [1] (fun⟨j,e⟩=>j≤args.length∧e+gi (args.drop j)=r) (fun⟨j,e⟩=>args.length-j) ((0,c)) rfl ?I6 ?M6 ?H6
   case I6=>
    exact⟨Nat.zero_le _,by simpa using hc1⟩
   case M6=>
    exact mz
   case H6=>
    rintro⟨j,e⟩ hinv
    try dsimp only at hinv
    refine kc 0 [6,3,1] 10 ?_;refine cJ (fun h8=>?_) (fun h8=>?_)
    ·refine kc 5 [3] 7 ?_;refine ez ?_;have h9:=hinv.2;rw[List.drop_of_length_le (by omega)] at h9;simp only[gi,Nat.add_zero] at h9;rw[← h9]
    refine kc 5 [6,3,1] 0 ?_;obtain⟨k2,m2,s2,l2,a2,hget⟩:=bM (show j<args.length by omega);have hg1:=bF hget;have hg3:=sO hget;have hle:e+gr (.mk k2 m2 s2 l2 a2)≤r:=(by have:=hinv.2;omega);refine gc 4 ?_;refine o1 (cr bA bG ?_ (he:=by exact(bV hget)));refine go 1 ?_;refine oc (cv MW rfl rfl (ih k2 m2 s2 l2 a2 (by omega) (by omega)) (bl .nil) ?_);refine ko 3 [7,6,3,1] 3 ?_;refine o1 (cF ?_);refine ko 4 [3,6,1] 2 ?_;refine o1 (cF ?_);refine go 2 ?_;refine bi (j+1,e+gr (.mk k2 m2 s2 l2 a2)) rfl ?_ mz;exact⟨⟨by omega,by rw[← hinv.2,sO hget];omega⟩,show args.length-(j+1)<args.length-j by omega⟩
end
section
open Go Go.Vd Go.RowKit
attribute [local irreducible] bq bu dh ak bJ
variable {gl:Nat→List D}
end
section
open Go Go.Vd Go.RowKit
attribute [local irreducible] bq bu dh ak bJ
variable {gl:Nat→List D}
theorem vA(ps:List ByteArray)(ls:List aO)(hl:ps.length≤ls.length)(hl2:ps.length≤281474976710656):∀(n:Nat) (k:Int) (s:ByteArray) (args:List aO),(aO.mk k s args).size≤n→(aO.mk k s args).size≤1099511627776→
 cC Tryz.prog gl 131 [(aO.mk k s args).d,ey ps,.sl 3 (bE ls)] (· =((aO.mk k s args).subst ps ls).d):=by
 have hlp:=cO ps;have hll:=bU ls;intro n
 induction n with
 |zero=>intro k s args h;simp[aO.size] at h
 |succ n ih=>
  intro k s args hn hb;have hsz:bg args≤n:=by simp[aO.size] at hn;omega
  have hlen:=bU args;have hlb:=iq args;simp only[aO.size] at hb;refine bD Tryz.func131 Tryz.ntmps131 ?_;refine gc 14 ?_;refine cj (fun h1=>?_) (fun h1=>?_)
  ·refine kc 1 [6,3,1,2] 6 ?_;refine lP (ι:=Nat) (fun i=>[(7,int i)]) [6,3,1,2] (fun i=>i≤ps.length∧s∉ps.take i) (fun i=>ps.length-i) (0) rfl ?I1 ?M1 ?H1
   case I1=>
    exact⟨Nat.zero_le _,by simp⟩
   case M1=>
    exact mz
   case H1=>
    rintro i hinv
    try dsimp only at hinv
    refine kc 0 [7,6,3,1,2] 9 ?_;refine cJ (fun h3=>?_) (fun h3=>?_)
    ·refine kc 5 [6,3] 8 ?_;refine ez ?_;have hk:k=4:=by omega
     have h:=hinv.2;rw[List.take_of_length_le (by omega)] at h;simp only[aO.subst,if_pos hk,oX h];rfl
    refine kc 5 [7,6,3,1,2] 0 ?_;refine gz [0,1] mixed ?_;refine A1 2 rfl (cr pI tV ⟨_,rfl,?_⟩ (he:=by exact(j8 (by omega))));refine ga [3,4,5,6] ?_;refine aS ?_;refine ge 1 ?_;refine cJ (fun h5=>?_) (fun h5=>?_)
    ·refine kc 3 [7,6,3,1,2] 2 ?_;refine o1 (cF ?_);refine go 2 ?_;refine bi (i+1) rfl ?_ mz;exact⟨⟨by omega,iJ (by omega) hinv.2 h5⟩,by omega⟩
    refine kc 0 [7,6,2] 4 ?_;obtain⟨k',s',a',hget⟩:=dg (show i<ls.length by omega);refine o1 (cr fm fG ?_ (he:=by exact(dB hget)));refine go 11 ?_;refine ez ?_;have hk:k=4:=by omega
    have hf:=oW (show i<ps.length by omega) hinv.2 h5;simp only[aO.subst,if_pos hk,hf,List.getD_eq_getElem?_getD,hget,Option.getD_some];rfl
  refine kc 14 [8,6,3,1,2] 6 ?_;refine bz 121 3 rfl ?_;refine lp (ι:=Nat) (fun i=>[(9,int i)]) (fun i=>[.cells [.d (.v (.int .i64 k)),.d (.v (.string s)),.d (.sl 3 (bE args))] 121,.cells [.d (.v (.int .i64 0)),.d (.v (.string .empty)),.d (.v (.slice none 0 0))] 121,.cells [.d (.v (.int .i64 k)),.d (.v (.string s)),.own 3 3 (bE (dV ps ls (args.take i)))] 121,.row 121 3]) [8,6,3,1,2] (fun i=>i≤args.length) (fun i=>args.length-i) (0) ([0,1,2,3]) rfl ?I2 ?M2 ?H2
  case I2=>
   exact Nat.zero_le _
  case M2=>
   refine mo ?_ (aH (aH (aH (aH (aH (aH dC))))))
   repeat (first|exact cG|exact zI|refine bh ?_|refine qZ ?_|refine Bd ?_ ?_|refine an ?_|refine .cons (.nil rfl) ?_)
  case H2=>
   rintro i hinv
   try dsimp only at hinv
   refine kc 0 [9,8,6,3,1,2] 10 ?_;refine cJ (fun h10=>?_) (fun h10=>?_)
   ·refine kc 5 [8,6] 7 ?_;refine ez ?_;have hk:¬k=4:=by omega
    simp only[aO.subst,if_neg hk];rw[List.take_of_length_le (by omega)];rfl
   refine kc 4 [9,8,6,3,1,2] 0 ?_;obtain⟨k',s',a',hget⟩:=dg (show i<args.length by omega);obtain⟨k2,s2,a2,hs2⟩:=aO.case ((aO.mk k' s' a').subst ps ls)
   have hsz':=jB hget;have hlast:bE (dV ps ls (args.take i))++[[.v (.int .i64 k2),.v (.string s2),.sl 3 (bE a2)]]=bE (dV ps ls (args.take (i+1))):=by
    rw[uT hget,p6,hs2];rfl
   have hll2:=bU (dV ps ls (args.take i));have hll3:=rG ps ls (args.take i);simp only[List.length_take] at hll3;refine gz [0,1,2,3,4] mixed ?_;refine A1 5 rfl (cr fm fG ⟨_,rfl,?_⟩ (he:=by exact(dB hget)));refine ga [6,7,8] ?_;refine A2 (T:=fun _=>False) 9 rfl (bH MO rfl rfl rfl rfl (ih k' s' a' (by omega) (by omega)) (bl (an (an .nil))) (fun d hd=>?_));rw[hs2] at hd;obtain rfl:=hd;refine A2 10 rfl (gK jg [.tmp 52] eK ?_);refine A2 11 rfl (px jg ?_);refine ga [12] ?_;refine A2 13 rfl (dP vy ?_);refine aS ?_;refine ke 2 [9,8,6,3,1,2] 2 ?_;refine o1 (cF ?_);refine go 2 ?_;rw[hlast];refine bk (i+1) rfl ?_ [0,1,2,3] mz;exact⟨by omega,by omega⟩
end
section
open Go Go.Vd Go.RowKit
attribute [local irreducible] bq bu dh ak bJ cQ
variable {g gl:Nat→List D}
theorem An(ps:List ByteArray)(us:List aO)(hl:ps.length≤us.length)(hl2:ps.length≤281474976710656):∀(n:Nat) (k m:Int) (s:ByteArray) (ls:List aO) (args:List ae),(ae.mk k m s ls args).size≤n→(ae.mk k m s ls args).size≤1099511627776→
 cC Tryz.prog gl 105 [(ae.mk k m s ls args).d,ey ps,.sl 3 (bE us)] (· =(eu ps us (.mk k m s ls args)).d):=by
 intro n
 induction n with
 |zero=>intro k m s ls args h;simp[ae.size] at h
 |succ n ih=>
  intro k m s ls args hsz hb;simp only[ae.size] at hsz hb;have hal:=aN args;have hsa:=br args;have hll:=bU ls;have hsl:=oG ls;have hpl:=cO ps;have hml:=qC (ps:=ps) (us:=us) args;refine bD Tryz.func105 Tryz.ntmps105 ?_;refine kc 20 [7,6,3,1,2] 6 ?_;refine bz 121 3 rfl ?_;refine lp (ι:=Nat) (fun i=>[(8,int i)]) (fun i=>[.cells [.d (.v (.int .i64 k)),.d (.v (.int .i64 m)),.d (.v (.string s)),.d (.sl 3 (bE ls)),.d (.sl 5 (ay args))] 39,.cells [.d (.v (.int .i64 0)),.d (.v (.int .i64 0)),.d (.v (.string .empty)),.d (.v (.slice none 0 0)),.d (.v (.slice none 0 0))] 39,.cells [.d (.v (.int .i64 k)),.d (.v (.int .i64 m)),.d (.v (.string s)),.own 3 3 (bE ((ls.map fun x=>x.subst ps us).take i)),.d (.v (.slice none 0 0))] 39,.row 121 3]) [7,6,3,1,2] (fun i=>i≤ls.length) (fun i=>ls.length-i) (0) ([0,1,2,3]) rfl ?I1 ?M1 ?H1
  case I1=>
   exact Nat.zero_le _
  case M1=>
   refine mo ?_ (aH (aH (aH (aH (aH (aH dC))))))
   repeat (first|exact cG|exact zI|refine bh ?_|refine qZ ?_|refine Bd ?_ ?_|refine an ?_|refine .cons (.nil rfl) ?_)
  case H1=>
   rintro i hinv
   try dsimp only at hinv
   refine kc 0 [8,7,6,3,1,2] 10 ?_;refine cj (fun h3=>?_) (fun h3=>?_)
   ·refine kc 4 [8,7,6,3,1,2] 0 ?_;obtain⟨k2,s2,a2,hget⟩:=dg (show i<ls.length by omega);have hg1:=rI hget;obtain⟨k3,s3,a3,hY⟩:=aO.case ((aO.mk k2 s2 a2).subst ps us)
    have hsu:=vA (gl:=gl) ps us hl hl2 _ k2 s2 a2 (Nat.le_refl _) (by omega);rw[hY] at hsu;have hgm:(ls.map fun x=>x.subst ps us)[i]? =some (.mk k3 s3 a3):=(by rw[List.getElem?_map,hget,Option.map_some,hY]);have hnx:bE ((ls.map fun x=>x.subst ps us).take i)++[[.v (.int .i64 k3),.v (.string s3),.sl 3 (bE a3)]]=bE ((ls.map fun x=>x.subst ps us).take (i+1)):=w9 hgm;have htl:=bU ((ls.map fun x=>x.subst ps us).take i);have htk:=List.length_take (i:=i) (l:=ls.map fun x=>x.subst ps us);refine gz [0,1,2,3,4] mixed ?_;refine A1 5 rfl (cr fm fG ⟨_,rfl,?_⟩ (he:=by exact(dB hget)));refine ga [6,7,8] ?_;refine A2 9 rfl (cv MO rfl rfl (hsu) (bl (an (an .nil))) ?_);refine A2 10 rfl (gK jg [.tmp 33] eK ?_);refine A2 11 rfl (px jg ?_);refine ga [12] ?_;refine A2 13 rfl (dP vy ?_);refine aS ?_;refine ke 2 [8,7,6,3,1,2] 2 ?_;refine o1 (cF ?_);refine go 2 ?_;rw[hnx];refine bk (i+1) rfl ?_ [0,1,2,3] mz;exact⟨by omega,by omega⟩
   refine kc 7 [7,6,3,1,2] 0 ?_;obtain rfl:i=ls.length:=(by omega);rw[List.take_of_length_le (by rw[List.length_map];omega)];refine gc 5 ?_;refine bz 39 5 rfl ?_;refine lp (ι:=Nat) (fun j=>[(9,int j)]) (fun j=>[.cells [.d (.v (.int .i64 k)),.d (.v (.int .i64 m)),.d (.v (.string s)),.d (.sl 3 (bE ls)),.d (.sl 5 (ay args))] 39,.cells [.d (.v (.int .i64 0)),.d (.v (.int .i64 0)),.d (.v (.string .empty)),.d (.v (.slice none 0 0)),.d (.v (.slice none 0 0))] 39,.cells [.d (.v (.int .i64 k)),.d (.v (.int .i64 m)),.d (.v (.string s)),.own 3 3 (bE (ls.map fun x=>x.subst ps us)),.own 4 5 (ay ((du ps us args).take j))] 39,.row 121 3,.row 39 5]) [7,6,3,1,2] (fun j=>j≤args.length) (fun j=>args.length-j) (0) ([0,1,2,3,4]) rfl ?I2 ?M2 ?H2
   case I2=>
    exact Nat.zero_le _
   case M2=>
    refine mo ?_ (aH (aH (aH (aH (aH (aH dC))))))
    repeat (first|exact cG|exact zI|refine bh ?_|refine cw ?_|refine qZ ?_|refine Bd ?_ ?_|refine an ?_|refine .cons (.nil rfl) ?_)
   case H2=>
    rintro j hinv
    try dsimp only at hinv
    refine kc 0 [9,7,6,3,1,2] 10 ?_;refine cJ (fun h7=>?_) (fun h7=>?_)
    ·refine kc 6 [7,6] 0 ?_;obtain rfl:j=args.length:=(by omega);rw[List.take_of_length_le (by omega)];refine gc 6 ?_;refine ed ((ae.mk k m s (ls.map fun x=>x.subst ps us) (du ps us args)).d) ?_;rw[eu]
    refine kc 4 [9,7,6,3,1,2] 0 ?_;obtain⟨k2,m2,s2,l2,a2,hget⟩:=bM (show j<args.length by omega);have hg1:=bF hget;obtain⟨k3,m3,s3,l3,a3,hY⟩:=ae.case (eu ps us (.mk k2 m2 s2 l2 a2))
    have hsu:=ih k2 m2 s2 l2 a2 (by omega) (by omega);have hgm:=tW (ps:=ps) (us:=us) hget;rw[hY] at hsu hgm;have hnx:ay ((du ps us args).take j)++[[.v (.int .i64 k3),.v (.int .i64 m3),.v (.string s3),.sl 3 (bE l3),.sl 5 (ay a3)]]=ay ((du ps us args).take (j+1)):=v8 hgm;have htl:=aN ((du ps us args).take j);have htk:=List.length_take (i:=j) (l:=du ps us args);refine gz [0,1,2,3,4] mixed ?_;refine A1 5 rfl (cr bA bG ⟨_,rfl,?_⟩ (he:=by exact(bV hget)));refine ga [6,7,8] ?_;refine A2 9 rfl (cv MV rfl rfl (hsu) (bl (an (an .nil))) ?_);refine A2 10 rfl (gK dL [.tmp 53] bt ?_);refine A2 11 rfl (px dL ?_);refine ga [12] ?_;refine A2 13 rfl (dP DI ?_);refine aS ?_;refine ke 2 [9,7,6,3,1,2] 2 ?_;refine o1 (cF ?_);refine go 2 ?_;rw[hnx];refine bk (j+1) rfl ?_ [0,1,2,3,4] mz;exact⟨by omega,by omega⟩
end
section
open Go Go.Vd Go.RowKit
attribute [local irreducible] bq bu dh ak bJ cQ
variable {g gl:Nat→List D}
def iU(d m:Int)(t:Bool)(p:Int):Ob:=.cells [.d (.v (.int .i64 d)),.d (.v (.int .i64 m)),.d (.v (.bool t)),.d (.v (.int .i64 p))] 87
theorem GV(d m:Int)(t:Bool)(p:Int)(hd:0≤d∧d≤1099511627776):
 er Tryz.prog gl 84 [iU d m t p] [.b0 0 0] fun out ob'=>(m≤d∧out=.ret (.d (.v (.bool false)))∧ob'=[iU d m true p])∨(d<m∧out=.ret (.d (.v (.bool true)))∧ob'=[iU (d+1) m t p]):=by
 refine bS Tryz.func84 Tryz.ntmps84 1 ?_;refine gc 7 ?_;refine gz [0,1,2,3,4,5,6,7,8] mixed ?_;refine aS ?_;refine ge 1 ?_;refine cj (fun h1=>?_) (fun h1=>?_)
 ·refine kc 8 [] 7 ?_;refine eo (.v (.bool false)) [0] [iU d m true p] ?_
  ·exact .inl ⟨by omega,rfl,rfl⟩
 refine kc 2 [0] 6 ?_;refine o1 (cF ?_);refine ko 5 [] 6 ?_;refine eo (.v (.bool true)) [0] [iU (d+1) m t p] ?_
 ·exact .inr ⟨by omega,rfl,rfl⟩
theorem xm(es:List cu)(w:Bool)(nm:ByteArray)(hE:Qp es):
 er Tryz.prog gl 160 [ba es w,aZ] [.b0 0 0,.d (.v (.string nm))] fun out ob'=>out=.ret (.d (.v (.bool (!decide ((bK nm es).1=0)))))∧ob'=[ba es w,aZ]:=by
 have hq:=find_spec (gl:=gl) es w nm hE;rcases hF:bK nm es with⟨kf,⟨⟨kd,sd,pd,⟨k1,n1,s1,l1,a1⟩,⟨k2,n2,s2,l2,a2⟩,ad,cd'⟩,rpd,⟨k3,n3,s3,l3,a3⟩⟩,jf⟩;rw[hF] at hq;refine bS Tryz.func160 Tryz.ntmps160 2 ?_;refine gc 9 ?_;refine oc (ck Ma rfl rfl (hq) [0,1] rfl (bh (cw .nil)) (an (an .nil)) ?_);refine ko 10 [5] 8 ?_;refine sy [0,1] [ba es w,aZ] ?_
 ·exact ⟨rfl,rfl⟩
def OV:Option (List ByteArray×ae)→D
 |none=>.bY [ey [],aP.d,.v (.bool false)]
 |some x=>.bY [ey x.1,x.2.d,.v (.bool true)]
variable {nm:ByteArray} {es:List cu} {k:Int} {e:cu} {j:Nat}
theorem IJ(h:bK nm es=(k,e,j))(hk:k=0):ik nm es=none:=by
 unfold ik;rw[h];exact if_pos hk
theorem II(h:bK nm es=(k,e,j))(hk:k=4){c:ByteArray×ae}(hc:e.d.cs[j]? =some c):ik nm es=some (e.d.ps,c.2):=by
 unfold ik;rw[h];subst hk;show(if (4:Int)=0 then none else if (4:Int)=4 then(e.d.cs[j]?).map (fun c=>(e.d.ps,c.2)) else _)=_;rw[if_neg (by decide),if_pos rfl,hc];rfl
theorem IH(h:bK nm es=(k,e,j))(hk:k=5):ik nm es=some (e.rp,e.rt):=by
 unfold ik;rw[h];subst hk;rfl
theorem IF(h:bK nm es=(k,e,j))(h0:¬k=0)(h4:¬k=4)(h5:¬k=5):ik nm es=some (e.d.ps,e.d.ty):=by
 unfold ik;rw[h];show(if k=0 then none else if k=4 then _ else if k=5 then _ else _)=_;rw[if_neg h0,if_neg h4,if_neg h5]
theorem Bj(es:List cu)(w:Bool)(nm:ByteArray)(hE:Qp es)(hk:∀e∈es,e.d.k≠4):
 er Tryz.prog gl 25 [ba es w,aZ] [.b0 0 0,.d (.v (.string nm))] fun out ob'=>out=.ret (.d (OV (ik nm es)))∧ob'=[ba es w,aZ]:=by
 have hq:=find_spec (gl:=gl) es w nm hE;have hc:=oY (nm:=nm) hk;rcases hF:bK nm es with⟨kf,⟨⟨kd,sd,pd,⟨k1,n1,s1,l1,a1⟩,⟨k2,n2,s2,l2,a2⟩,ad,cd'⟩,rpd,⟨k3,n3,s3,l3,a3⟩⟩,jf⟩;rw[hF] at hq hc;simp only[dN.cs] at hc;have hcl:=iR cd';refine bS Tryz.func25 Tryz.ntmps25 2 ?_;refine gc 11 ?_;refine oc (ck Ma rfl rfl (hq) [0,1] rfl (bh (cw .nil)) (an (an .nil)) ?_);refine ko 11 [9,7,8,5] 12 ?_;refine cj (fun h3=>?_) (fun h3=>?_)
 ·refine kc 0 [5] 11 ?_;refine eo (OV none) [0,1] [ba es w,aZ] ?_
  ·rw [IJ hF (by omega)];exact⟨rfl,rfl⟩
 refine gc 6 ?_;refine cj (fun h5=>?_) (fun h5=>?_)
 ·refine kc 1 [9,8,5] 0 ?_;obtain⟨⟨cn,⟨ck,cm,cs,cl,ca⟩⟩,hc1,hc2⟩:=hc (by omega);have hc3:=(List.getElem?_eq_some_iff.1 hc1).1;refine gz [0,1,2,3,4,5,6] mixed ?_;refine A1 7 rfl (cr yb Af ⟨_,rfl,?_⟩ (he:=by exact(o9 hc1)));refine ga [8,9,10] ?_;refine A2 11 rfl (dP bt ?_);refine ga [12] ?_;refine aS ?_;refine ge 4 ?_;refine eo (OV (some (pd,.mk ck cm cs cl ca))) [0,1] [ba es w,aZ] ?_
  ·rw [II hF (by omega) hc1];exact⟨rfl,rfl⟩
 refine kc 0 [17,8,5] 6 ?_;refine cj (fun h7=>?_) (fun h7=>?_)
 ·refine gc 1 ?_;refine gz [0,1,2,3,4] mixed ?_;refine A2 5 rfl (dP bt ?_);refine ga [6] ?_;refine aS ?_;refine ge 4 ?_;refine eo (OV (some (rpd,.mk k3 n3 s3 l3 a3))) [0,1] [ba es w,aZ] ?_
  ·rw [IH hF (by omega)];exact⟨rfl,rfl⟩
 refine gc 4 ?_;refine gz [0,1,2,3,4,5,6] mixed ?_;refine A2 7 rfl (dP bt ?_);refine ga [8] ?_;refine aS ?_;refine ge 2 ?_;refine eo (OV (some (pd,.mk k1 n1 s1 l1 a1))) [0,1] [ba es w,aZ] ?_
 ·rw [IF hF (by omega) (by omega) (by omega)];exact⟨rfl,rfl⟩
def iX:ae:=.mk 1 0 .empty [.mk 0 .empty []] []
theorem om(es:List cu)(w:Bool){B B':Int}(hB:B≤1125899906842624)(hB':B'≤1125899906842624)(k m:Int)(s:ByteArray)(ls:List aO)(args:List ae)(k2 m2:Int)(s2:ByteArray)(ls2:List aO)(args2:List ae)(hs1:(ae.mk k m s ls args).size≤1099511627776)(hs2:(ae.mk k2 m2 s2 ls2 args2).size≤1099511627776)(hsh1:iA B (.mk k m s ls args))(hsh2:iA B' (.mk k2 m2 s2 ls2 args2)):
 er Tryz.prog gl 64 [ba es w,aZ] [.b0 0 0,.d (ae.mk k m s ls args).d,.d (ae.mk k2 m2 s2 ls2 args2).d] fun out ob'=> ∃(u:ae) (w':Bool),out=.ret (.d u.d)∧ob'=[ba es w',aZ]∧
  ((w'=false∧w=false∧u=dj (.mk k m s ls args) (.mk k2 m2 s2 ls2 args2)∧u.size≤20000)∨(w'=true∧u=iX)):=by
 have hsub:=p9 (gl:=gl) (B:=max B B') (by omega) k2 m2 s2 ls2 args2 (jC (by omega) hsh2) hs2 k m s ls args (jC (by omega) hsh1) hs1;have hsz:=yU (.mk k2 m2 s2 ls2 args2) (.mk k m s ls args) 0;have hX:=ae.case (dj (.mk k m s ls args) (.mk k2 m2 s2 ls2 args2))
 unfold dj at hX hsub;obtain⟨k3,m3,s3,l3,a3,hX⟩:=hX;rw[hX] at hsub hsz;refine bS Tryz.func64 Tryz.ntmps64 2 ?_;refine gc 11 ?_;refine oc (T:=fun _=>False) (bH MU rfl rfl rfl rfl (Er (B:=B) (B':=B') k m s ls args k2 m2 s2 ls2 args2 hs1 hs2 hsh1) (bl (bl .nil)) (fun d hd=>?_));obtain⟨bm,rfl,hbm⟩:=hd;refine ko 4 [7,6,5,4,0] 4 ?_;refine' oo (yt:=16) (d:=12) 4 ?a1 ?b1 ?_
 case a1=>
  intro hc hK;refine go 4 ?_;exact hK [_,_,_,_] rfl rfl
 case b1=>
  intro _ hK;refine go 4 ?_;exact hK [_,_,_,_] rfl
 refine go 2 ?_;refine cJ (fun h2=>?_) (fun h2=>?_)
 ·refine kc 3 [6,5,4] 0 ?_;obtain⟨h5,rfl⟩:=h2;refine gc 3 ?_;refine oc (cv Oe rfl rfl (hsub) (bl (bl .nil)) ?_);refine go 4 ?_;refine eo ((ae.mk k3 m3 s3 l3 a3).d) [0,1] [ba es false,aZ] ?_
  ·exact ⟨.mk k3 m3 s3 l3 a3,false,rfl,rfl,.inl ⟨rfl,rfl,by unfold dj;rw[hX],by have:=hbm h5;omega⟩⟩
 refine kc 8 [6] 3 ?_;refine oc (gK jg [.tmp 21] eK ?_);refine go 6 ?_;refine eo (iX.d) [0,1] [ba es true,aZ] ?_
 ·exact ⟨iX,true,rfl,rfl,.inr ⟨rfl,rfl⟩⟩
end
section
open Go Go.Vd Go.RowKit
attribute [local irreducible] bq bu dh ak bJ cQ
variable {g gl:Nat→List D}
structure ya (sg:Sg) (e:cu):Prop where
 k:e.d.k=1∨e.d.k=2∨e.d.k=3
 ps:e.d.ps.length≤6
 nm:e.d.nm.size≤1000000
 ty:Wt sg e.d.ps e.d.ty 0∧e.d.ty.size≤800001
 vl:e.d.k=2→Wt sg e.d.ps e.d.vl 0∧e.d.vl.size≤800001
 cl:e.d.cs.length≤1000000
 ar:e.d.k=3→0≤e.d.ar∧e.d.ar≤bf e.d.ty
 cs:∀c∈e.d.cs,Wt sg e.d.ps c.2 0∧c.2.size≤800001∧e.d.ar≤bf c.2
 rp:e.rp.length≤7
 rt:e.d.k=3→Wt sg e.rp e.rt 0∧e.rt.size≤1099511627776
structure de (es:List cu):Prop where
 len:es.length≤1000000
 nd:(es.map fun e=>e.d.nm).Nodup
 xH:∀e∈es,ya (eh es) e
variable {es:List cu}
theorem de.b(h:de es):Qp es:=⟨by have:=h.len;omega,fun e he=>⟨by have:=(h.xH e he).cl;omega,by have:=(h.xH e he).nm;omega⟩⟩
theorem de.k4(h:de es):∀e∈es,e.d.k≠4:=fun e he hk=>by rcases(h.xH e he).k with h|h|h<;>omega
theorem de.sg(h:de es){s:ByteArray}{n:Nat}(hs:eh es s=some n):n≤7:=by
 unfold eh at hs;obtain⟨t,ht,rfl⟩:=Option.map_eq_some_iff.1 hs;unfold ik at ht;simp only at ht;split at ht
 ·cases ht
 ·rename_i h0;have hm:=uA h0;have he:=h.xH _ hm;have h6:=he.ps;have h7:=he.rp;split at ht
  ·obtain ⟨c,_,rfl⟩:=Option.map_eq_some_iff.1 ht;simp only;omega
  ·split at ht
   ·cases ht;simp only;omega
   ·cases ht;simp only;omega
theorem vX{sg:Sg}{ps:List ByteArray}{c:Int}:Wt sg ps iX c:=Wt.sort ⟨.zero,rfl,⟨by decide,by decide,fun e=>absurd e (by decide),trivial⟩,fun p h=>h.elim⟩
theorem qV(es:List cu)(w:Bool)(ps:List ByteArray)(us:List aO)(hl:ps.length≤us.length)(hu:us.length≤1000000)(hus:∀u∈us,u.size≤1099511627776)(k m:Int)(s:ByteArray)(ls:List aO)(args:List ae)(hs1:(ae.mk k m s ls args).size≤1099511627776):
 er Tryz.prog gl 58 [ba es w,aZ] [.b0 0 0,.d (ae.mk k m s ls args).d,.d (ey ps),.d (.sl 3 (bE us))] fun out ob'=> ∃(u:ae) (w':Bool),out=.ret (.d u.d)∧ob'=[ba es w',aZ]∧
  ((w'=false∧w=false∧u=eu ps us (.mk k m s ls args)∧u.size≤20000)∨(w'=true∧u=iX)):=by
 have hlv:=An (gl:=gl) ps us hl (by omega) _ k m s ls args (Nat.le_refl _) hs1;have htu:=xl (gl:=gl) _ k m s ls args (Nat.le_refl _) hs1;have htz:=pJ (.mk k m s ls args);have hul:=bU us;have hsz:=fun M h=>we ps us M h (.mk k m s ls args)
 obtain⟨k3,m3,s3,l3,a3,hX⟩:=ae.case (eu ps us (.mk k m s ls args))
 rw[hX] at hlv hsz;refine bS Tryz.func58 Tryz.ntmps58 2 ?_;refine gc 9 ?_;refine oc (T:=fun _=>False) (bH vu rfl rfl rfl rfl (kN _ k m s ls args 20000 (Nat.le_refl _) (by omega) (by omega) (by omega)) (bl (an .nil)) (fun d hd=>?_));obtain⟨r,rfl,hr1,hr2,hr3⟩:=hd;refine ko 15 [11,10,9,8,5,0,2,3] 0 ?_;refine lP (ι:=Nat×Int) (fun⟨i,q⟩=>[(11,int i),(10,int q)]) [9,8,5,0,2,3] (fun⟨i,q⟩=>i≤us.length∧0≤q∧q≤1099511627776∧(q≤20000→∀u∈us.take i,(u.size:Int)≤q)) (fun⟨i,q⟩=>us.length-i) ((0,0)) rfl ?I2 ?M2 ?H2
 case I2=>
  exact⟨Nat.zero_le _,by omega,by omega,fun _ u hu=>by simp at hu⟩
 case M2=>
  exact mz
 case H2=>
  rintro⟨i,q⟩ hinv
  try dsimp only at hinv
  refine kc 0 [11,10,9,8,5,0,2,3] 9 ?_;refine cj (fun h4=>?_) (fun h4=>?_)
  ·refine kc 5 [11,10,9,8,5,0,2,3] 0 ?_;obtain⟨k2,s2,a2,hget⟩:=dg (show i<us.length by omega);have hgs:=hus _ (List.mem_of_getElem? hget);refine gc 3 ?_;refine o1 (cr fm fG ?_ (he:=by exact(dB hget)));refine go 1 ?_;refine oc (T:=fun _=>False) (bH Dh rfl rfl rfl rfl (pt _ k2 s2 a2 20000 (Nat.le_refl _) (by omega) (by omega) (by omega)) (bl (an .nil)) (fun d hd=>?_));obtain⟨z,rfl,hz1,hz2,hz3⟩:=hd;refine ko 3 [12,11,10,9,8,5,0,2,3] 3 ?_;refine o1 (Pq ?_);refine ko 4 [10,11,9,8,5,0,2,3] 2 ?_;refine o1 (cF ?_);refine go 2 ?_;refine bi (i+1,max q z) rfl ?_ mz
   ·refine ⟨⟨by omega,by omega,by omega,fun h u hm=>?_⟩,show us.length-(i+1)<us.length-i by omega⟩;rw[List.take_add_one,hget] at hm;rcases List.mem_append.1 hm with hm|hm
    ·have:=hinv.2.2.2 (by omega) u hm;omega
    ·simp only[Option.toList_some,List.mem_singleton] at hm;subst hm;have:=hz3 (by omega);omega
  refine kc 6 [10,9,8,5,0,2,3] 0 ?_;have hq:=hinv.2.2.2;rw[List.take_of_length_le (by omega)] at hq;refine kc 11 [31,13,10,9,8,5,0,2,3] 0 ?_;refine xc (ι:=Unit) (fun _=>[(13,int (if r≤20000 then(gr (.mk k m s ls args):Int) else 0))]) [10,9,8,5,0,2,3] (fun _=>True) rfl ?A3 ?B3
  case A3=>
   refine cJ (fun h9=>?_) (fun h9=>?_)
   ·refine gc 1 ?_;refine bi (()) rfl ?_ ?_
    ·trivial
    ·refine mo ?_ (ee rfl (by exact Fit.of_eq (by first|(rw[if_pos (by omega)];rfl)|(rw[if_neg (by omega)];rfl))) (aH (aH (aH (aH (aH (aH (aH dC))))))))
     repeat (first|exact cG|refine bh ?_|refine cw ?_)
   refine gc 2 ?_;refine oc (cv MW rfl rfl (htu) (bl .nil) ?_);refine go 2 ?_;refine bi (()) rfl ?_ ?_
   ·trivial
   ·refine mo ?_ (ee rfl (by exact Fit.of_eq (by first|(rw[if_pos (by omega)];rfl)|(rw[if_neg (by omega)];rfl))) (aH (aH (aH (aH (aH (aH (aH dC))))))))
    repeat (first|exact cG|refine bh ?_|refine cw ?_)
  case B3=>
   rintro _ hcut
   try dsimp only at hcut
   refine kc 0 [13,10,9,8,5,0,2,3] 2 ?_;have hub:0≤(if r≤20000 then(gr (.mk k m s ls args):Int) else 0)∧(if r≤20000 then(gr (.mk k m s ls args):Int) else 0)≤20000:=(by split<;>omega);generalize hU:(if r≤20000 then(gr (.mk k m s ls args):Int) else 0)=U at hub ⊢;have hmul:0≤U*q:=Int.mul_nonneg (by omega) (by omega);have hmul2:U*q≤20000*1099511627776:=Int.mul_le_mul (by omega) (by omega) (by omega) (by omega);refine gc 6 ?_;refine' oo (yt:=44) (d:=38) 6 ?a1 ?b1 ?_
   case a1=>
    intro hc hK;refine go 3 ?_;refine gy ?_;refine o1 (AN rfl rfl rfl (by omega) ?_);refine gy ?_;refine o1 (cF ?_);refine go 1 ?_;exact hK [_,_,_,_,_,_] rfl rfl
   case b1=>
    intro _ hK;refine go 6 ?_;exact hK [_,_,_,_,_,_] rfl
   refine go 2 ?_;refine cj (fun h11=>?_) (fun h11=>?_)
   ·refine kc 8 [8] 3 ?_;refine oc (gK jg [.tmp 49] eK ?_);refine go 6 ?_;refine eo (iX.d) [0,1] [ba es true,aZ] ?_
    ·exact ⟨iX,true,rfl,rfl,.inr ⟨rfl,rfl⟩⟩
   refine kc 3 [8,5,2,3] 0 ?_;obtain⟨rfl,h9⟩:=h11;have hrr:=hr3 (by omega);rw[if_pos (by omega)] at hU;have hfin:(ae.mk k3 m3 s3 l3 a3).size≤20000:=(by
    rcases Int.lt_or_le 20000 q with h5|h5
    ·have hU0:U=0:=Classical.byContradiction fun h6=>by
      have h7:1*q≤U*q:=Int.mul_le_mul_of_nonneg_right (by omega) (by omega);omega
     have h8:=hsz 1099511627776 hus;rw[show gr (.mk k m s ls args)=0 by omega,Nat.zero_mul] at h8;omega
    ·have h8:=hsz q.toNat (fun u hu=>by have:=hq h5 u hu;omega);have h10:((gr (.mk k m s ls args)*q.toNat:Nat):Int)=U*q:=by
      rw[Int.natCast_mul,hU,Int.toNat_of_nonneg (by omega)]
     omega)
   refine gc 4 ?_;refine oc (cv MV rfl rfl (hlv) (bl (an (an .nil))) ?_);refine go 4 ?_;refine eo ((ae.mk k3 m3 s3 l3 a3).d) [0,1] [ba es false,aZ] ?_
   ·exact ⟨.mk k3 m3 s3 l3 a3,false,rfl,rfl,.inl ⟨rfl,rfl,hX.symm,hfin⟩⟩
end
section
open Go Go.Vd Go.RowKit
attribute [local irreducible] bq bu dh ak bJ cQ
variable {g gl:Nat→List D}
def jK(name:ByteArray):ae→Int→Bool
 | .mk k _ s _ _,_=>decide (k=2)&&decide (s=name)
mutual
theorem AJ{nm:ByteArray}:∀(t:ae) (d e:Int),eS (jK nm) t d=eS (jK nm) t e
 | .mk k m s ls args,d,e=>by
  simp only[eS,jK];rw[CL args _ d e]
theorem CL{nm:ByteArray}:∀(l:List ae) (b:Bool) (d e:Int),iC (jK nm) b l d=iC (jK nm) b l e
 |[],b,d,e=>rfl
 |t::r,b,d,e=>by
  simp only[iC];rw[AJ t _ (if (b&&r.isEmpty)=true then e+1 else e),CL r b d e]
end
theorem jY(nm:ByteArray):∀(n:Nat) (k m:Int) (s:ByteArray) (ls:List aO) (args:List ae),(ae.mk k m s ls args).size≤n→(ae.mk k m s ls args).size≤1099511627776→
 cC Tryz.prog gl 150 [(ae.mk k m s ls args).d,.v (.string nm)] (· =.v (.bool (eS (jK nm) (.mk k m s ls args) 0))):=by
 intro n
 induction n with
 |zero=>intro k m s ls args h;simp[ae.size] at h
 |succ n ih=>
  intro k m s ls args hsz hb;have hsz2:=hsz;simp only[ae.size] at hsz2 hb;have hal:=aN args;have hsa:=br args;refine bD Tryz.func150 Tryz.ntmps150 ?_;refine gc 13 ?_;refine' oa (yt:=14) (d:=10) 4 ?a1 ?b1 ?_
  case a1=>
   intro hc hK;refine go 4 ?_;exact hK [_,_,_,_] rfl rfl
  case b1=>
   intro _ hK;refine go 4 ?_;exact hK [_,_,_,_] rfl
  refine go 2 ?_;refine cj (fun h1=>?_) (fun h1=>?_)
  ·refine kc 0 [] 7 ?_;refine ez ?_
   (simp only[eS,jK];rw[decide_eq_true h1.1,decide_eq_true h1.2];rfl)
  refine kc 3 [2,1] 6 ?_;refine lP (ι:=Nat) (fun i=>[(5,int i)]) [2,1] (fun i=>i≤args.length∧∀(j:Nat) t,j<i→args[j]? =some t→eS (jK nm) t 0=false) (fun i=>args.length-i) (0) rfl ?I2 ?M2 ?H2
  case I2=>
   exact⟨Nat.zero_le _,fun j t h=>absurd h (Nat.not_lt_zero _)⟩
  case M2=>
   exact mz
  case H2=>
   rintro i hinv
   try dsimp only at hinv
   refine kc 0 [5,2,1] 10 ?_;refine cJ (fun h4=>?_) (fun h4=>?_)
   ·refine kc 5 [] 6 ?_;refine ez ?_;rw[eS,oE (fun j t ht=>(AJ _ _ 0).trans (hinv.2 j t (by have:=(List.getElem?_eq_some_iff.1 ht).1;omega) ht)),Bool.or_false,jK,show(decide (k=2)&&decide (s=nm))=false from(by simp only[Bool.and_eq_false_iff,decide_eq_false_iff_not];first|exact h1|(by_cases h:k=2;exact .inr (h1 h);exact .inl h))]
   refine kc 5 [5,2,1] 0 ?_;obtain⟨k2,m2,s2,l2,a2,hget⟩:=bM (show i<args.length by omega);have hg1:=bF hget;refine gc 4 ?_;refine o1 (cr bA bG ?_ (he:=by exact(bV hget)));refine go 2 ?_;refine oc (cv xQ rfl rfl (ih k2 m2 s2 l2 a2 (by omega) (by omega)) (bl (an .nil)) ?_);refine ko 3 [6,5,2,1] 5 ?_;refine cj (fun h7=>?_) (fun h7=>?_)
   ·refine kc 0 [] 11 ?_;refine ez ?_;rw[eS,pK hget ((AJ _ _ 0).trans h7),Bool.or_true]
   refine gc 5 ?_;refine o1 (cF ?_);refine go 2 ?_;refine bi (i+1) rfl ?_ mz
   ·exact ⟨⟨by omega,fun j t hj ht=>by
    rcases Nat.lt_or_ge j i with h|h
    ·exact hinv.2 j t h ht
    ·obtain rfl:j=i:=by omega
     rw[hget] at ht;cases ht;exact h7⟩,by omega⟩
theorem Ja{acc:List ae}{j:Nat}{t:ae}(h:acc[acc.length-1-j]? =some t)(hj:j<acc.length):ay (acc.reverse.take j)++[t.cells]=ay (acc.reverse.take (j+1)):=by
 have h2:acc.reverse[j]? =some t:=by rw[List.getElem?_reverse hj];exact h
 rw[List.take_add_one,h2,dt];rfl
theorem eW(k m:Int)(s:ByteArray)(ls:List aO)(args:List ae)(hok:q8 (.mk k m s ls args))(hsz:(ae.mk k m s ls args).size≤1099511627776):
 cC Tryz.prog gl 65 [(ae.mk k m s ls args).d] (· =.bY [(bd (.mk k m s ls args)).1.d,.sl 5 (ay (bd (.mk k m s ls args)).2)]):=by
 refine bD Tryz.func65 Tryz.ntmps65 ?_;refine kc 14 [4,2,1] 0 ?_;refine bz 39 5 rfl ?_;refine lp (ι:=(Int×Int×ByteArray×List aO×List ae)×List ae) (fun⟨⟨k1,m1,s1,l1,a1⟩,acc⟩=>[(4,.own 2 5 (ay acc))]) (fun⟨⟨k1,m1,s1,l1,a1⟩,acc⟩=>[.cells [.d (.v (.int .i64 k1)),.d (.v (.int .i64 m1)),.d (.v (.string s1)),.d (.sl 3 (bE l1)),.d (.sl 5 (ay a1))] 39,.cells [.d (.v (.int .i64 0)),.d (.v (.int .i64 0)),.d (.v (.string .empty)),.d (.v (.slice none 0 0)),.d (.v (.slice none 0 0))] 39,.row 39 5]) [2,1] (fun⟨⟨k1,m1,s1,l1,a1⟩,acc⟩=>q8 (.mk k1 m1 s1 l1 a1)∧bd (.mk k m s ls args)=((bd (.mk k1 m1 s1 l1 a1)).1,(bd (.mk k1 m1 s1 l1 a1)).2++acc.reverse)∧(ae.mk k1 m1 s1 l1 a1).size+acc.length≤(ae.mk k m s ls args).size) (fun⟨⟨k1,m1,s1,l1,a1⟩,acc⟩=>(ae.mk k1 m1 s1 l1 a1).size) ((⟨k,m,s,ls,args⟩,[])) ([0,1,2]) rfl ?I3 ?M3 ?H3
 case I3=>
  exact⟨hok,by simp,by simp⟩
 case M3=>
  refine mo ?_ (ee rfl (by(show Fit _ _ (SV.own 2 5 []);exact Fit.nil rfl)) (aH (aH dC)))
  repeat (first|exact cG|refine bh ?_|refine qZ ?_)
 case H3=>
  rintro⟨⟨k1,m1,s1,l1,a1⟩,acc⟩ hinv
  try dsimp only at hinv
  refine kc 0 [4,2,1] 8 ?_;refine cj (fun h2=>?_) (fun h2=>?_)
  ·refine gc 4 ?_;obtain rfl:=h2;obtain⟨k2,m2,s2,l2,a2,k3,m3,s3,l3,a3,rfl,hok2⟩:=wk hinv.1 rfl;have hal:=aN acc;have hal2:=hinv.2.2;have hlast:ay acc++[[.v (.int .i64 k3),.v (.int .i64 m3),.v (.string s3),.sl 3 (bE l3),.sl 5 (ay a3)]]=ay (acc++[.mk k3 m3 s3 l3 a3]):=(dt acc [.mk k3 m3 s3 l3 a3]).symm;refine gc 4 ?_;refine o1 (cr bA bG ?_ (he:=by exact(rfl)));refine go 1 ?_;refine oc (gK dL [.tmp 14] bt ?_);refine oc (px dL ?_);refine ko 3 [4,2,1] 3 ?_;refine o1 (cr bA bG ?_ (he:=by exact(rfl)));refine go 4 ?_;rw[hlast];refine bk (⟨k2,m2,s2,l2,a2⟩,acc++[.mk k3 m3 s3 l3 a3]) rfl ?_ [0,1,2] mz;exact⟨⟨hok2,by rw[hinv.2.1,je];simp,by have:=hinv.2.2;simp only[ae.size,aj,List.length_append,List.length_cons,List.length_nil] at this ⊢;omega⟩,by simp only[ae.size,aj];omega⟩
  refine gc 6 ?_;have hal:=aN acc;have hal2:=hinv.2.2;have hsp:=hinv.2.1;refine gc 9 ?_;refine o1 (iz ?_);refine ko 4 [6,5,4,2,1] 0 ?_;refine bz 39 5 rfl ?_;refine lp (ι:=Nat) (fun j=>[(6,int ((ay acc).length-1-j)),(5,.own 3 5 (ay (acc.reverse.take j)))]) (fun j=>[.cells [.d (.v (.int .i64 k1)),.d (.v (.int .i64 m1)),.d (.v (.string s1)),.d (.sl 3 (bE l1)),.d (.sl 5 (ay a1))] 39,.cells [.d (.v (.int .i64 0)),.d (.v (.int .i64 0)),.d (.v (.string .empty)),.d (.v (.slice none 0 0)),.d (.v (.slice none 0 0))] 39,.row 39 5,.row 39 5]) [4,2,1] (fun j=>j≤acc.length) (fun j=>acc.length-j) (0) ([0,1,2,3]) rfl ?I4 ?M4 ?H4
  case I4=>
   exact Nat.zero_le _
  case M4=>
   refine mo ?_ (ee rfl (by exact Fit.of_eq (by rw[show((0:Nat):Int)=0 from rfl,Int.sub_zero];rfl)) (ee rfl (by(rw[List.take_zero];exact Fit.nil rfl)) (aH (aH (aH dC)))))
   repeat (first|exact cG|refine bh ?_|refine cw ?_|refine qZ ?_)
  case H4=>
   rintro j hinv
   try dsimp only at hinv
   refine kc 0 [6,5,4,2,1] 7 ?_;refine cJ (fun h7=>?_) (fun h7=>?_)
   ·refine kc 6 [5,2,1] 0 ?_;rw[List.take_of_length_le (by rw[List.length_reverse];omega)];refine gc 8 ?_;refine ed (.bY [(ae.mk k1 m1 s1 l1 a1).d,.sl 5 (ay acc.reverse)]) ?_;rw[hsp,j9 h2,List.nil_append]
   refine gc 4 ?_;obtain⟨k2,m2,s2,l2,a2,hget⟩:=bM (show acc.length-1-j<acc.length by omega);have hix:(ay acc)[(((ay acc).length:Int)-1-j).toNat]? =some [.v (.int .i64 k2),.v (.int .i64 m2),.v (.string s2),.sl 3 (bE l2),.sl 5 (ay a2)]:=by rw[show(((ay acc).length:Int)-1-j).toNat=acc.length-1-j by omega,gX hget];rfl
   have hnx:ay (acc.reverse.take j)++[[.v (.int .i64 k2),.v (.int .i64 m2),.v (.string s2),.sl 3 (bE l2),.sl 5 (ay a2)]]=ay (acc.reverse.take (j+1)):=Ja hget (by omega);have htl:=aN (acc.reverse.take j);have htk:=List.length_take (i:=j) (l:=acc.reverse);have hrl:acc.reverse.length=acc.length:=List.length_reverse;refine gc 4 ?_;refine o1 (FY bA bG ?_ (he:=by exact(hix)));refine go 1 ?_;refine oc (gK dL [.tmp 32] bt ?_);refine oc (px dL ?_);refine ko 4 [5,6,4,2,1] 2 ?_;refine o1 (iz ?_);refine go 2 ?_;rw[hnx];refine bk (j+1) rfl ?_ ([0,1,2,3]) ?_
   ·exact ⟨by omega,by omega⟩
   ·refine mo ?_ (ee rfl (by exact Fit.of_eq (by rw[show((j+1:Nat):Int)=(j:Int)+1 by omega,show((ay acc).length:Int)-1-((j:Int)+1)=(ay acc).length-1-j-1 by omega];rfl)) (aH (aH (aH (aH dC)))))
    repeat (first|exact cG|refine bh ?_|refine cw ?_)
theorem ff{f a:ae}{bs:List ae}{i:Nat}(h:bs[i]? =some a):bw f (bs.take (i+1))=.mk 3 0 .empty [] [bw f (bs.take i),a]:=by
 rw[List.take_add_one,h,bw,List.foldl_append];rfl
theorem pT(k m:Int)(s:ByteArray)(ls:List aO)(args:List ae)(bs:List ae)(hb:bs.length≤1099511627776):
 cC Tryz.prog gl 85 [(ae.mk k m s ls args).d,.sl 5 (ay bs)] (· =(bw (.mk k m s ls args) bs).d):=by
 have hal:=aN bs;refine bD Tryz.func85 Tryz.ntmps85 ?_;refine kc 13 [5,4,2,1] 0 ?_;refine lp (ι:=Nat×(Int×Int×ByteArray×List aO×List ae)) (fun⟨i,⟨k1,m1,s1,l1,a1⟩⟩=>[(5,int i)]) (fun⟨i,⟨k1,m1,s1,l1,a1⟩⟩=>[.cells [.d (.v (.int .i64 k1)),.d (.v (.int .i64 m1)),.d (.v (.string s1)),.d (.sl 3 (bE l1)),.d (.sl 5 (ay a1))] 39,.cells [.d (.v (.int .i64 0)),.d (.v (.int .i64 0)),.d (.v (.string .empty)),.d (.v (.slice none 0 0)),.d (.v (.slice none 0 0))] 39]) [4,2,1] (fun⟨i,⟨k1,m1,s1,l1,a1⟩⟩=>i≤bs.length∧bw (.mk k m s ls args) (bs.take i)=.mk k1 m1 s1 l1 a1) (fun⟨i,⟨k1,m1,s1,l1,a1⟩⟩=>bs.length-i) ((0,⟨k,m,s,ls,args⟩)) ([0,1]) rfl ?I5 ?M5 ?H5
 case I5=>
  exact⟨Nat.zero_le _,rfl⟩
 case M5=>
  exact mz
 case H5=>
  rintro⟨i,⟨k1,m1,s1,l1,a1⟩⟩ hinv
  try dsimp only at hinv
  refine kc 0 [5,4,2,1] 9 ?_;refine cJ (fun h2=>?_) (fun h2=>?_)
  ·refine kc 5 [4,2] 7 ?_;refine ed ((ae.mk k1 m1 s1 l1 a1).d) ?_;rw[← hinv.2,List.take_of_length_le (by omega)]
  refine kc 4 [5,4,2,1] 0 ?_;obtain⟨k2,m2,s2,l2,a2,hget⟩:=bM (show i<bs.length by omega);have hnw:=dp (gl:=gl) k1 m1 s1 l1 a1 k2 m2 s2 l2 a2;refine gz [0,1,2] mixed ?_;refine A1 3 rfl (cr bA bG ⟨_,rfl,?_⟩ (he:=by exact(bV hget)));refine ga [4] ?_;refine A2 5 rfl (cv pa rfl rfl (hnw) (bl (bl .nil)) ?_);refine A2 6 rfl (dP bt ?_);refine aS ?_;refine ke 2 [5,4,2,1] 2 ?_;refine o1 (cF ?_);refine go 2 ?_;refine bk (i+1,⟨3,0,.empty,[],[.mk k1 m1 s1 l1 a1,.mk k2 m2 s2 l2 a2]⟩) rfl ?_ [0,1] mz;exact⟨⟨by omega,by rw[ff hget,hinv.2]⟩,show bs.length-(i+1)<bs.length-i by omega⟩
end
section
open Go Go.Vd Go.RowKit
def gg:Nat→ae→List ae
 |0,_=>[]
 |n+1,.mk _ _ _ _ [a,b]=>a::gg n b
 |_+1,_=>[]
theorem kH{k m:Int}{s:ByteArray}{ls:List aO}{args:List ae}(h:0<bf (.mk k m s ls args)):k=5∧∃a b,args=[a,b]∧bf (.mk k m s ls args)=bf b+1:=by
 match args with
 |[a,b]=>
  rw[bf] at h;split at h
  ·rename_i hk;exact⟨hk,a,b,rfl,by rw[bf,if_pos hk]⟩
  ·omega
 |[]=>simp[bf] at h
 |[a]=>simp[bf] at h
 |a::b::c::r=>simp[bf] at h
theorem ib:∀(n:Nat) (t:ae),n<bf t→∃m s ls a b,eg n t=.mk 5 m s ls [a,b]∧eg (n+1) t=b∧gg (n+1) t=gg n t++[a]∧bf t=n+1+bf b:=by
 intro n
 induction n with
 |zero=>
  intro t h;obtain⟨k,m,s,ls,args,rfl⟩:=ae.case t
  obtain⟨rfl,a,b,rfl,h2⟩:=kH h;exact⟨m,s,ls,a,b,rfl,rfl,rfl,by omega⟩
 |succ n ih=>
  intro t h;obtain⟨k,m,s,ls,args,rfl⟩:=ae.case t
  obtain⟨rfl,a,b,rfl,h2⟩:=kH (Nat.lt_of_le_of_lt (Nat.zero_le _) h);obtain⟨m1,s1,l1,a1,b1,h3,h4,h5,h6⟩:=ih b (by omega);exact⟨m1,s1,l1,a1,b1,h3,h4,by rw[gg,h5];rfl,by omega⟩
theorem dG:∀(n:Nat) (t:ae),(eg n t).size+aj (gg n t)≤t.size:=by
 intro n
 induction n with
 |zero=>intro t;simp[eg,gg,aj]
 |succ n ih=>
  intro t
  match t with
  | .mk k m s ls [a,b]=>
   have:=ih b;simp only[eg,gg,ae.size,aj];omega
  | .mk k m s ls []=>simp[eg,gg,aj]
  | .mk k m s ls [a]=>simp[eg,gg,aj]
  | .mk k m s ls (a::b::c::r)=>simp[eg,gg,aj]
theorem dU:∀(n:Nat) (t:ae),n≤bf t→(gg n t).length=n:=by
 intro n
 induction n with
 |zero=>intro t h;rfl
 |succ n ih=>
  intro t h;obtain⟨m,s,ls,a,b,h1,h2,h3,h4⟩:=ib n t (by omega);rw[h3,List.length_append,ih t (by omega)];rfl
variable {sg:Sg} {ps:List ByteArray}
theorem Wt.wF:∀(n:Nat) {t:ae} {c:Int},n≤bf t→Wt sg ps t c→Wt sg ps (eg n t) (c+n)∧∀(i:Nat) x,(gg n t)[i]? =some x→Wt sg ps x (c+i):=by
 intro n
 induction n with
 |zero=>intro t c h hw;exact⟨by simpa[eg] using hw,fun i x hx=>by simp[gg] at hx⟩
 |succ n ih=>
  intro t c h hw;obtain⟨m,s,ls,a,b,h1,h2,h3,h4⟩:=ib n t (by omega);obtain⟨hA,hB⟩:=ih (by omega) hw;rw[h1] at hA;obtain⟨a',b',hab,_,_,_,ha,hb⟩:=hA.two (.inr (.inr rfl));cases hab;rw[if_neg (by decide)] at hb;rw[h2,h3];refine⟨by rw[show c+((n+1:Nat):Int)=c+n+1 by omega];exact hb,fun i x hx=>?_⟩;rw[List.getElem?_append] at hx;split at hx
  ·exact hB i x hx
  ·rename_i hi;have hl:=dU n t (by omega);have:i=n:=by
    have:=(List.getElem?_eq_some_iff.1 hx).1;simp at this;omega
   subst this;rw[hl,Nat.sub_self] at hx;simp at hx;subst hx;exact ha
theorem Wt.xs{n:Nat}{t:ae}{c:Int}(h:n≤bf t)(hw:Wt sg ps t c):Wt sg ps (eg n t) (c+n):=(hw.wF n h).1
def gm(given:List ae):Nat→ae→ae
 |0,t=>t
 |i+1,t=>gm given i (dj t (dw (given.getD i aP) i 0))
def fg:Nat→ae→ae
 |0,b=>b
 |i+1,b=>fg i (.mk 3 0 .empty [] [b,.mk 0 i .empty [] []])
def iO(xs:List ae)(h:ae):ae:=xs.foldr (fun x h=>.mk 4 0 .empty [] [x,h]) h
def EB(rec:ae)(firsts:List ae)(p:Nat)(t1:ae)(a:ae):ae:=
 iO (gg (bf t1) t1) (.mk 3 0 .empty [] [bw (bw (dw rec (bf t1) 0) (firsts.map fun x=>dw x (bf t1) 0)) ((bd (eg (bf t1) t1)).2.drop p),fg (bf t1) (dw a (bf t1) 0)])
def yv(rec:ae)(firsts:List ae)(p:Nat)(t:ae)(given:List ae)(a:ae):ae:=EB rec firsts p (gm given given.length t) a
theorem zq(xs:List ae)(h:ae):(iO xs h).size=aj xs+xs.length+h.size:=by
 unfold iO
 induction xs with
 |nil=>simp[aj]
 |cons x r ih=>rw[List.foldr_cons];simp only[ae.size,bg,aj,List.length_cons,ih];omega
theorem yL:∀(n:Nat) (b:ae),(fg n b).size=b.size+2*n
 |0,b=>rfl
 |n+1,b=>by rw[fg,yL n];simp only[ae.size,bg,aj];omega
theorem pL(n:Int):∀l:List ae,aj (l.map fun x=>dw x n 0)=aj l
 |[]=>rfl
 |a::r=>by simp only[List.map_cons,aj,jh,pL n r]
theorem oH(l:List ae)(p:Nat):aj (l.drop p)≤aj l:=by
 induction l generalizing p with
 |nil=>simp[aj]
 |cons a r ih=>
  cases p with
  |zero=>simp
  |succ p=>have:=ih p;simp only[List.drop_succ_cons,aj];omega
theorem JO(rec:ae)(firsts:List ae)(p:Nat)(t1 a:ae):(EB rec firsts p t1 a).size≤8*t1.size+rec.size+2*aj firsts+a.size+8:=by
 unfold EB;have h1:=dG (bf t1) t1;have h2:=dU (bf t1) t1 (Nat.le_refl _);have h3:=dS _ t1 (Nat.le_refl _);have h4:=dD _ (eg (bf t1) t1) (Nat.le_refl _);have h5:=oH (bd (eg (bf t1) t1)).2 p;have h6:=br ((bd (eg (bf t1) t1)).2.drop p);have h7:=br firsts;rw[zq];simp only[ae.size,bg,aj,cy,yL,jh,pL,List.length_map];omega
theorem Wt.gm{sg:Sg}{ps:List ByteArray}{c:Int}(hc:0≤c){given:List ae}(hg:∀x∈given,Wt sg ps x c):∀(n:Nat) {t:ae},n≤given.length→Wt sg ps t (c+n)→Wt sg ps (gm given n t) c:=by
 intro n
 induction n with
 |zero=>intro t _ h;simpa[Go.Proofs.YtndbnldjidciiaaGreatDoor.gm] using h
 |succ n ih=>
  intro t hn h;rw[Go.Proofs.YtndbnldjidciiaaGreatDoor.gm];refine ih (by omega) (Wt.sub (by omega) (by rw[show c+(n:Int)+1=c+((n+1:Nat):Int) by omega];exact h) ?_);rw[List.getD_eq_getElem?_getD,List.getElem?_eq_getElem (by omega)];exact(hg _ (List.getElem_mem _)).NB (by omega)
theorem Wt.fg{sg:Sg}{ps:List ByteArray}{c:Int}(hc:0≤c):∀(n:Nat) {t:ae} {m:Nat},n≤m→Wt sg ps t (c+m)→Wt sg ps (fg n t) (c+m):=by
 intro n
 induction n with
 |zero=>intro t m _ h;exact h
 |succ n ih=>
  intro t m hn h;rw[Go.Proofs.YtndbnldjidciiaaGreatDoor.fg];exact ih (by omega) (Wt.app h (Wt.var (by omega) (by omega)))
theorem rS(xs:List ae)(x h:ae):iO (xs++[x]) h=iO xs (.mk 4 0 .empty [] [x,h]):=by simp[iO]
theorem Wt.iO{sg:Sg}{ps:List ByteArray}{c:Int}:∀(n:Nat) {xs:List ae} {h:ae},xs.length=n→(∀ (i:Nat) x,xs[i]? =some x→Wt sg ps x (c+i))→Wt sg ps h (c+n)→Wt sg ps (iO xs h) c:=by
 intro n
 induction n with
 |zero=>
  intro xs h hl _ hw;rw[List.eq_nil_of_length_eq_zero hl]
  simpa[Go.Proofs.YtndbnldjidciiaaGreatDoor.iO] using hw
 |succ n ih=>
  intro xs h hl hx hw;obtain⟨ys,y,rfl⟩:∃ys y,xs=ys++[y]:=⟨xs.dropLast,xs.getLast (by intro e;rw[e] at hl;cases hl),(List.dropLast_concat_getLast _).symm⟩;have hly:ys.length=n:=by simp at hl;exact hl
  rw[rS];refine ih hly (fun i x hi=>hx i x (by rw[List.getElem?_append_left (List.getElem?_eq_some_iff.1 hi).1];exact hi)) ?_;refine Wt.bind (.inl rfl) (hx n y (by rw[List.getElem?_append_right (by omega),hly,Nat.sub_self];rfl)) ?_;rw[show c+(n:Int)+1=c+((n+1:Nat):Int) by omega];exact hw
theorem Wt.yv{sg:Sg}{ps:List ByteArray}{c:Int}(hc:0≤c){rec t a:ae}{firsts given:List ae}{p:Nat}(hr:Wt sg ps rec c)(hf:∀x∈firsts,Wt sg ps x c)(hg:∀x∈given,Wt sg ps x c)(ha:Wt sg ps a c)(ht:Wt sg ps t (c+given.length)):Wt sg ps (yv rec firsts p t given a) c:=by
 have h1:=Wt.gm hc hg given.length (Nat.le_refl _) ht;unfold Go.Proofs.YtndbnldjidciiaaGreatDoor.yv EB;generalize Go.Proofs.YtndbnldjidciiaaGreatDoor.gm given given.length t=t1 at h1 ⊢;obtain⟨hE,hX⟩:=h1.wF (bf t1) (Nat.le_refl _);obtain⟨_,_,hS,_⟩:=Wt.spine _ (Nat.le_refl _) hE;refine Wt.iO (bf t1) (dU _ _ (Nat.le_refl _)) hX (Wt.app (Wt.apply (Wt.apply (hr.NB (by omega)) fun x hx=>?_) fun x hx=>hS x (List.mem_of_mem_drop hx)) (Wt.fg hc _ (Nat.le_refl _) (ha.NB (by omega))));obtain⟨y,hy,rfl⟩:=List.mem_map.1 hx;exact(hf y hy).NB (by omega)
end
section
open Go Go.Vd Go.RowKit
def fZ(vs:List ae):ae→Int→ae
 | .mk k n s ls args,d=>if n-d<0 then .mk k n s ls args else if n-d<vs.length then dw (vs.getD (vs.length-1-(n-d).toNat) aP) d 0 else .mk k (n-vs.length) s ls args
def eU(t:ae)(vs:List ae):ae:=if vs=[] then t else bZ (fZ vs) t 0
theorem js(t:ae)(vs:List ae):eU t vs=bZ (fZ vs) t 0:=by
 unfold eU;split
 ·rename_i h;subst h;refine(um (fun n s ls args j=>?_) t 0).symm;rw[fZ];split
  ·rfl
  ·rw [if_neg (by simp;omega)];simp
 ·rfl
variable {vs:List ae} {v:ae}
theorem zF{i:Nat}(h:i<vs.length):(vs++[v]).getD i aP=vs.getD i aP:=by
 rw[List.getD_eq_getElem?_getD,List.getD_eq_getElem?_getD,List.getElem?_append_left h]
theorem zG:(vs++[v]).getD vs.length aP=v:=by
 rw[List.getD_eq_getElem?_getD,List.getElem?_append_right (Nat.le_refl _),Nat.sub_self];rfl
theorem zy(G:ae→Int→ae)(m:Nat)(x:ae)(j:Int)(hj:0≤j)(hG:∀n s ls args (i:Int),0≤i→n≥i→bZ G (.mk 0 (n+(j+m)) s ls args) (i+j)=.mk 0 (n+j) s ls args)(hg:∀n s ls args (i:Int),0≤i→n<i→bZ G (.mk 0 n s ls args) (i+j)=.mk 0 n s ls args):
 bZ G (dw x (j+m) 0) j=dw x j 0:=by
 rw[dX,dX];have h:=qO (F:=dJ (j+m) 0) (G:=fun t i=>G t (i+j)) (H:=dJ j 0) (fun n s ls args i hi=>by
  rw[dJ,dJ];split
  ·rename_i h;have:=hG n s ls args i hi (by omega);rw[cH] at this;rw[cH];exact this
  ·rename_i h;have:=hg n s ls args i hi (by omega);rw[cH] at this;rw[cH];exact this) x 0 (Int.le_refl _)
 rw[← h];have key:∀(n:Nat) (t:ae) (i:Int),t.size≤n→bZ G t (i+j)=bZ (fun t i=>G t (i+j)) t i:=by
  intro n
  induction n with
  |zero=>intro t i h;obtain⟨k,m,s,ls,args,rfl⟩:=ae.case t;simp[ae.size] at h
  |succ n ih=>
   intro t i h;obtain⟨k,m,s,ls,args,rfl⟩:=ae.case t
   rw[bZ,bZ];split
   ·rfl
   ·congr 1
    simp only[ae.size] at h;have:∀l:List ae,aj l≤n→bO G (decide (4≤k)) l (i+j)=bO (fun t i=>G t (i+j)) (decide (4≤k)) l i:=by
     intro l
     induction l with
     |nil=>intro _;simp[bO]
     |cons a r ihl=>
      intro hl;simp only[aj] at hl;rw[bO,bO,ihl (by omega)]
      congr 1
      split
      ·rw [show i+j+1=(i+1)+j by omega];exact ih a _ (by omega)
      ·exact ih a _ (by omega)
    exact this args (by omega)
 have:=key _ (bZ (dJ (j+m) 0) x 0) 0 (Nat.le_refl _)
 rwa [Int.zero_add] at this
theorem Ew(vs:List ae)(x:ae)(j:Int)(hj:0≤j):bZ (fZ vs) (dw x (j+vs.length) 0) j=dw x j 0:=by
 refine zy _ vs.length x j hj (fun n s ls args i hi h=>?_) fun n s ls args i hi h=>?_
 ·rw [cH,fZ,if_neg (by omega),if_neg (by omega)]
  congr 1;omega
 ·rw [cH,fZ,if_pos (by omega)]
theorem Ey(v:ae)(x:ae)(j:Int)(hj:0≤j):bZ (dc v) (dw x (j+1) 0) j=dw x j 0:=by
 have:=zy (dc v) 1 x j hj (fun n s ls args i hi h=>by
  rw[cH,dc,if_neg (by omega),if_neg (by omega)]
  congr 1;omega) fun n s ls args i hi h=>by rw[cH,dc,if_pos (by omega)]
 simpa using this
theorem Ei(x:ae)(a b:Int)(ha:0≤a)(hb:0≤b):dw (dw x a 0) b 0=dw x (b+a) 0:=by
 rw[dX,dX,dX];refine qO (fun n s ls args j hj=>?_) x 0 (Int.le_refl _);rw[dJ,dJ];split
 ·rename_i h;rw[cH,dJ,if_pos (by omega)]
  congr 1;omega
 ·rename_i h;rw[cH,dJ,if_neg (by omega)]
theorem CE(t v:ae)(vs:List ae):eU t (vs++[v])=eU (dj t (dw v vs.length 0)) vs:=by
 rw[js,js,dj];refine(qO (fun n s ls args j hj=>?_) t 0 (Int.le_refl _)).symm;rw[dc,fZ];have hl:((vs++[v]).length:Int)=vs.length+1:=by simp
 split
 ·rename_i h;rw[cH,fZ,if_pos h]
 ·rename_i h;rw[hl];split
  ·rename_i h1;rw[if_pos (by omega),show(n-j).toNat=0 by omega];rw[Ei _ _ _ (by omega) hj,Ew vs v j hj];rw[show(vs++[v]).length-1-0=vs.length by simp,zG]
  ·rename_i h1;rw[cH,fZ,if_neg (by omega)];by_cases h2:n-1-j<vs.length
   ·rw [if_pos h2,if_pos (by omega)];rw[show(vs++[v]).length-1-(n-j).toNat=vs.length-1-(n-1-j).toNat by simp;omega,zF (by omega)]
   ·rw [if_neg h2,if_neg (by omega)]
    congr 1;omega
theorem CF(b v:ae)(vs:List ae):bZ (dc v) (bZ (fZ vs) b 1) 0=eU b (vs++[v]):=by
 rw[js];have key:∀(n:Nat) (t:ae) (i:Int),0≤i→t.size≤n→bZ (dc v) (bZ (fZ vs) t (i+1)) i=bZ (fZ (vs++[v])) t i:=by
  intro n
  induction n with
  |zero=>intro t i _ h;obtain⟨k,m,s,ls,args,rfl⟩:=ae.case t;simp[ae.size] at h
  |succ n ih=>
   intro t i hi h;obtain⟨k,m,s,ls,args,rfl⟩:=ae.case t
   by_cases hk:k=0
   ·subst hk;rw[cH,cH,fZ,fZ];have hl:((vs++[v]).length:Int)=vs.length+1:=by simp
    rw[hl];by_cases h1:m-(i+1)<0
    ·rw [if_pos h1,cH,dc];by_cases h2:m-i<0
     ·rw [if_pos h2,if_pos h2]
     ·rw [if_neg h2,if_neg h2,if_pos (by omega),if_pos (by omega),show(m-i).toNat=0 by omega,show(vs++[v]).length-1-0=vs.length by simp,zG]
    ·rw [if_neg h1,if_neg (show ¬m-i<0 by omega)];by_cases h2:m-(i+1)<vs.length
     ·rw [if_pos h2,if_pos (by omega),Ey v _ i hi];rw[show(vs++[v]).length-1-(m-i).toNat=vs.length-1-(m-(i+1)).toNat by simp;omega,zF (by omega)]
     ·rw [if_neg h2,if_neg (by omega),cH,dc,if_neg (by omega),if_neg (by omega)]
      congr 1;omega
   ·rw [bZ,if_neg hk,bZ,if_neg hk,bZ,if_neg hk];simp only[ae.size] at h
    congr 1
    have:∀l:List ae,aj l≤n→bO (dc v) (decide (4≤k)) (bO (fZ vs) (decide (4≤k)) l (i+1)) i=bO (fZ (vs++[v])) (decide (4≤k)) l i:=by
     intro l
     induction l with
     |nil=>intro _;simp[bO]
     |cons a r ihl=>
      intro hl;simp only[aj] at hl;rw[bO,bO,bO,jD,ihl (by omega)]
      congr 1
      split
      ·exact ih a _ (by omega) (by omega)
      ·exact ih a _ hi (by omega)
    exact this args (by omega)
 have:=key _ b 0 (Int.le_refl _) (Nat.le_refl _)
 rwa [Int.zero_add] at this
theorem qd(given:List ae):∀(n:Nat) (t:ae),n≤given.length→gm given n t=eU t (given.take n):=by
 intro n
 induction n with
 |zero=>intro t _;rw[gm,List.take_zero];rfl
 |succ n ih=>
  intro t hn;rw[gm,ih _ (by omega),List.take_add_one,List.getElem?_eq_getElem (by omega)];rw[Option.toList_some,CE,List.getD_eq_getElem?_getD,List.getElem?_eq_getElem (by omega)];rw[List.length_take,Nat.min_eq_left (by omega)];rfl
end
end Go.Proofs.YtndbnldjidciiaaGreatDoor
namespace Go.Vd
open Go Go.RowKit
section
variable {P:Program} {GL:Nat→List D} {n0:Nat} {Pn:py}
variable {B:Bs} {n i:Nat} {sl sl':List (Nat×SV)} {ob ob1:List Ob} {g:Gh} {a:Act} {w:World}
theorem cD.Gb(h:cD GL B ⟨n,sl,ob⟩ g a w){o:Ob}{pl:Pl}{q:Option (Nat×List (List D))}{ds:List D}(ho:ob[i]? =some o)(hnm:∀f,o≠ .fJ f)(hpl:g.gs[i]? =some pl)
 {m':Mem} (hmle:fL g.m m') (hF:Fz i q ds g ⟨m',g.gs⟩) (hsat:∀c off x,m' c off=some x→w.cell? ⟨c,off,none⟩=some x∧x.oneCell'=true) (hnew:∀c off,g.m c off=none→(cI o pl c→False)→m' c off=none)
 (o2:Ob) (hok2:eQ ⟨m',g.gs⟩ w o2 pl) (hown2:∀c,cI o2 pl c→cI o pl c) (hit2:∀k f dn cur,o2≠ .jJ k f dn cur)
 (hsl:rW i q ds sl=some sl') (hob:rX i q ds ob=some ob1):cD GL B ⟨n,sl',ob1.set i o2⟩ ⟨m',g.gs⟩ a w:=by
 have hget:=tz hob;have hil:=(List.getElem?_eq_some_iff.1 ho).1;have hlen:=h.store.len;have hneb:∀(j:Nat) oj pj c,j≠i→ob[j]? =some oj→g.gs[j]? =some pj→cI oj pj c→cI o pl c→False:=fun j oj pj c hj h1 h2 h3 e=>
  hj (h.store.oq j i oj o pj _ c h1 ho h2 hpl h3 e)
 refine⟨h.defers,h.size,fun t=>tx hF hsl (h.c7 t),?_,?_⟩
 ·refine h.store.step (p:=fun j=>j=i) hmle (fun _ _ h=>h) (fun _ _ _ h=>h) hsat (by simp[hget.1,hlen]) (fun j o1 hj h1=>?_) (fun j k f dn cur h1=>?_) (fun j k f dn cur hj h1 hk=>?_)
   (fun j o1 q c hj h1 h2 h3=>⟨rfl,fun off hn=>?_⟩) (fun j o1 hj h1=>?_) (fun j o1 q c hj h1 h2 h3=>?_) (fun i j oi oj pi pj b hi hj _ _ _ _ _ _=>hi.trans hj.symm)
  ·rw [List.getElem?_set_ne (Ne.symm hj)] at h1;obtain⟨o,e1,e2⟩:=hget.2 j o1 h1;exact⟨o,e1,(Ob.pw hF e2).1⟩
  ·by_cases hj:j=i
   ·subst hj;rw[List.getElem?_set_self (by rw[hget.1];exact hil)] at h1;exact absurd (Option.some.inj h1) (hit2 _ _ _ _)
   ·rw [List.getElem?_set_ne (Ne.symm hj)] at h1;obtain⟨o0,e1,e2⟩:=hget.2 j _ h1;have e3:=(Ob.pw hF e2).2.1 _ _ _ _ rfl;subst e3;have e4:=h.store.eC j k f dn cur e1;have hk:k≠i:=fun e=>by subst e;rw[ho] at e4;cases e4;exact hnm f rfl
    rw[List.getElem?_set_ne (Ne.symm hk)];have hkl:=(List.getElem?_eq_some_iff.1 e4).1;obtain⟨o5,e5,e6⟩:=hget.2 k ob1[k] (by simp[hget.1,hkl]);rw[e4] at e5;cases e5;rw[List.getElem?_eq_getElem (by rw[hget.1];exact hkl),(Ob.pw hF e6).2.2 f rfl]
  ·rw [List.getElem?_set_ne (Ne.symm hj)] at h1;obtain⟨o0,e1,e2⟩:=hget.2 j _ h1;have e3:=(Ob.pw hF e2).2.1 _ _ _ _ rfl;subst e3 hk;have e4:=h.store.eC j k f dn cur e1;rw[ho] at e4;cases e4;exact hnm f rfl
  ·exact hnew c off hn (hneb j o1 q c hj h1 h2 h3)
  ·subst hj;rw[List.getElem?_set_self (by rw[hget.1];exact hil)] at h1;cases h1;exact⟨_,hpl,hok2⟩
  ·subst hj;rw[List.getElem?_set_self (by rw[hget.1];exact hil)] at h1;cases h1;simp only at h2;rw[hpl] at h2;cases h2;exact .inl ⟨_,_,_,rfl,ho,hpl,hown2 _ h3⟩
 ·refine h.fH.step (X:=fun c=>cI o pl c) (Fr.refl _ w) (fun c e=>h.fH.own i _ _ c ho hpl e) hmle (fun c off x hx hn=>?_) (fun j o1 p c h1 h2 h3=>?_) (fun _ _ h=>h)
  ·refine .inl (Classical.byContradiction fun hc=>?_);have:=hnew c off hn hc;simp only at hx;rw[this] at hx;cases hx
  ·by_cases hj:j=i
   ·subst hj;rw[List.getElem?_set_self (by rw[hget.1];exact hil)] at h1;cases h1;simp only at h2;rw[hpl] at h2;cases h2;exact .inl (h.fH.own _ _ _ _ ho hpl (hown2 _ h3))
   ·rw [List.getElem?_set_ne (Ne.symm hj)] at h1;obtain⟨o0,e1,e2⟩:=hget.2 j o1 h1;refine .inl (h.fH.own j o0 p c e1 h2 ?_);cases o0<;>simp only[Ob.fz,Option.bind_eq_some_iff,Option.some.injEq] at e2
    case cells l ty=>obtain⟨l',_,rfl⟩:=e2;cases p<;>exact h3
    all_goals (subst e2;exact h3)
variable {e k:Nat}
theorem cD.QE(h:cD GL B ⟨n,sl,ob⟩ g a w){t:Nat}{ls:List (List D)}{pq:Option (Option Nat×Nat)}(ho:ob[i]? =some (.buf e k ls pq))(ht:gI t sl=some (.arr i ls.length))
 (hsl:rW i (some (k,ls)) [] sl=some sl') (hob:rX i (some (k,ls)) [] ob=some ob1):∃g',cD GL B ⟨n,(t,.own i k ls)::sl',ob1.set i (.row e k)⟩ g' a w:=by
 obtain⟨pl,hpl⟩:=h.store.place ho;have hok:=h.store.gW _ _ _ ho hpl;have hv:(SV.arr i ls.length).Den g (a.tmps.getD t undef):=by rw[← ft ht];exact h.c7 t
 have key:∀{m':Mem} {b:Option Nat} {c:Nat},cD GL B ⟨n,sl',ob1.set i (.row e k)⟩ ⟨m',g.gs⟩ a w→g.gs[i]? =some (.row b c ls.length)→ls.length≤c→(ls≠[]→∃d,b=some d∧ew m' k d 0 ls)→cD GL B ⟨n,(t,.own i k ls)::sl',ob1.set i (.row e k)⟩ ⟨m',g.gs⟩ a w:=fun hr hb hc hd=>by
  refine⟨hr.defers,hr.size,fun t'=>?_,hr.store,hr.fH⟩;rw[eL];split
  ·rename_i e;subst e;obtain⟨b',cap,h1,h2⟩:=hv;rw[hb] at h1;cases h1;exact⟨_,_,hb,h2,hc,hd⟩
  ·exact hr.c7 t'
 cases pl with
 |loc b=>exact hok.elim
 |row b c m=>
  obtain⟨hm,hl,⟨xs,hown,hdx,h1x⟩,hmn⟩:=si h.store ho hpl;subst hm;cases b with
  |none=>
   have hm0:ls.length=0:=by
    rcases hown.2 with⟨_,h2⟩|⟨g0,c0,cur,h2,_⟩
    ·exact h2
    ·cases h2
   have hls:ls=[]:=List.length_eq_zero_iff.1 hm0;refine⟨⟨g.m,g.gs⟩,key (h.Gb (q:=some (k,ls)) (ds:=[]) ho (fun f e=>by cases e) hpl (fL.refl _) ⟨fL.refl _,fun _ _ h=>h,fun b hb=>trivial,fun r n y hr hd=>?_⟩ h.store.sat (fun _ _ h _=>h) (.row e k) ⟨⟨xs,hown⟩,fun c hc=>by cases hc⟩ (fun c hc=>hc) (fun _ _ _ _ e=>by cases e) hsl hob) hpl (by omega) fun h=>absurd hls h⟩;cases hr;obtain⟨b',cap,hb,e⟩:=hd;rw[hpl] at hb;cases hb;exact⟨none,c,by rw[e,hls];rfl,by simp[hls],fun h=>absurd hls h⟩
  |some b=>
   have hrow:=qF (b:=b) hown;have hmle:fL g.m (eT g.m b xs):=fL.set fun off x hx=>by rw[hmn b rfl] at hx;cases hx
   have hden:ew (eT g.m b xs) k b 0 ls:=o8 hl (dH.mono hmle _ hdx) fun i x hx=>by
    show eT _ _ _ _ _=_;unfold eT;rw[if_pos rfl,Nat.zero_add];exact hx
   refine⟨⟨eT g.m b xs,g.gs⟩,key (h.Gb (q:=some (k,ls)) (ds:=[]) ho (fun f e=>by cases e) hpl hmle ⟨hmle,fun _ _ h=>h,fun b hb=>trivial,fun r n y hr hd=>?_⟩ (fun c' off x hx=>?_) (fun c' off hn hc=>?_) (.row e k) ⟨⟨xs,hown⟩,fun d hd o hlo=>?_⟩ (fun c hc=>hc) (fun _ _ _ _ e=>by cases e) hsl hob) hpl hrow.1 fun _=>⟨b,rfl,hden⟩⟩
   ·cases hr;obtain⟨b',cap,hb,e⟩:=hd;rw[hpl] at hb;cases hb;exact⟨some ⟨b,0,none⟩,c,by rw[e];rfl,hrow.1,fun _=>⟨b,0,rfl,hden⟩⟩
   ·simp only[eT] at hx;by_cases hcb:c'=b
    ·subst hcb;rw[if_pos rfl] at hx;exact⟨hrow.2 off x hx,h1x x (List.mem_of_getElem? hx)⟩
    ·rw [if_neg hcb] at hx;exact h.store.sat c' off x hx
   ·unfold eT;rw[if_neg (fun e=>hc (by rw[e];rfl))];exact hn
   ·cases hd;show eT _ _ _ _ _=_;unfold eT;have hxl:=hown.1;rw[if_pos rfl,List.getElem?_eq_none (by omega)]
theorem BY{ops l:List Oper}{Q:Ex→St→Prop}{ob':List Ob}(i t:Nat){ls:List (List D)}{pq:Option (Option Nat×Nat)}(ho:cV i ob=some (.buf e k ls pq))(ht:gI t sl=some (.arr i ls.length))(hsl:rW i (some (k,ls)) [] sl=some sl')(hob:rX i (some (k,ls)) [] ob=some ob1)(hob':gS i (.row e k) ob1=some ob')
 (h:bu P GL n0 Pn ops l Q ⟨n,(t,.own i k ls)::sl',ob'⟩):bu P GL n0 Pn ops l Q ⟨n,sl,ob⟩:=fun B hB a w ⟨g,hr⟩=>by
 obtain⟨g',hr'⟩:=hr.QE (bQ ho) ht hsl hob;rw[← (eR hob').1] at hr';exact h B hB a w ⟨g',hr'⟩
end
end Go.Vd
namespace Go.Vd
open Go Go.RowKit
section
variable {P:Program} {GL:Nat→List D} {n0:Nat} {Pn:py} {o:Oper}
variable {σ:St} {K:SV→List Nat→Prop} {T:TypeId} {x:Operand} {n c:Nat}
theorem rY(hu:P.underlying T=some (.slice (bj P T).elem))(ho:o.op=.call { callee:=.builtin .cap,args:= #[x],argTypes:= #[T] })
 (hx:bR GL σ.sl x=some (.d (.v (.slice none n c)))) (hK:K (.d (.v (.int .i64 c))) []):ak P GL o σ K:=ef fun B g a w hr=>by
 have h1:a.eval x=.slice none n c:=hr.fj hx;exact⟨.d (.v (.int .i64 c)),.int .i64 c,fun w'=>by simp[execOp,ho,h1,resolve,invoke,builtin,Builtin.cap_,run_underlying hu,goInt],rfl,hK⟩
variable {ti:TI}
theorem AM{hi:Operand}{k2:IntKind}(hu:P.underlying T=some (.slice (bj P T).elem))(hT:bj P (bj P T).elem=ti)(hok:ti.ok=true)
 (ho:o.op=.slice T x none (some hi) none) (hx:bR GL σ.sl x=some (.d (.v (.slice none 0 0)))) (hh:bR GL σ.sl hi=some (.d (.v (.int k2 0)))) (hK:K (.d (.v (.slice none 0 0))) []):ak P GL o σ K:=ef fun B g a w hr=>by
 have e1:a.eval x=.slice none 0 0:=hr.fj hx;have e3:a.eval hi=.int k2 0:=hr.fj hh;rw[← hT] at hok;obtain⟨inf,d,hinf,hdd,hs',_⟩:=sP hok;refine⟨.d (.v (.slice none 0 0)),.slice none 0 0,fun w'=>?_,rfl,hK⟩;simp only[execOp,ho,e1,e3,Option.map_some,Option.map_none,Sem.run_bind];have h2:=jk (P:=P) (kd:=k2) (i:=0) (y:=0) (c:=.sliceAcap) (by omega) (by omega) w';simp[Instr.sliceAt,Instr.slice,run_underlying hu,Instr.sliceBounds,h2,sizeOf,typeInfo,hinf]
theorem EN{s:SV}{d:D}(hc:nI P T=true)(ho:o.op=.makeInterface T x)(hx:bR GL σ.sl x=some s)(hs:s.gV=some d)(hK:K (.d (.lJ T d)) []):ak P GL o σ K:=ef fun B g a w hr=>
 ⟨.d (.lJ T d),.iface T (a.eval x),fun w'=>by simp only[execOp,ho,Sem.run_bind,ud hc,Result.andThen_ok,Sem.run_pure],⟨_,rfl,SV.Den.gV _ (hr.fj hx) hs⟩,hK⟩
def JL:D→Bool
 | .cp _=>true
 |_=>false
def Rq(X:D):Prop:=X=.v (.pointer none)∨∃l,X=.cp l
variable {e:TypeId}
theorem Hy{T':TypeId}{X:D}(hp:P.underlying T=some (.pointer e))(ho:o.op=.binOp .eql T x (.const (.pointer none)) T')(hx:bR GL σ.sl x=some (.d X))(hX:Rq X)(hK:K (.d (.v (.bool (!JL X)))) []):ak P GL o σ K:=by
 rcases hX with rfl|⟨l,rfl⟩
 ·exact vk hp ho hx hK
 ·exact xB hp ho hx hK
theorem tK{z:Array Value}:Builtin.zeroCells z n=madeCells z (n*z.size):=rfl
theorem vC(t u ty e:TypeId)(i:TypeInfo)(z:Value)(ht:P.underlying t=some (.slice e))(hu:P.underlying u=some (.int .i64))(hi:P.info? e=some i)(hz:i.zero=some z)(n:Nat)(h0:0<n)(h63:(n:Int)≤9223372036854775807)(h48:n*i.bytes≤281474976710656)(hz0:0<i.size)(w:World):
 (Builtin.append_ #[t,u] ty #[.slice none 0 0,.int .i64 n]).run P w=
  .ok (.slice (some ⟨w.heap.size,0,none⟩) n (grownCap w n 0 e)) (w.drew.alloc (.cells (Builtin.zeroCells z.cells n++Builtin.zeroCells z.cells (grownCap w n 0 e-n)) e)):=by
 have hn:n≠0:=by omega
 have h63':¬(9223372036854775807<(n:Int)):=by omega
 have h48':¬(281474976710656<Builtin.nextslicecap n 0*i.bytes):=by rw[nextslicecap_zero h0];omega
 have hw:IntKind.i64.wrap (n:Int)=n:=vT (by omega) h63;have hl:¬(n:Int)<0:=by omega
 have hb:¬(281474976710656<(n:Int)*i.bytes):=by
  have:((n*i.bytes:Nat):Int)≤281474976710656:=by omega
  rw[Int.natCast_mul] at this;omega
 have hs:n≠0∧i.size≠0:=⟨hn,by omega⟩;simp[Builtin.append_,run_underlying ht,run_underlying hu,sizeOf,typeInfo,zeroValue,hi,hz,asInt,asIntOf,hw,hl,hb,hn,h63',h48',hs,Question.forced,run_firstCells_none,newRow,grownCap];intro h;exact absurd h (Nat.ne_of_gt (Nat.mul_pos h0 hz0))
theorem Ec{t j:Nat}{sl:List (Nat×SV)}{ob ob':List Ob}{K:St→Prop}{T:Nat→Prop}{ty u:TypeId}{size bytes:Nat}{s:Operand}(TS:iW P ty e size bytes)(hU:P.underlying u=some (.int .i64))(hT:bj P e=ti)(ho:o.op=.call { callee:=.builtin .append,args:= #[s,x],argTypes:= #[ty,u] })
 (hd:o.dst=some t) (ht:Nat.blt t n=true) (hs:bR GL sl s=some (.d (.v (.slice none 0 0)))) (hx:bR GL sl x=some (.d (.v (.int .i64 (c:Nat))))) (hone:ti.zero.all (·.oneCell')=true) (hl:ob.length=j) (hb:0<c∧0<size∧c*bytes≤281474976710656∧c≤maxLen) (hob:hZ ob [.buf e size (List.replicate c (ti.zero.map D.v)) none]=some ob')
 (h:K ⟨n,(t,.arr j c)::sl,ob'⟩):dh P GL n0 Pn T o ⟨n,sl,ob⟩ K:=fun B hB g a w hr next Q hK hP=>by
 subst hl hT;obtain⟨hb0,hb1,hb2,hb3⟩:=hb;rw[fh hob] at h;have hinfo:=TS.info;have hzero:=TS.zero;cases hi:P.info? e with
 |none=>simp[hi] at hinfo
 |some i=>
 rw[hi] at hinfo hzero;simp only[Option.map_some,Option.some.injEq,Prod.mk.injEq,Option.bind_some] at hinfo hzero;cases hz:i.zero with
 |none=>simp[hz] at hzero
 |some z=>
 rw[hz] at hzero;simp only[Option.map_some,Option.some.injEq] at hzero;obtain⟨q1,q2⟩:=hinfo;have hze:(bj P e).zero=z.cells.toList:=by simp[bj,hi,hz]
 rw[hze] at h hone;have hse:a.eval s=.slice none 0 0:=hr.fj hs;have hxe:a.eval x=.int .i64 (c:Nat):=hr.fj hx;have hrun1:=vC (P:=P) ty u o.type e i z TS.under hU hi hz c hb0 (by simp only[maxLen] at hb3;omega) (by rw[q2];exact hb2) (by omega) w;have hge:=grownCap_ge w c 0 e;have hcm:grownCap w c 0 e≤maxLen:=grownCap_le_maxLen w c 0 e hb3;generalize hcap:grownCap w c 0 e=cap at hrun1 hge hcm;have hrun2:(execOp a.eval o).run P w=.ok (.value (.slice (some ⟨w.heap.size,0,none⟩) c cap)) (w.drew.alloc (.cells (Builtin.zeroCells z.cells c++Builtin.zeroCells z.cells (cap-c)) e)):=by
  simp[execOp,ho,hse,hxe,resolve,invoke,builtin,hrun1]
 unfold Oper.wp;rw[hrun2];show next (a.put o.dst _) _
 rw[hd];have hm0:∀o,g.m w.heap.size o=none:=fun o=>by
  cases hx:g.m w.heap.size o with
  |none=>rfl
  |some x=>have:=hr.store.ji hx;omega
 have hone2:∀u∈z.cells.toList,u.oneCell'=true:=fun u hu=>List.all_eq_true.1 hone u hu
 have hflat:((List.replicate c (z.cells.toList.map D.v)).flatten)=((List.replicate c z.cells.toList).flatten).map D.v:=by
  rw[List.map_flatten,List.map_replicate]
 have hdv:∀l:List Value,dH g.m (l.map D.v) l:=fun l=>by
  induction l with
  |nil=>rfl
  |cons x r ih=>exact⟨x,r,rfl,rfl,ih⟩
 have hzl:(List.replicate c z.cells.toList).flatten.length=c*size:=by
  have:=congrArg List.length (uo hzero c);rw[← this];simp[size_madeCells]
 have hown:(w.drew.alloc (.cells (Builtin.zeroCells z.cells c++Builtin.zeroCells z.cells (cap-c)) e)).ownsRow 0 e size (.slice (some ⟨w.heap.size,0,none⟩) c cap) c (List.replicate c z.cells.toList).flatten:=by
  refine⟨hzl,.inr ⟨w.heap.size,_,_,rfl,Nat.zero_le _,heap_alloc_new w.drew _,hge,hcm,?_,?_⟩⟩
  ·rw [Array.size_append,tK,tK,size_madeCells,size_madeCells,hzero,←Nat.add_mul];congr 1;omega
  ·rw [Array.toList_append,tK,hzero,uo hzero,←hzl];exact List.take_left
 obtain⟨h1,h2⟩:=hr.Ax (w':=w.drew.alloc (.cells (Builtin.zeroCells z.cells c++Builtin.zeroCells z.cells (cap-c)) e)) (((Fr.refl _ w).drew).alloc _) (fL.refl _) (fun b o x h1 h2=>by rw[h2] at h1;cases h1) (o':=.buf e size (List.replicate c (z.cells.toList.map D.v)) none) (pl:=.row (some w.heap.size) cap c)
  ⟨by simp,fun x hx=>by rw[(List.mem_replicate.1 hx).2];simpa using hzero,⟨_,hown,by rw[hflat];exact hdv _,fun u hu=>by
   obtain⟨l,hl,hu⟩:=List.mem_flatten.1 hu;rw[(List.mem_replicate.1 hl).2] at hu;exact hone2 u hu⟩,(fun c hc o=>by cases hc;exact hm0 o),fun r e=>by cases e⟩ (fun b hb=>by simp only[cI,dT,Option.some.injEq] at hb;omega) (fun i f dn cur e=>by cases e)
 refine hK _ _ _ _ (h1.q9 (s:=.arr ob.length c) ht ⟨some w.heap.size,cap,?_,rfl⟩) ⟨h2.1,fun i b o _=>h2.2 i b o (fun x=>x)⟩ h;show(g.gs++[_])[ob.length]? =_;have hl2:ob.length=g.gs.length:=hr.store.len;rw[hl2];simp
end
end Go.Vd
namespace Go.Proofs.YtndbnldjidciiaaGreatDoor
section
open Go Go.Vd Go.RowKit
attribute [local irreducible] bq bu dh ak bJ cQ
variable {g gl:Nat→List D}
theorem v9:∀{C:List ae} {i:Nat} {t:ae},(ay C).set i t.cells=ay (C.set i t)
 |[],i,t=>by simp[ay]
 |a::r,0,t=>by simp[ay]
 |a::r,i+1,t=>by simp[ay,v9]
def Jc(L C:List ae)(i:Nat):Prop:=C.length=L.length∧∀x,x<L.length→C[x]? =if x<i∨L.length≤x+i then L[L.length-1-x]? else L[x]?
theorem G0(L:List ae):Jc L L 0:=⟨rfl,fun x hx=>by rw[if_neg (by omega)]⟩
variable {L C:List ae} {i:Nat}
theorem y9{ti tj:ae}(h:Jc L C i)(hij:i+1<L.length-i)(hi:C[i]? =some ti)(hj:C[L.length-1-i]? =some tj):Jc L ((C.set i tj).set (L.length-1-i) ti) (i+1):=by
 obtain⟨h1,h2⟩:=h;refine⟨by simpa using h1,fun x hx=>?_⟩;have ei:=h2 i (by omega);have ej:=h2 (L.length-1-i) (by omega);rw[if_neg (by omega)] at ei ej;rw[List.getElem?_set,List.getElem?_set,List.length_set,h1];by_cases e1:L.length-1-i=x
 ·rw [if_pos e1,if_pos (by omega),if_pos (by omega),show L.length-1-x=i by omega,←ei,hi]
 ·rw [if_neg e1];by_cases e2:i=x
  ·rw [if_pos e2,if_pos (by omega),if_pos (by omega),←e2,←ej,hj]
  ·rw [if_neg e2,h2 x hx];by_cases e3:x<i∨L.length≤x+i
   ·rw [if_pos e3,if_pos (by omega)]
   ·rw [if_neg e3,if_neg (by omega)]
theorem Jb(h:Jc L C i)(hi:¬(i:Int)<(L.length:Int)-1-i):C=L.reverse:=by
 obtain⟨h1,h2⟩:=h;apply List.ext_getElem?;intro x;by_cases hx:x<L.length
 ·rw [h2 x hx,List.getElem?_reverse hx];by_cases e3:x<i∨L.length≤x+i
  ·rw [if_pos e3]
  ·rw [if_neg e3,show L.length-1-x=x by omega]
 ·rw [List.getElem?_eq_none (by omega),List.getElem?_eq_none (by simp;omega)]
theorem tg{pq:Option (Option Nat×Nat)}(L:List ae)(hb:L.length≤1099511627776):er Tryz.prog gl 133 [.buf 39 5 (ay L) pq] [.arr 0 (ay L).length] fun out ob'=>out=.ret (.d (.bY []))∧ob'=[.buf 39 5 (ay L.reverse) pq]:=by
 have hN:=aN L;refine bS Tryz.func133 Tryz.ntmps133 1 ?_;refine gc 3 ?_;refine o1 (gG bA rfl rfl ?_);refine o1 (iz ?_);refine ko 5 [3,2,0] 0 ?_;refine lp (ι:=Nat×List ae) (fun⟨i,C⟩=>[(2,int i),(3,int ((ay L).length-1-i))]) (fun⟨i,C⟩=>[.buf 39 5 (ay C) pq]) [0] (fun⟨i,C⟩=>Jc L C i∧i≤L.length) (fun⟨i,C⟩=>L.length-i) ((0,L)) ([0]) rfl ?I1 ?M1 ?H1
 case I1=>
  exact⟨G0 L,Nat.zero_le _⟩
 case M1=>
  refine mo ?_ (aH (ee rfl (by exact Fit.of_eq (by rw[show((0:Nat):Int)=0 from rfl,Int.sub_zero];rfl)) (aH dC)))
  repeat (first|exact cG|refine xT ?_)
 case H1=>
  rintro⟨i,C⟩ hinv
  try dsimp only at hinv
  refine kc 0 [2,3,0] 8 ?_;refine cJ (fun h1=>?_) (fun h1=>?_)
  ·refine gc 4 ?_;refine fM ?_;refine jL (l:=[]) rfl rfl ([0]) ([.buf 39 5 (ay C) pq]) rfl rfl rfl ?_ ?_
   ·repeat (first|exact cG|refine xT ?_)
   ·rw [Jb hinv.1 (by rw[← hN];omega)];exact⟨rfl,rfl⟩
  refine gc 4 ?_;have hCl:=hinv.1.1;have hCt:=aN C;obtain⟨k1,m1,s1,l1,a1,hg1⟩:=bM (show i<C.length by omega);obtain⟨k2,m2,s2,l2,a2,hg2⟩:=bM (show L.length-1-i<C.length by omega);have hn:(((ay L).length:Int)-1-i).toNat=L.length-1-i:=by omega
  have hei:=bV hg1;have hej:(ay C)[(((ay L).length:Int)-1-i).toNat]? =some [.v (.int .i64 k2),.v (.int .i64 m2),.v (.string s2),.sl 3 (bE l2),.sl 5 (ay a2)]:=by rw[hn,gX hg2];rfl
  have hs1:(ay C).set i [.v (.int .i64 k2),.v (.int .i64 m2),.v (.string s2),.sl 3 (bE l2),.sl 5 (ay a2)]=ay (C.set i (.mk k2 m2 s2 l2 a2)):=v9 (t:=.mk k2 m2 s2 l2 a2);have hs2:(ay (C.set i (.mk k2 m2 s2 l2 a2))).set (L.length-1-i) [.v (.int .i64 k1),.v (.int .i64 m1),.v (.string s1),.sl 3 (bE l1),.sl 5 (ay a1)]=ay ((C.set i (.mk k2 m2 s2 l2 a2)).set (L.length-1-i) (.mk k1 m1 s1 l1 a1)):=v9 (t:=.mk k1 m1 s1 l1 a1);refine gz [0,1,2,3,4,5] mixed ?_;refine A1 6 rfl (dK bA bG rfl rfl rfl rfl rfl rfl (by omega) ⟨_,rfl,?_⟩);refine ga [8,9] ?_;refine A1 10 rfl (dK bA bG rfl rfl rfl rfl rfl rfl (by omega) ⟨_,rfl,?_⟩);refine cP (rs:=[7,11]) (by kernel_rfl) rfl ⟨?_,?_,trivial⟩
  ·skip
   refine A4 (T:=fun _=>False) 7 rfl (kQ bt rfl rfl rfl rfl rfl rfl rfl rfl rfl (hej) ?_);refine A2 (T:=fun _=>False) 11 rfl (kQ bt rfl rfl rfl rfl rfl rfl rfl rfl rfl (hei) ?_);refine A1 12 rfl (dK bA bG rfl rfl rfl rfl rfl rfl (by omega) ⟨_,rfl,?_⟩);refine A2 13 rfl (fK bt rfl rfl rfl rfl rfl rfl rfl rfl rfl rfl rfl rfl ⟨rfl,by omega⟩ rfl ?_);refine A1 14 rfl (dK bA bG rfl rfl rfl rfl rfl rfl (by omega) ⟨_,rfl,?_⟩);refine A2 15 rfl (fK bt rfl rfl rfl rfl rfl rfl rfl rfl rfl rfl rfl rfl ⟨rfl,by(simp only[List.length_set,aN];omega)⟩ rfl ?_);refine aS ?_;refine ke 2 [2,3,0] 2 ?_;refine o1 (cF ?_);refine go 1 ?_;refine o1 (iz ?_);refine go 3 ?_;simp only[Int.toNat_natCast];rw[hn,hs1,hs2];refine bk ((i+1,(C.set i (.mk k2 m2 s2 l2 a2)).set (L.length-1-i) (.mk k1 m1 s1 l1 a1))) rfl ?_ ([0]) ?_
   ·exact ⟨⟨y9 hinv.1 (by omega) hg1 hg2,by omega⟩,by omega⟩
   ·refine mo ?_ (aH (ee rfl (by exact Fit.of_eq (by rw[show((i+1:Nat):Int)=(i:Int)+1 by omega,show((ay L).length:Int)-1-((i:Int)+1)=(ay L).length-1-i-1 by omega];rfl)) (aH dC)))
    repeat (first|exact cG|refine xT ?_)
  ·skip
   refine A4 (T:=fun _=>False) 11 rfl (kQ bt rfl rfl rfl rfl rfl rfl rfl rfl rfl (hei) ?_);refine A2 (T:=fun _=>False) 7 rfl (kQ bt rfl rfl rfl rfl rfl rfl rfl rfl rfl (hej) ?_);refine A1 12 rfl (dK bA bG rfl rfl rfl rfl rfl rfl (by omega) ⟨_,rfl,?_⟩);refine A2 13 rfl (fK bt rfl rfl rfl rfl rfl rfl rfl rfl rfl rfl rfl rfl ⟨rfl,by omega⟩ rfl ?_);refine A1 14 rfl (dK bA bG rfl rfl rfl rfl rfl rfl (by omega) ⟨_,rfl,?_⟩);refine A2 15 rfl (fK bt rfl rfl rfl rfl rfl rfl rfl rfl rfl rfl rfl rfl ⟨rfl,by(simp only[List.length_set,aN];omega)⟩ rfl ?_);refine aS ?_;refine ke 2 [2,3,0] 2 ?_;refine o1 (cF ?_);refine go 1 ?_;refine o1 (iz ?_);refine go 3 ?_;simp only[Int.toNat_natCast];rw[hn,hs1,hs2];refine bk ((i+1,(C.set i (.mk k2 m2 s2 l2 a2)).set (L.length-1-i) (.mk k1 m1 s1 l1 a1))) rfl ?_ ([0]) ?_
   ·exact ⟨⟨y9 hinv.1 (by omega) hg1 hg2,by omega⟩,by omega⟩
   ·refine mo ?_ (aH (ee rfl (by exact Fit.of_eq (by rw[show((i+1:Nat):Int)=(i:Int)+1 by omega,show((ay L).length:Int)-1-((i:Int)+1)=(ay L).length-1-i-1 by omega];rfl)) (aH dC)))
    repeat (first|exact cG|refine xT ?_)
end
section
open Go Go.Vd Go.RowKit
attribute [local irreducible] bq bu dh ak bJ cQ
variable {g gl:Nat→List D}
theorem nL(k:Int)(args:List ae):cC Tryz.prog gl 72 [.v (.int .i64 k),.sl 5 (ay args)] (· =(ae.mk k 0 .empty [] args).d):=by
 refine bD Tryz.func72 Tryz.ntmps72 ?_;refine gc 14 ?_;refine ed ((ae.mk k 0 .empty [] args).d) ?_;rfl
theorem xU(k m:Int)(s:ByteArray)(ls:List aO)(args:List ae)(bs:List ae)(hb:bs.length≤1099511627776):
 cC Tryz.prog gl 69 [(ae.mk k m s ls args).d,.sl 5 (ay bs)] (· =(bw (.mk k m s ls args) bs).d):=by
 have hal:=aN bs;refine bD Tryz.func69 Tryz.ntmps69 ?_;refine kc 15 [9,8,7,4,2] 0 ?_;refine lp (ι:=Nat×(Int×Int×ByteArray×List aO×List ae)) (fun⟨i,⟨k1,m1,s1,l1,a1⟩⟩=>[(9,int i)]) (fun⟨i,⟨k1,m1,s1,l1,a1⟩⟩=>[.cells [.d (.v (.int .i64 k1)),.d (.v (.int .i64 m1)),.d (.v (.string s1)),.d (.sl 3 (bE l1)),.d (.sl 5 (ay a1))] 39,.cells [.d (.v (.int .i64 0)),.d (.v (.int .i64 0)),.d (.v (.string .empty)),.d (.v (.slice none 0 0)),.d (.v (.slice none 0 0))] 39]) [8,7,4,2] (fun⟨i,⟨k1,m1,s1,l1,a1⟩⟩=>i≤bs.length∧bw (.mk k m s ls args) (bs.take i)=.mk k1 m1 s1 l1 a1) (fun⟨i,⟨k1,m1,s1,l1,a1⟩⟩=>bs.length-i) ((0,⟨k,m,s,ls,args⟩)) ([0,1]) rfl ?I2 ?M2 ?H2
 case I2=>
  exact⟨Nat.zero_le _,rfl⟩
 case M2=>
  exact mz
 case H2=>
  rintro⟨i,⟨k1,m1,s1,l1,a1⟩⟩ hinv
  try dsimp only at hinv
  refine kc 0 [9,8,7,4,2] 6 ?_;refine cJ (fun h2=>?_) (fun h2=>?_)
  ·refine kc 5 [4,2] 7 ?_;refine ed ((ae.mk k1 m1 s1 l1 a1).d) ?_;rw[← hinv.2,List.take_of_length_le (by omega)]
  refine gc 5 ?_;obtain⟨k2,m2,s2,l2,a2,hget⟩:=bM (show i<bs.length by omega);have hnw:=nL (gl:=gl) 3 [.mk k1 m1 s1 l1 a1,.mk k2 m2 s2 l2 a2];refine gc 1 ?_;refine o1 (cr bA bG ?_ (he:=by exact(bV hget)));refine go 8 ?_;refine oc (gK dL [.tmp 13,.tmp 14] bt ?_);refine oc (cv Kr rfl rfl (hnw) (an (bl .nil)) ?_);refine ko 4 [9,8,7,4,2] 1 ?_;refine o1 (cF ?_);refine go 2 ?_;refine bk (i+1,⟨3,0,.empty,[],[.mk k1 m1 s1 l1 a1,.mk k2 m2 s2 l2 a2]⟩) rfl ?_ [0,1] mz;exact⟨⟨by omega,by rw[ff hget,hinv.2]⟩,show bs.length-(i+1)<bs.length-i by omega⟩
end
section
open Go Go.Vd Go.RowKit
attribute [local irreducible] bq bu dh ak bJ cQ
variable {g gl:Nat→List D}
theorem Nd(n:Int):cC Tryz.prog gl 117 [.v (.int .i64 n)] (· =(ae.mk 0 n .empty [] []).d):=by
 refine bD Tryz.func117 Tryz.ntmps117 ?_;refine gc 13 ?_;refine ed ((ae.mk 0 n .empty [] []).d) ?_;rfl
variable {B k m:Int} {s:ByteArray} {ls:List aO} {args:List ae}
theorem Jp{T:ae}{i:Nat}(he:eg i T=.mk k m s ls args)(hi:i+bf (.mk k m s ls args)=bf T)(hs:iA B (.mk k m s ls args))(h5:k=5):
 ∃ka ma sa la aa kb mb sb lb ab,args=[.mk ka ma sa la aa,.mk kb mb sb lb ab]∧iA B (.mk kb mb sb lb ab)∧i+1+bf (.mk kb mb sb lb ab)=bf T∧bf (.mk k m s ls args)=bf (.mk kb mb sb lb ab)+1∧gg (i+1) T=gg i T++[.mk ka ma sa la aa]∧eg (i+1) T=.mk kb mb sb lb ab:=by
 obtain⟨k1,m1,s1,l1,a1,k2,m2,s2,l2,a2,rfl,hs1,hs2⟩:=DS hs (.inr (.inr h5));have hp:bf (.mk k m s ls [.mk k1 m1 s1 l1 a1,.mk k2 m2 s2 l2 a2])=bf (.mk k2 m2 s2 l2 a2)+1:=by rw[bf,if_pos h5]
 obtain⟨m6,s6,l6,a,b,g1,g2,g3,g4⟩:=ib i T (by omega);rw[he] at g1;simp only[ae.mk.injEq,List.cons.injEq,and_true] at g1;obtain⟨_,_,_,_,rfl,rfl⟩:=g1;exact⟨_,_,_,_,_,_,_,_,_,_,rfl,hs2,by omega,hp,g3,g2⟩
theorem qJ(h5:¬k=5):bf (.mk k m s ls args)=0:=by
 match args with
 |[a,b]=>rw[bf,if_neg h5]
 |[]=>rfl
 |[a]=>rfl
 |a::b::c::r=>rfl
theorem pc(k n:Int)(s:ByteArray)(ls:List aO)(args:List ae)(hs:iA B (.mk k n s ls args))(hpz:bf (.mk k n s ls args)≤1099511627776):
 cC Tryz.prog gl 137 [(ae.mk k n s ls args).d,.v (.int .i64 5),.v (.int .i64 (-1))] (· =.bY [.sl 5 (ay (gg (bf (.mk k n s ls args)) (.mk k n s ls args))),(eg (bf (.mk k n s ls args)) (.mk k n s ls args)).d]):=by
 refine bD Tryz.func137 Tryz.ntmps137 ?_;refine kc 14 [8,7,3,1,2] 0 ?_;refine bz 39 5 rfl ?_;refine lp (ι:=Nat×Int×Int×ByteArray×List aO×List ae) (fun⟨i,k1,m1,s1,l1,a1⟩=>[(8,.own 2 5 (ay (gg i (.mk k n s ls args))))]) (fun⟨i,k1,m1,s1,l1,a1⟩=>[tO k1 m1 s1 l1 a1,zO,.row 39 5]) [7,3,1,2] (fun⟨i,k1,m1,s1,l1,a1⟩=>i+bf (.mk k1 m1 s1 l1 a1)=bf (.mk k n s ls args)∧eg i (.mk k n s ls args)=.mk k1 m1 s1 l1 a1∧iA B (.mk k1 m1 s1 l1 a1)) (fun⟨i,k1,m1,s1,l1,a1⟩=>bf (.mk k1 m1 s1 l1 a1)) ((0,k,n,s,ls,args)) ([0,1,2]) rfl ?I2 ?M2 ?H2
 case I2=>
  exact⟨by omega,rfl,hs⟩
 case M2=>
  refine mo ?_ (ee rfl (by exact Fit.nil rfl) (aH (aH (aH (aH dC)))))
  repeat (first|exact cG|refine bh ?_|refine qZ ?_)
 case H2=>
  rintro⟨i,k1,m1,s1,l1,a1⟩ hinv
  try dsimp only at hinv
  refine kc 0 [8,7,3,1,2] 8 ?_;refine' oa (yt:=17) (d:=13) 4 ?a1 ?b1 ?_
  case a1=>
   intro hc hK;refine go 4 ?_;exact hK [_,_,_,_] rfl rfl
  case b1=>
   intro _ hK;refine go 4 ?_;exact hK [_,_,_,_] rfl
  refine go 2 ?_;refine cJ (fun h2=>?_) (fun h2=>?_)
  ·refine kc 6 [8,7,3] 0 ?_;have hz5:bf (.mk k1 m1 s1 l1 a1)=0:=qJ (by omega);obtain rfl:i=bf (.mk k n s ls args):=(by omega);have hE:=hinv.2.1;refine gz [0,1,2] mixed ?_;refine A2 3 rfl (dP bt ?_);refine aS ?_;refine ge 2 ?_;refine ed (.bY [.sl 5 (ay (gg (bf (.mk k n s ls args)) (.mk k n s ls args))),(ae.mk k1 m1 s1 l1 a1).d]) ?_;rw[hE]
  refine kc 4 [8,7,3,1,2] 0 ?_;obtain⟨ka,ma,sa,la,aa,kb,mb,sb,lb,ab,rfl,hsb,hq1,hq2,hxs,he2⟩:=Jp hinv.2.1 hinv.1 hinv.2.2 (by omega);have hxl:=dU i (.mk k n s ls args) (by omega);have hxl2:=aN (gg i (.mk k n s ls args));have hnx:ay (gg i (.mk k n s ls args))++[[.v (.int .i64 ka),.v (.int .i64 ma),.v (.string sa),.sl 3 (bE la),.sl 5 (ay aa)]]=ay (gg (i+1) (.mk k n s ls args)):=(by rw[hxs,dt];rfl);refine gc 4 ?_;refine o1 (cr bA bG ?_ (he:=by exact(rfl)));refine go 1 ?_;refine oc (gK dL [.tmp 23] bt ?_);refine oc (px dL ?_);refine ko 3 [8,7,3,1,2] 3 ?_;refine o1 (cr bA bG ?_ (he:=by exact(rfl)));refine go 4 ?_;rw[hnx];refine bk (i+1,kb,mb,sb,lb,ab) rfl ?_ [0,1,2] mz;exact⟨⟨hq1,he2,hsb⟩,show bf (ae.mk kb mb sb lb ab)<bf (ae.mk k1 m1 s1 l1 [.mk ka ma sa la aa,.mk kb mb sb lb ab]) by omega⟩
theorem Im(k n:Int)(s:ByteArray)(ls:List aO)(args:List ae)(xs:List ae)(hx:xs.length≤1099511627776):
 cC Tryz.prog gl 141 [.v (.int .i64 4),.sl 5 (ay xs),(ae.mk k n s ls args).d] (· =(iO xs (.mk k n s ls args)).d):=by
 have hxl:=aN xs;refine bD Tryz.func141 Tryz.ntmps141 ?_;refine gc 11 ?_;refine o1 (iz ?_);refine ko 4 [7,6,5,0,1] 0 ?_;refine lp (ι:=Nat×Int×Int×ByteArray×List aO×List ae) (fun⟨r,k1,m1,s1,l1,a1⟩=>[(7,int ((r:Int)-1))]) (fun⟨r,k1,m1,s1,l1,a1⟩=>[tO k1 m1 s1 l1 a1,zO]) [6,5,0,1] (fun⟨r,k1,m1,s1,l1,a1⟩=>r≤xs.length∧iO xs (.mk k n s ls args)=iO (xs.take r) (.mk k1 m1 s1 l1 a1)) (fun⟨r,k1,m1,s1,l1,a1⟩=>r) ((xs.length,k,n,s,ls,args)) ([0,1]) rfl ?I3 ?M3 ?H3
 case I3=>
  exact⟨Nat.le_refl _,by rw[List.take_length]⟩
 case M3=>
  refine mo ?_ (ee rfl (by exact Fit.of_eq (by rw[hxl];rfl)) (aH (aH (aH (aH dC)))))
  repeat (first|exact cG|refine bh ?_)
 case H3=>
  rintro⟨r,k1,m1,s1,l1,a1⟩ hinv
  try dsimp only at hinv
  refine kc 0 [7,6,5,0,1] 7 ?_;refine cJ (fun h2=>?_) (fun h2=>?_)
  ·refine kc 6 [6,5] 0 ?_;obtain rfl:r=0:=(by omega);have hE:=hinv.2;rw[List.take_zero] at hE;refine gc 6 ?_;refine ed ((ae.mk k1 m1 s1 l1 a1).d) ?_;rw[hE];rfl
  refine gc 4 ?_;obtain⟨kb,mb,sb,lb,ab,hget⟩:=bM (show r-1<xs.length by omega);have hidx:(ay xs)[((r:Int)-1).toNat]? =some [.v (.int .i64 kb),.v (.int .i64 mb),.v (.string sb),.sl 3 (bE lb),.sl 5 (ay ab)]:=(by rw[show((r:Int)-1).toNat=r-1 by omega,gX hget];rfl);have hnw:=nL (gl:=gl) 4 [.mk kb mb sb lb ab,.mk k1 m1 s1 l1 a1];refine gz [0,1,2] mixed ?_;refine A1 3 rfl (cr bA bG ⟨_,rfl,?_⟩ (he:=by exact(hidx)));refine ga [4,5] ?_;refine A2 6 rfl (gK dL [.tmp 19,.tmp 20] bt ?_);refine A2 7 rfl (cv Kr rfl rfl (hnw) (an (bl .nil)) ?_);refine A2 8 rfl (dP bt ?_);refine aS ?_;refine ke 2 [7,6,5,0,1] 2 ?_;refine o1 (iz ?_);refine go 2 ?_;refine bk ((r-1,4,0,.empty,[],[.mk kb mb sb lb ab,.mk k1 m1 s1 l1 a1])) rfl ?_ ([0,1]) ?_
  ·obtain ⟨r',rfl⟩:∃r',r=r'+1:=⟨r-1,by omega⟩;refine⟨⟨by omega,?_⟩,show r'+1-1<r'+1 by omega⟩;rw[hinv.2,List.take_add_one,show xs[r']? =some (.mk kb mb sb lb ab) from hget];exact rS _ _ _
  ·refine mo ?_ (ee rfl (by exact Fit.of_eq (by show SV.d (D.v (Value.int .i64 ((r:Int)-1-1)))=SV.d (D.v (Value.int .i64 (((r-1:Nat):Int)-1)));rw[show((r-1:Nat):Int)=(r:Int)-1 by omega])) (aH (aH (aH (aH dC)))))
   repeat (first|exact cG|refine bh ?_)
def Rg:ae→SV
 | .mk k n s ls args=>.agg [.d (.v (.int .i64 k)),.d (.v (.int .i64 n)),.d (.v (.string s)),.d (.sl 3 (bE ls)),.d (.sl 5 (ay args))]
theorem uW(k m:Int)(s:ByteArray)(ls:List aO)(args:List ae)(hok:q8 (.mk k m s ls args))(hsz:(bd (.mk k m s ls args)).2.length≤1099511627776):
 cC Tryz.prog gl 107 [(ae.mk k m s ls args).d] (· =.bY [(bd (.mk k m s ls args)).1.d,.sl 5 (ay (bd (.mk k m s ls args)).2)]):=by
 refine bD Tryz.func107 Tryz.ntmps107 ?_;refine kc 14 [4,2,1] 0 ?_;refine bz 39 5 rfl ?_;refine lp (ι:=(Int×Int×ByteArray×List aO×List ae)×List ae) (fun⟨⟨k1,m1,s1,l1,a1⟩,acc⟩=>[(4,.arr 2 (ay acc).length)]) (fun⟨⟨k1,m1,s1,l1,a1⟩,acc⟩=>[tO k1 m1 s1 l1 a1,zO,.buf 39 5 (ay acc) none]) [2,1] (fun⟨⟨k1,m1,s1,l1,a1⟩,acc⟩=>q8 (.mk k1 m1 s1 l1 a1)∧bd (.mk k m s ls args)=((bd (.mk k1 m1 s1 l1 a1)).1,(bd (.mk k1 m1 s1 l1 a1)).2++acc.reverse)) (fun⟨⟨k1,m1,s1,l1,a1⟩,acc⟩=>(ae.mk k1 m1 s1 l1 a1).size) ((⟨k,m,s,ls,args⟩,[])) ([0,1,2]) rfl ?I4 ?M4 ?H4
 case I4=>
  exact⟨hok,by simp⟩
 case M4=>
  refine mo ?_ (ee rfl (by(show Fit _ _ (SV.arr 2 0);exact Fit.Jy rfl)) (aH (aH dC)))
  repeat (first|exact cG|refine bh ?_|refine Oj ?_)
 case H4=>
  rintro⟨⟨k1,m1,s1,l1,a1⟩,acc⟩ hinv
  try dsimp only at hinv
  refine kc 0 [4,2,1] 8 ?_;refine cJ (fun h2=>?_) (fun h2=>?_)
  ·refine gc 6 ?_;have hal2:=congrArg (fun x=>x.2.length) hinv.2;simp only[List.length_append,List.length_reverse] at hal2;have hrv:=fun pq=>tg (gl:=gl) (pq:=pq) acc (by omega)
   have hla:=aN acc;have hlr:=aN acc.reverse;refine gc 1 ?_;refine Ca 2 4 rfl rfl rfl (fun r ob' hob'=>?_);cases hob';refine go 1 ?_;refine oL 2 19 rfl rfl rfl ?_;refine oc (ck MM rfl rfl (hrv _) [2] rfl (.cons rfl .buf .nil) (an .nil) ?_);refine ko 2 [4,2,1] 2 ?_;refine oL 2 4 rfl rfl (by rw[hlr,List.length_reverse,hla]) ?_;refine pY 2 rfl rfl rfl rfl ?_;refine go 7 ?_;refine ed (.bY [(ae.mk k1 m1 s1 l1 a1).d,.sl 5 (ay acc.reverse)]) ?_;rw[hinv.2,j9 h2,List.nil_append]
  refine gc 4 ?_;obtain rfl:=h2;obtain⟨k2,m2,s2,l2,a2,k3,m3,s3,l3,a3,rfl,hok2⟩:=wk hinv.1 rfl;have hal:=aN acc;have hal2:=congrArg (fun x=>x.2.length) hinv.2;simp only[List.length_append,List.length_reverse] at hal2;have hlast:ay acc++[[.v (.int .i64 k3),.v (.int .i64 m3),.v (.string s3),.sl 3 (bE l3),.sl 5 (ay a3)]]=ay (acc++[.mk k3 m3 s3 l3 a3]):=(dt acc [.mk k3 m3 s3 l3 a3]).symm;refine gc 4 ?_;refine o1 (cr bA bG ?_ (he:=by exact(rfl)));refine go 1 ?_;refine oc (gK dL [.tmp 12] bt ?_);refine oc (nG dL rfl rfl rfl rfl rfl rfl rfl (by decide) (by simp) (by(simp only[maxLen,List.length_cons,List.length_nil];omega)) rfl rfl rfl ?_);refine ko 3 [4,2,1] 3 ?_;refine o1 (cr bA bG ?_ (he:=by exact(rfl)));refine go 4 ?_;rw[hlast];refine bk (⟨k2,m2,s2,l2,a2⟩,acc++[.mk k3 m3 s3 l3 a3]) rfl ?_ [0,1,2] mz;exact⟨⟨hok2,by rw[hinv.2,je];simp⟩,by simp only[ae.size,aj];omega⟩
theorem Bt(k m:Int)(s:ByteArray)(ls:List aO)(args:List ae)(hok:q8 (.mk k m s ls args))(hsz:(bd (.mk k m s ls args)).2.length≤1099511627776):
 er Tryz.prog gl 107 [] [.d (ae.mk k m s ls args).d] fun out ob'=>out=.ret (.bY [Rg (bd (.mk k m s ls args)).1,.own 0 5 (ay (bd (.mk k m s ls args)).2)])∧ob'=[.row 39 5]:=by
 refine bS Tryz.func107 Tryz.ntmps107 0 ?_;refine kc 14 [4,2,1] 0 ?_;refine bz 39 5 rfl ?_;refine lp (ι:=(Int×Int×ByteArray×List aO×List ae)×List ae) (fun⟨⟨k1,m1,s1,l1,a1⟩,acc⟩=>[(4,.arr 2 (ay acc).length)]) (fun⟨⟨k1,m1,s1,l1,a1⟩,acc⟩=>[tO k1 m1 s1 l1 a1,zO,.buf 39 5 (ay acc) none]) [2,1] (fun⟨⟨k1,m1,s1,l1,a1⟩,acc⟩=>q8 (.mk k1 m1 s1 l1 a1)∧bd (.mk k m s ls args)=((bd (.mk k1 m1 s1 l1 a1)).1,(bd (.mk k1 m1 s1 l1 a1)).2++acc.reverse)) (fun⟨⟨k1,m1,s1,l1,a1⟩,acc⟩=>(ae.mk k1 m1 s1 l1 a1).size) ((⟨k,m,s,ls,args⟩,[])) ([0,1,2]) rfl ?I5 ?M5 ?H5
 case I5=>
  exact⟨hok,by simp⟩
 case M5=>
  refine mo ?_ (ee rfl (by(show Fit _ _ (SV.arr 2 0);exact Fit.Jy rfl)) (aH (aH dC)))
  repeat (first|exact cG|refine bh ?_|refine Oj ?_)
 case H5=>
  rintro⟨⟨k1,m1,s1,l1,a1⟩,acc⟩ hinv
  try dsimp only at hinv
  refine kc 0 [4,2,1] 8 ?_;refine cJ (fun h2=>?_) (fun h2=>?_)
  ·refine gc 6 ?_;have hal2:=congrArg (fun x=>x.2.length) hinv.2;simp only[List.length_append,List.length_reverse] at hal2;have hrv:=fun pq=>tg (gl:=gl) (pq:=pq) acc (by omega)
   have hla:=aN acc;have hlr:=aN acc.reverse;refine gc 1 ?_;refine Ca 2 4 rfl rfl rfl (fun r ob' hob'=>?_);cases hob';refine go 1 ?_;refine oL 2 19 rfl rfl rfl ?_;refine oc (ck MM rfl rfl (hrv _) [2] rfl (.cons rfl .buf .nil) (an .nil) ?_);refine ko 2 [4,2,1] 2 ?_;refine oL 2 4 rfl rfl (by rw[hlr,List.length_reverse,hla]) ?_;rw[show(ay acc).length=(ay acc.reverse).length by rw[hlr,List.length_reverse,hla]];refine BY 2 4 rfl rfl rfl rfl rfl ?_;refine go 7 ?_;refine fR ?_;refine ir ⟨_,_,rfl,(dY rfl rfl bt rfl rfl rfl rfl),⟨_,_,rfl,rfl,rfl⟩⟩ [2] (.bY [Rg (ae.mk k1 m1 s1 l1 a1),.own 0 5 (ay acc.reverse)]) ([.row 39 5]) rfl rfl rfl ?_ rfl ?_ ?_
   ·repeat (first|exact cG|refine cw ?_)
   ·exact .refl _
   ·rw [hinv.2,j9 h2,List.nil_append];exact⟨rfl,rfl⟩
  refine gc 4 ?_;obtain rfl:=h2;obtain⟨k2,m2,s2,l2,a2,k3,m3,s3,l3,a3,rfl,hok2⟩:=wk hinv.1 rfl;have hal:=aN acc;have hal2:=congrArg (fun x=>x.2.length) hinv.2;simp only[List.length_append,List.length_reverse] at hal2;have hlast:ay acc++[[.v (.int .i64 k3),.v (.int .i64 m3),.v (.string s3),.sl 3 (bE l3),.sl 5 (ay a3)]]=ay (acc++[.mk k3 m3 s3 l3 a3]):=(dt acc [.mk k3 m3 s3 l3 a3]).symm;refine gc 4 ?_;refine o1 (cr bA bG ?_ (he:=by exact(rfl)));refine go 1 ?_;refine oc (gK dL [.tmp 12] bt ?_);refine oc (nG dL rfl rfl rfl rfl rfl rfl rfl (by decide) (by simp) (by(simp only[maxLen,List.length_cons,List.length_nil];omega)) rfl rfl rfl ?_);refine ko 3 [4,2,1] 3 ?_;refine o1 (cr bA bG ?_ (he:=by exact(rfl)));refine go 4 ?_;rw[hlast];refine bk (⟨k2,m2,s2,l2,a2⟩,acc++[.mk k3 m3 s3 l3 a3]) rfl ?_ [0,1,2] mz;exact⟨⟨hok2,by rw[hinv.2,je];simp⟩,by simp only[ae.size,aj];omega⟩
theorem Bm(l:List ae)(hl:l.length≤1099511627776):
 er Tryz.prog gl 139 [] [.d (.sl 5 (ay l))] fun out ob'=>out=.ret (.own 0 5 (ay l))∧ob'=[.row 39 5]:=by
 have hll:=aN l;refine bS Tryz.func139 Tryz.ntmps139 0 ?_;refine gc 9 ?_;refine oc (T:=fun _=>False) (Jt bA rfl rfl rfl rfl rfl (fun bn hbn=>?_));refine go 2 ?_;refine cj (fun h1=>?_) (fun h1=>?_)
 ·refine kc 1 [] 0 ?_;refine bz 39 5 rfl ?_;refine gc 6 ?_;refine fR ?_;refine ir ⟨_,_,rfl,rfl,rfl⟩ [0] (.own 0 5 (ay [])) ([.row 39 5]) rfl rfl rfl ?_ rfl ?_ ?_
  ·repeat (first|exact cG|refine qZ ?_)
  ·exact Fit.nil rfl
  ·rw [hbn (by assumption)];exact⟨rfl,rfl⟩
 refine gc 4 ?_;refine oc (T:=fun _=>False) (Ll dL rfl rfl rfl (by simp only[List.length_cons,List.length_nil,Nat.reduceAdd];rfl) rfl ?_);refine go 1 ?_;refine oc (gf dL rfl rfl rfl (.inl rfl) rfl rfl rfl (.inl rfl) (by decide) (by(simp only[maxLen,List.length_nil];omega)) rfl rfl rfl ?_);refine go 4 ?_;refine fR ?_;refine ir ⟨_,_,rfl,rfl,rfl⟩ [0] (.own 0 5 (ay l)) ([.row 39 5]) rfl rfl rfl ?_ rfl ?_ ?_
 ·repeat (first|exact cG|refine cw ?_)
 ·exact Fit.of_eq (by rw[List.nil_append];rfl)
 ·exact ⟨rfl,rfl⟩
theorem Hv(n:Nat)(hn:n≤1099511627776):
 er Tryz.prog gl 154 [] [.d (.v (.slice none 0 0)),.d (.v (.int .i64 n))] fun out ob'=>out=.ret (.arr 0 0)∧ob'=[.buf 39 5 [] none]:=by
 rcases Nat.eq_zero_or_pos n with h0|h0
 ·refine bS Tryz.func154 Tryz.ntmps154 0 ?_;refine gc 12 ?_;refine cj (fun h1=>?_) (fun h1=>?_)
  ·contradiction
  refine gc 7 ?_;refine o1 (rY bA rfl rfl ?_);refine go 1 ?_;refine o1 (Qm bA ?_);refine o1 (iz ?_);refine o1 (iz ?_);refine ko 3 [1,0] 6 ?_;refine cj (fun h4=>?_) (fun h4=>?_)
  ·omega
  refine gc 3 ?_;refine bz 39 5 rfl ?_;refine gc 6 ?_;refine fR ?_;refine ir ⟨_,_,rfl,rfl,rfl⟩ [0] (.arr 0 0) ([.buf 39 5 [] none]) rfl rfl rfl ?_ rfl ?_ ?_
  ·repeat (first|exact cG|refine Oj ?_)
  ·exact Fit.Jy rfl
  ·exact ⟨rfl,rfl⟩
 ·refine bS Tryz.func154 Tryz.ntmps154 0 ?_;refine gc 12 ?_;refine cj (fun h1=>?_) (fun h1=>?_)
  ·contradiction
  refine gc 7 ?_;refine o1 (rY bA rfl rfl ?_);refine go 1 ?_;refine o1 (Qm bA ?_);refine o1 (iz ?_);refine o1 (iz ?_);refine ko 3 [1,0] 6 ?_;refine cJ (fun h4=>?_) (fun h4=>?_)
  ·omega
  obtain⟨c,hc⟩:∃c:Nat,(n:Int)-(((0:Nat):Int)-((0:Nat):Int))=c:=⟨n,by omega⟩;rw[hc];refine gc 3 ?_;refine o1 (rY bA rfl rfl ?_);refine o1 (AM bA bG rfl rfl rfl rfl ?_);refine go 1 ?_;refine oc (T:=fun _=>False) (Ec dL (by kernel_rfl) bt rfl rfl rfl rfl rfl rfl (by simp only[List.length_cons,List.length_nil,Nat.reduceAdd];rfl) (by(simp only[maxLen];omega)) rfl ?_);refine go 1 ?_;refine o1 (Qm bA ?_);refine oc (tp bA bG rfl rfl rfl rfl rfl rfl rfl rfl (by omega) (by omega) rfl rfl rfl ?_);refine ko 3 [0] 7 ?_;refine fR ?_;refine ir ⟨_,_,rfl,rfl,rfl⟩ [0] (.arr 0 0) ([.buf 39 5 [] none]) rfl rfl rfl ?_ rfl ?_ ?_
  ·repeat (first|exact cG|refine xT ?_)
  ·exact .refl _
  ·exact ⟨rfl,rfl⟩
end
section
open Go Go.Vd Go.RowKit
def dk(d:dN):List ByteArray:=d.nm::(d.cs.map (·.1)++if d.k=3 then[d.nm++wC] else[])
def dA(es:List cu):List ByteArray:=es.flatMap fun e=>dk e.d
theorem wW(es m:List cu):dA (es++m)=dA es++dA m:=by simp[dA]
theorem rQ(e:cu):dA [e]=dk e.d:=by simp[dA]
theorem j3{nm:ByteArray}:∀{l:List (ByteArray×ae)},eG nm l=none↔nm∉l.map (·.1)
 |[]=>by simp[eG]
 |a::r=>by
  rw[eG];split
  ·rename_i h;subst h;simp
  ·rename_i h;rw[Option.map_eq_none_iff,j3 (l:=r)];simp only[List.map_cons,List.mem_cons,not_or];exact⟨fun g=>⟨fun e=>h e.symm,g⟩,fun g=>g.2⟩
theorem kZ{nm:ByteArray}:∀{es:List cu},(∀ e∈es,e.d.k≠0)→((bK nm es).1=0↔nm∉dA es)
 |[],_=>by simp[bK,dA]
 |e::r,hk=>by
  have ih:=kZ (nm:=nm) (es:=r) fun e he=>hk e (List.mem_cons_of_mem _ he)
  have h0:=hk e List.mem_cons_self;rw[show dA (e::r)=dk e.d++dA r by simp[dA],List.mem_append,not_or,bK];split
  ·rename_i h1;refine⟨fun h=>absurd h h0,fun h=>absurd ?_ h.1⟩;subst h1;simp[dk]
  ·rename_i h1;split
   ·rename_i i h2;refine⟨fun h=>absurd (show(4:Int)=0 from h) (by decide),fun h=>?_⟩;have:=j3 (nm:=nm) (l:=e.d.cs);rw[h2] at this;exact absurd (this.2 fun g=>h.1 (List.mem_cons_of_mem _ (List.mem_append_left _ g))) (by simp)
   ·rename_i h2;have h4:=j3.1 h2;split
    ·rename_i h3;refine⟨fun h=>absurd (show(5:Int)=0 from h) (by decide),fun h=>absurd ?_ h.1⟩;unfold dk;rw[if_pos h3.1];exact List.mem_cons_of_mem _ (List.mem_append_right _ (by simp[h3.2]))
    ·rename_i h3;rw[ih];refine⟨fun h=>⟨fun g=>?_,h⟩,fun h=>h.2⟩;unfold dk at g;rcases List.mem_cons.1 g with g|g
     ·exact h1 g.symm
     ·rcases List.mem_append.1 g with g|g
      ·exact h4 g
      ·split at g
       ·rename_i h5;simp only[List.mem_singleton] at g;exact h3 ⟨h5,g.symm⟩
       ·cases g
theorem oZ{nm:ByteArray}{m:List cu}:∀{es:List cu},(bK nm es).1≠0→bK nm (es++m)=bK nm es
 |[],h=>absurd rfl h
 |e::r,h=>by
  rw[List.cons_append,bK,bK];rw[bK] at h;split
  ·rfl
  ·rename_i h1;rw[if_neg h1] at h;cases h2:eG nm e.d.cs with
   |some i=>rfl
   |none=>
    rw[h2] at h;simp only at h ⊢;split
    ·rfl
    ·rename_i h3;rw[if_neg h3] at h;exact oZ h
theorem ld{nm:ByteArray}{m:List cu}:∀{es:List cu},(∀ e∈es,e.d.k≠0)→(bK nm es).1=0→bK nm (es++m)=bK nm m
 |[],_,_=>rfl
 |e::r,hk,h=>by
  rw[List.cons_append,bK];rw[bK] at h;split
  ·rename_i h1;rw[if_pos h1] at h;exact absurd h (hk e List.mem_cons_self)
  ·rename_i h1;rw[if_neg h1] at h;cases h2:eG nm e.d.cs with
   |some i=>rw[h2] at h;exact absurd (show(4:Int)=0 from h) (by decide)
   |none=>
    rw[h2] at h;simp only at h ⊢;split
    ·rename_i h3;rw[if_pos h3] at h;exact absurd (show(5:Int)=0 from h) (by decide)
    ·rename_i h3;rw[if_neg h3] at h;exact ld (fun e he=>hk e (List.mem_cons_of_mem _ he)) h
variable {nm:ByteArray} {es:List cu}
theorem Ai{es':List cu}(h:bK nm es=bK nm es'):eh es nm=eh es' nm:=by
 unfold eh ik;rw[h]
theorem By{n:Nat}(h:eh es nm=some n):(bK nm es).1≠0:=by
 intro h0;unfold eh ik at h;simp only[h0] at h;cases h
theorem rK(es m:List cu):yI (eh es) (eh (es++m)):=fun s n h=>by
 rw[Ai (oZ (By h))];exact h
theorem ya.mono{sg sg':Sg}(hs:yI sg sg'){e:cu}(h:ya sg e):ya sg' e:=
 ⟨h.k,h.ps,h.nm,⟨h.ty.1.mono hs (fun _ h=>h) (Int.le_refl _),h.ty.2⟩,fun hk=>⟨(h.vl hk).1.mono hs (fun _ h=>h) (Int.le_refl _),(h.vl hk).2⟩,h.cl,h.ar,fun c hc=>⟨(h.cs c hc).1.mono hs (fun _ h=>h) (Int.le_refl _),(h.cs c hc).2⟩,h.rp,fun hk=>⟨(h.rt hk).1.mono hs (fun _ h=>h) (Int.le_refl _),(h.rt hk).2⟩⟩
theorem de.k0(h:de es):∀e∈es,e.d.k≠0:=fun e he hk=>by rcases(h.xH e he).k with h|h|h<;>omega
variable {e:cu}
theorem Ny(h:e∈es):e.d.nm∈dA es:=by
 unfold dA;exact List.mem_flatMap.2 ⟨e,h,by simp[dk]⟩
theorem de.app(h:de es)(hl:es.length<1000000)(hn:e.d.nm∉dA es)(he:ya (eh (es++[e])) e):de (es++[e]):=by
 refine⟨by rw[List.length_append];exact hl,?_,fun x hx=>?_⟩
 ·rw [List.map_append,List.nodup_append];refine⟨h.nd,by simp,fun a ha b hb hab=>?_⟩;simp only[List.map_cons,List.map_nil,List.mem_singleton] at hb;obtain⟨y,hy,rfl⟩:=List.mem_map.1 ha;subst hab;exact hn (hb▸Ny hy)
 ·rcases List.mem_append.1 hx with hx|hx
  ·exact (h.xH x hx).mono (rK _ _)
  ·simp only[List.mem_singleton] at hx;subst hx;exact he
theorem DT(hk:∀e∈es,e.d.k≠0)(h:nm∉dA es)(m:List cu):eh (es++m) nm=eh m nm:=
 Ai (ld hk ((kZ hk).2 h))
theorem Ms(hk:e.d.k=1∨e.d.k=2∨e.d.k=3):eh [e] e.d.nm=some e.d.ps.length:=by
 have h:bK e.d.nm [e]=(e.d.k,e,0):=by rw[bK,if_pos rfl]
 unfold eh ik;simp only[h];rw[if_neg (by omega),if_neg (by omega),if_neg (by omega)];rfl
theorem E9:∀{l:List (ByteArray×ae)},nm∈l.map (·.1)→∃i,eG nm l=some i:=by
 intro l h;cases hc:eG nm l with
 |some i=>exact⟨i,rfl⟩
 |none=>exact absurd h (j3.1 hc)
theorem Lc{c:ByteArray×ae}(hc:c∈e.d.cs)(hn:c.1≠e.d.nm):eh [e] c.1=some e.d.ps.length:=by
 obtain⟨i,hi⟩:=E9 (List.mem_map_of_mem (f:=(·.1)) hc);have h:bK c.1 [e]=(4,e,i):=by rw[bK,if_neg fun h=>hn h.symm,hi]
 obtain⟨c2,h2,h3⟩:=se hi;unfold eh ik;simp only[h,h2];rfl
def KA(e:cu):cu:=⟨.mk 1 e.d.nm e.d.ps e.d.ty aP 0 [],[],aP⟩
theorem de.ax(h:de es)(hl:es.length<1000000)(hn:e.d.nm∉dA es)(hp:e.d.ps.length≤6)(hz:e.d.nm.size≤1000000)(ht:Wt (eh es) e.d.ps e.d.ty 0∧e.d.ty.size≤800001):de (es++[KA e]):=
 h.app hl hn ⟨.inl rfl,hp,hz,⟨ht.1.mono (rK _ _) (fun _ h=>h) (Int.le_refl _),ht.2⟩,fun h=>absurd (show(1:Int)=2 from h) (by decide),Nat.zero_le _,fun h=>absurd (show(1:Int)=3 from h) (by decide),fun c hc=>(by cases hc),Nat.zero_le _,fun h=>absurd (show(1:Int)=3 from h) (by decide)⟩
def Jn(nm:ByteArray)(p:Int)(a:ae):Prop:=eS (jK nm) a 0=true→∃m ls ar,(bd (eg (bf a) a)).1=.mk 2 m nm ls ar∧p≤(bd (eg (bf a) a)).2.length
def BO(nm:ByteArray)(p:Int)(c:ae):Prop:= ∀(i:Nat) a,p≤i→(gg (bf c) c)[i]? =some a→Jn nm p a
structure gb (es:List cu):Prop where
 ok:de es
 nd:(dA es).Nodup
 pos:∀e∈es,e.d.k=3→∀c∈e.d.cs,BO e.d.nm e.d.ar c.2
 nc:∀e∈es,e.d.k≠3→e.d.cs=[]
 vz:∀e∈es,e.d.vl.size≤800001
theorem gb.nil:gb []:=⟨⟨by simp,by simp,fun e h=>(by cases h)⟩,by simp[dA],fun e h=>(by cases h),fun e h=>(by cases h),fun e h=>(by cases h)⟩
theorem gb.app{es:List cu}{e:cu}(h:gb es)(hl:es.length<1000000)(hn:∀x∈dk e.d,x∉dA es)(hd:(dk e.d).Nodup)(he:ya (eh (es++[e])) e)(hp:e.d.k=3→∀c∈e.d.cs,BO e.d.nm e.d.ar c.2)(hc:e.d.k≠3→e.d.cs=[])(hv:e.d.vl.size≤800001):gb (es++[e]):=by
 refine⟨h.ok.app hl (hn _ (by simp[dk])) he,?_,fun x hx=>?_,fun x hx=>?_,fun x hx=>?_⟩
 ·rw [wW,rQ,List.nodup_append];exact⟨h.nd,hd,fun a ha b hb hab=>hn b hb (hab▸ha)⟩
 ·rcases List.mem_append.1 hx with hx|hx
  ·exact h.pos x hx
  ·simp only[List.mem_singleton] at hx;subst hx;exact hp
 ·rcases List.mem_append.1 hx with hx|hx
  ·exact h.nc x hx
  ·simp only[List.mem_singleton] at hx;subst hx;exact hc
 ·rcases List.mem_append.1 hx with hx|hx
  ·exact h.vz x hx
  ·simp only[List.mem_singleton] at hx;subst hx;exact hv
end
section
open Go Go.Vd Go.RowKit
def uE(w:Int)(d:dN)(ps:List ByteArray)(ty:ae)(num:Int):D:=.cp (.v (.int .i64 w)::.cp d.cells::.sl 1 (strs ps)::(ty.cells++[.v (.int .i64 num)]))
def qo(d:dN):Nat→List (ByteArray×ae)→(ByteArray→Option D)→ByteArray→Option D
 |_,[],f=>f
 |i,c::r,f=>qo d (i+1) r (sJ f c.1 (uE 3 d d.ps c.2 i))
def AS(f:ByteArray→Option D)(d:dN):ByteArray→Option D:=sJ f d.nm (uE (d.k-1) d d.ps d.ty 0)
def wD(f:ByteArray→Option D)(e:cu):ByteArray→Option D:=
 if e.d.k=3 then sJ (qo e.d 0 e.d.cs (AS f e.d)) (e.d.nm++wC) (uE 4 e.d e.rp e.rt 0) else AS f e.d
def fY(es:List cu):ByteArray→Option D:=es.foldl wD fun _=>none
def pk(es:List cu)(nm:ByteArray):Option D:=
 let f:=bK nm es
 if f.1=0 then none else if f.1=4 then(f.2.1.d.cs[f.2.2]?).map fun c=>uE 3 f.2.1.d f.2.1.d.ps c.2 f.2.2 else if f.1=5 then some (uE 4 f.2.1.d f.2.1.rp f.2.1.rt 0) else some (uE (f.1-1) f.2.1.d f.2.1.d.ps f.2.1.d.ty 0)
theorem qw(f:ByteArray→Option D)(s:ByteArray)(d:D):sJ f s d s=some d:=if_pos rfl
variable {f:ByteArray→Option D}
theorem qx{s t:ByteArray}{d:D}(h:t≠s):sJ f s d t=f t:=if_neg h
theorem tE{d:dN}{nm:ByteArray}:∀{l:List (ByteArray×ae)} {i:Nat} {f:ByteArray→Option D},nm∉l.map (·.1)→qo d i l f nm=f nm
 |[],i,f,_=>rfl
 |c::r,i,f,h=>by
  simp only[List.map_cons,List.mem_cons,not_or] at h;rw[qo,tE h.2,qx h.1]
theorem Gq{d:dN}{nm:ByteArray}:∀{l:List (ByteArray×ae)} {i j:Nat} {f:ByteArray→Option D},(l.map (·.1)).Nodup→eG nm l=some j→∃c,l[j]? =some c∧qo d i l f nm=some (uE 3 d d.ps c.2 ((i+j:Nat):Int))
 |[],i,j,f,_,h=>by cases h
 |c::r,i,j,f,hn,h=>by
  simp only[List.map_cons,List.nodup_cons] at hn;rw[eG] at h;split at h
  ·rename_i e;cases h;subst e;exact⟨c,rfl,by rw[qo,tE hn.1,qw,Nat.add_zero]⟩
  ·obtain ⟨j',h1,rfl⟩:=Option.map_eq_some_iff.1 h;obtain⟨c',h2,h3⟩:=Gq (d:=d) (i:=i+1) (f:=sJ f c.1 (uE 3 d d.ps c.2 i)) hn.2 h1;exact⟨c',by simpa using h2,by rw[qo,h3,show i+1+j'=i+(j'+1) by omega]⟩
variable {e:cu} {nm:ByteArray}
theorem Jj(h:nm∉dk e.d):wD f e nm=f nm:=by
 unfold dk at h;simp only[List.mem_cons,List.mem_append,not_or] at h;unfold wD;split
 ·rename_i hk;rw[if_pos hk] at h;rw[qx (by simpa using h.2.2),tE h.2.1];exact qx h.1
 ·exact qx h.1
variable {es:List cu}
theorem xg{es':List cu}(h:bK nm es=bK nm es'):pk es nm=pk es' nm:=by unfold pk;rw[h]
theorem Lf(hk:e.d.k=1∨e.d.k=2∨e.d.k=3)(hnc:e.d.k≠3→e.d.cs=[])(hnd:(dk e.d).Nodup)(h:nm∈dk e.d):wD f e nm=pk [e] nm:=by
 by_cases h1:e.d.nm=nm
 ·have hF:bK nm [e]=(e.d.k,e,0):=by rw[bK,if_pos h1]
  unfold pk;simp only[hF];rw[if_neg (by omega),if_neg (by omega),if_neg (by omega)];subst h1;unfold wD;unfold dk at hnd;have h2:=List.nodup_cons.1 hnd;split
  ·rename_i hk3;rw[if_pos hk3] at h2;simp only[List.mem_append,not_or] at h2;rw[qx (by simpa using h2.1.2),tE h2.1.1];exact qw _ _ _
  ·exact qw _ _ _
 ·by_cases hk3:e.d.k=3
  ·unfold dk at hnd h;rw[if_pos hk3] at hnd h;have h2:=List.nodup_cons.1 hnd;have h3:=List.nodup_append.1 h2.2;unfold wD;rw[if_pos hk3];cases hc:eG nm e.d.cs with
   |some j=>
    have hF:bK nm [e]=(4,e,j):=by rw[bK,if_neg h1,hc]
    have hm:nm∈e.d.cs.map (·.1):=Classical.byContradiction fun g=>by rw[j3.2 g] at hc;cases hc
    have hne:nm≠e.d.nm++wC:=fun e'=>h3.2.2 nm hm _ (by simp) e'
    obtain⟨c,h5,h6⟩:=Gq (d:=e.d) (i:=0) (f:=AS f e.d) h3.1 hc;unfold pk;simp only[hF];rw[qx hne,h6,if_neg (by decide),if_pos trivial,h5,Nat.zero_add];rfl
   |none=>
    have hm:=j3.1 hc;have hr:nm=e.d.nm++wC:=by
     rcases List.mem_cons.1 h with h|h
     ·exact absurd h.symm h1
     ·rcases List.mem_append.1 h with h|h
      ·exact absurd h hm
      ·simpa using h
    have hF:bK nm [e]=(5,e,0):=by rw[bK,if_neg h1,hc];exact if_pos ⟨hk3,hr.symm⟩
    unfold pk;simp only[hF];rw[if_neg (by decide),if_neg (by decide),if_pos trivial,hr,qw]
  ·exfalso
   unfold dk at h;rw[if_neg hk3,hnc hk3] at h;simp at h;exact h1 h.symm
theorem Cr(es:List cu)(e:cu):fY (es++[e])=wD (fY es) e:=by simp[fY]
theorem He(hk:∀e∈es,e.d.k=1∨e.d.k=2∨e.d.k=3)(hnc:∀e∈es,e.d.k≠3→e.d.cs=[])(hnd:(dA es).Nodup)(nm:ByteArray):fY es nm=pk es nm:=by
 have key:∀(n:Nat) (es:List cu),es.length=n→(∀ e∈es,e.d.k=1∨e.d.k=2∨e.d.k=3)→(∀ e∈es,e.d.k≠3→e.d.cs=[])→(dA es).Nodup→fY es nm=pk es nm:=by
  intro n
  induction n with
  |zero=>intro es hl _ _ _;rw[List.length_eq_zero_iff.1 hl];rfl
  |succ n ih=>
   intro es hl hk hnc hnd;obtain⟨r,e,rfl⟩:∃r e,es=r++[e]:=by
    rcases List.eq_nil_or_concat es with h|⟨r,e,h⟩
    ·subst h;simp at hl
    ·exact ⟨r,e,by simpa using h⟩
   rw[List.length_append] at hl;rw[wW,rQ] at hnd;have h2:=List.nodup_append.1 hnd;have hkr:∀x∈r,x.d.k=1∨x.d.k=2∨x.d.k=3:=fun x hx=>hk x (List.mem_append_left _ hx)
   have hk0:∀x∈r,x.d.k≠0:=fun x hx=>by rcases hkr x hx with h|h|h<;>omega
   rw[Cr];by_cases hm:nm∈dk e.d
   ·have h3:nm∉dA r:=fun h=>h2.2.2 nm h nm hm rfl
    rw[Lf (hk e (by simp)) (hnc e (by simp)) h2.2.1 hm];exact(xg (ld hk0 ((kZ hk0).2 h3))).symm
   ·rw [Jj hm,ih r (by simpa using hl) hkr (fun x hx=>hnc x (List.mem_append_left _ hx)) h2.1];by_cases h0:(bK nm r).1=0
    ·have hke:∀x∈[e],x.d.k≠0:=fun x hx=>by rcases hk x (List.mem_append_right _ hx) with h|h|h<;>omega
     have h4:(bK nm [e]).1=0:=(kZ hke).2 (by rw[rQ];exact hm);have h5:=ld (m:=[e]) hk0 h0;unfold pk;simp only[h5,h0,h4,if_true]
    ·exact (xg (oZ h0)).symm
 exact key _ es rfl hk hnc hnd
theorem gb.look(h:gb es)(nm:ByteArray):fY es nm=pk es nm:=He (fun e he=>(h.ok.xH e he).k) h.nc h.nd nm
end
section
open Go Go.Vd Go.RowKit
attribute [local irreducible] bq bu dh ak bJ cQ
variable {g gl:Nat→List D}
theorem CJ(es:List cu)(w:Bool){sg:Sg}{ps:List ByteArray}{c:Int}(hc:0≤c∧c≤1099511627776)(kr nr:Int)(sr':ByteArray)(lr:List aO)(ar:List ae)(firsts:List ae)(p:Nat)(kt nt:Int)(st:ByteArray)(lt:List aO)(at':List ae)(given:List ae)(ka na:Int)(sa:ByteArray)(la:List aO)(aa:List ae)
 (hr:Wt sg ps (.mk kr nr sr' lr ar) c) (hf:∀x∈firsts,Wt sg ps x c) (hg:∀x∈given,Wt sg ps x c) (ha:Wt sg ps (.mk ka na sa la aa) c) (ht:Wt sg ps (.mk kt nt st lt at') (c+given.length))
 (zr:(ae.mk kr nr sr' lr ar).size≤1099511627776) (zf:aj firsts≤1099511627776) (zg:given.length≤1000000) (zgs:∀x∈given,x.size≤1099511627776) (za:(ae.mk ka na sa la aa).size≤1099511627776) (zt:(ae.mk kt nt st lt at').size≤1000000) (zp:p≤1000000):
 er Tryz.prog gl 124 [ba es w,aZ] [.b0 0 0,.d (ae.mk kr nr sr' lr ar).d,.d (.sl 5 (ay firsts)),.d (.v (.int .i64 p)),.d (ae.mk kt nt st lt at').d,.d (.sl 5 (ay given)),.d (ae.mk ka na sa la aa).d] fun out ob'=> ∃(u:ae) (w':Bool),out=.ret (.d u.d)∧ob'=[ba es w',aZ]∧u.size≤8796093022208∧
  (w'=false→w=false∧u=yv (.mk kr nr sr' lr ar) firsts p (.mk kt nt st lt at') given (.mk ka na sa la aa)):=by
 have hfl:=aN firsts;have hgl:=aN given;have hfs:=br firsts;refine bS Tryz.func124 Tryz.ntmps124 2 ?_;refine gc 13 ?_;refine o1 (iz ?_);refine ko 4 [15,14,13,11,8,0,2,3,5] 0 ?_;refine lp (ι:=Nat×Bool×Int×Int×ByteArray×List aO×List ae) (fun⟨i,w1,k1,m1,s1,l1,a1⟩=>[(15,int ((i:Int)-1))]) (fun⟨i,w1,k1,m1,s1,l1,a1⟩=>[ba es w1,aZ,tO kr nr sr' lr ar,tO k1 m1 s1 l1 a1,tO ka na sa la aa,zO]) [14,13,11,8,0,2,3,5] (fun⟨i,w1,k1,m1,s1,l1,a1⟩=>i≤given.length∧(w1=false→w=false∧gm given given.length (.mk kt nt st lt at')=gm given i (.mk k1 m1 s1 l1 a1))∧Wt sg ps (.mk k1 m1 s1 l1 a1) (c+i)∧(ae.mk k1 m1 s1 l1 a1).size≤1000000) (fun⟨i,w1,k1,m1,s1,l1,a1⟩=>i) ((given.length,w,kt,nt,st,lt,at')) ([0,1,2,3,4,5]) rfl ?I1 ?M1 ?H1
 case I1=>
  exact⟨Nat.le_refl _,fun h=>⟨h,rfl⟩,ht,zt⟩
 case M1=>
  refine mo ?_ (ee rfl (by exact Fit.of_eq (by simp only[int,hgl];rfl)) (aH (aH (aH (aH (aH (aH (aH (aH dC)))))))))
  repeat (first|exact cG|refine bh ?_|refine cw ?_)
 case H1=>
  rintro⟨i,w1,k1,m1,s1,l1,a1⟩ hinv
  try dsimp only at hinv
  refine kc 0 [15,14,13,11,8,0,2,3,5] 7 ?_;refine cj (fun h2=>?_) (fun h2=>?_)
  ·refine gc 4 ?_;have hig:i-1<given.length:=by omega
   obtain⟨k2,m2,s2,l2,a2,hget⟩:=bM hig;have hgi:(ae.mk k2 m2 s2 l2 a2)=given.getD (i-1) aP:=(by rw[List.getD_eq_getElem?_getD,hget];rfl);have hgm:=hg _ (List.mem_of_getElem? hget);have hgz:=zgs _ (List.mem_of_getElem? hget);have hidx:(ay given)[((i:Int)-1).toNat]? =some [.v (.int .i64 k2),.v (.int .i64 m2),.v (.string s2),.sl 3 (bE l2),.sl 5 (ay a2)]:=(by rw[show((i:Int)-1).toNat=i-1 by omega,gX hget];rfl);have hlf:=ig (gl:=gl) (n0:=(i:Int)-1) (B:=4398046511104) (by omega) (by omega) _ k2 m2 s2 l2 a2 0 (Nat.le_refl _) (hgm.sh (by omega)) (Int.le_refl _) (by omega);have hlw:=hgm.NB (m:=(i:Int)-1) (fr:=0) (by omega);have hlz:=jh (.mk k2 m2 s2 l2 a2) ((i:Int)-1) 0;rw[← dX] at hlf;obtain⟨k4,m4,s4,l4,a4,hY⟩:=ae.case (dw (.mk k2 m2 s2 l2 a2) ((i:Int)-1) 0)
   rw[hY] at hlf hlw hlz;have hes:=om (gl:=gl) es w1 (B:=4398046511104) (B':=4398046511104) (by omega) (by omega) k1 m1 s1 l1 a1 k4 m4 s4 l4 a4 (by have:=hinv.2.2.2;omega) (by omega) (hinv.2.2.1.sh (by have:=hinv.2.2.2;omega)) (hlw.sh (by omega));refine gz [0,1,2,3] mixed ?_;refine A1 4 rfl (cr bA bG ⟨_,rfl,?_⟩ (he:=by exact(hidx)));refine ga [5,6] ?_;refine A2 7 rfl (cv De rfl rfl (hlf) (bl (an (an .nil))) ?_);refine A2 8 rfl (aJ Fa rfl rfl rfl rfl (hes) [0,1] (bh (cw .nil)) rfl rfl rfl rfl (an (bl (an .nil))) (fun s ob' hq=>?_) (fun s ob' hq=>?_));rotate_left
   ·obtain ⟨_,_,hq1,_⟩:=hq;cases hq1
   obtain⟨⟨k3,m3,s3,l3,a3⟩,w2,hq1,rfl,hw2⟩:=hq;cases hq1;have hsz3:(ae.mk k3 m3 s3 l3 a3).size≤1000000:=(by rcases hw2 with⟨_,_,_,e⟩|⟨_,e⟩;omega;rw[e];decide);have hwt:Wt sg ps (.mk k3 m3 s3 l3 a3) (c+((i-1:Nat):Int)):=(by
    rcases hw2 with⟨_,_,e,_⟩|⟨_,e⟩
    ·rw [e];refine Wt.sub (by omega) ?_ ?_
     ·have:=hinv.2.2.1;rwa [show c+((i-1:Nat):Int)+1=c+(i:Int) by omega]
     ·rw [show c+((i-1:Nat):Int)=c+((i:Int)-1) by omega];exact hlw
    ·rw [e];exact vX)
   refine⟨_,_,_,_,_,rfl,rfl,rfl,rfl,rfl,?_⟩;refine A2 9 rfl (dP bt ?_);refine aS ?_;refine ke 2 [15,14,13,11,8,0,2,3,5] 2 ?_;refine o1 (iz ?_);refine go 2 ?_;refine bk ((i-1,w2,k3,m3,s3,l3,a3)) rfl ?_ ([0,1,2,3,4,5]) ?_
   ·obtain ⟨j,rfl⟩:∃j,i=j+1:=⟨i-1,by omega⟩;refine⟨⟨by omega,fun h=>?_,?_,?_⟩,show j+1-1<j+1 by omega⟩
    ·rcases hw2 with⟨e1,e2,e3,e4⟩|⟨e1,_⟩
     ·obtain ⟨h5,h6⟩:=hinv.2.1 e2;refine⟨h5,?_⟩;rw[h6,gm,show given.getD j aP=.mk k2 m2 s2 l2 a2 from hgi.symm,show dw (.mk k2 m2 s2 l2 a2) (j:Int) 0=.mk k4 m4 s4 l4 a4 from(by rw[← hY];congr 1;omega),←e3];rfl
     ·rw [e1] at h;cases h
    ·exact hwt
    ·exact hsz3
   ·refine mo ?_ (ee rfl (by exact Fit.of_eq (by show SV.d (D.v (Value.int .i64 ((i:Int)-1-1)))=SV.d (D.v (Value.int .i64 (((i-1:Nat):Int)-1)));rw[show((i-1:Nat):Int)=(i:Int)-1 by omega])) (aH (aH (aH (aH (aH (aH (aH (aH dC)))))))))
    repeat (first|exact cG|refine bh ?_|refine cw ?_)
  refine kc 6 [14,13,11,8,0,2,3] 0 ?_;obtain rfl:i=0:=(by omega);have hW:Wt sg ps (.mk k1 m1 s1 l1 a1) c:=(by have:=hinv.2.2.1;rwa [Int.natCast_zero,Int.add_zero] at this);have hz1:=hinv.2.2.2;have hI:=hinv.2.1;rw[gm] at hI;have hpz:=dS _ (.mk k1 m1 s1 l1 a1) (Nat.le_refl _);have hps:=iH (gl:=gl) (B:=4398046511104) k1 m1 s1 l1 a1 (hW.sh (by omega)) (by omega);have hhz:=JO (.mk kr nr sr' lr ar) firsts p (.mk k1 m1 s1 l1 a1) (.mk ka na sa la aa);have hxl:=dU _ (.mk k1 m1 s1 l1 a1) (Nat.le_refl _);have hez:=dG (bf (.mk k1 m1 s1 l1 a1)) (.mk k1 m1 s1 l1 a1);have hEW:=hW.xs (Nat.le_refl _);have hstep:=fun j=>ib j (.mk k1 m1 s1 l1 a1)
  have hHB:EB (.mk kr nr sr' lr ar) firsts p (.mk k1 m1 s1 l1 a1) (.mk ka na sa la aa)=iO (gg (bf (.mk k1 m1 s1 l1 a1)) (.mk k1 m1 s1 l1 a1)) (.mk 3 0 .empty [] [bw (bw (dw (.mk kr nr sr' lr ar) (bf (.mk k1 m1 s1 l1 a1)) 0) (firsts.map fun x=>dw x (bf (.mk k1 m1 s1 l1 a1)) 0)) ((bd (eg (bf (.mk k1 m1 s1 l1 a1)) (.mk k1 m1 s1 l1 a1))).2.drop p),fg (bf (.mk k1 m1 s1 l1 a1)) (dw (.mk ka na sa la aa) (bf (.mk k1 m1 s1 l1 a1)) 0)]):=rfl;generalize hnn:bf (.mk k1 m1 s1 l1 a1)=n at hps hpz hxl hez hEW hstep hHB;have hxz:=aN (gg n (.mk k1 m1 s1 l1 a1));refine gc 2 ?_;refine oc (cv ry rfl rfl (hps) (bl .nil) ?_);refine ko 15 [18,17,16,14,13,11,8,0,2,3] 0 ?_;refine bz 39 5 rfl ?_;refine lp (ι:=Nat×Int×Int×ByteArray×List aO×List ae) (fun⟨j,k5,m5,s5,l5,a5⟩=>[(18,int j),(17,.own 6 5 (ay (gg j (.mk k1 m1 s1 l1 a1))))]) (fun⟨j,k5,m5,s5,l5,a5⟩=>[ba es w1,aZ,tO kr nr sr' lr ar,tO k5 m5 s5 l5 a5,tO ka na sa la aa,zO,tR]) [16,14,13,11,8,0,2,3] (fun⟨j,k5,m5,s5,l5,a5⟩=>j≤n∧eg j (.mk k1 m1 s1 l1 a1)=.mk k5 m5 s5 l5 a5) (fun⟨j,k5,m5,s5,l5,a5⟩=>n-j) ((0,k1,m1,s1,l1,a1)) ([0,1,2,3,4,5,6]) rfl ?I2 ?M2 ?H2
  case I2=>
   exact⟨Nat.zero_le _,rfl⟩
  case M2=>
   refine mo ?_ (aH (ee rfl (by exact Fit.nil rfl) (aH (aH (aH (aH (aH (aH (aH (aH dC))))))))))
   repeat (first|exact cG|refine bh ?_|refine cw ?_|refine qZ ?_)
  case H2=>
   rintro⟨j,k5,m5,s5,l5,a5⟩ hinv
   try dsimp only at hinv
   refine kc 0 [18,17,16,14,13,11,8,0,2,3] 8 ?_;refine cj (fun h8=>?_) (fun h8=>?_)
   ·refine gc 5 ?_;obtain⟨m6,s6,l6,⟨k7,m7,s7,l7,a7⟩,⟨kb,mb,sb,lb,ab⟩,he1,he2,he3,he4⟩:=hstep j (by omega);rw[hinv.2] at he1;simp only[ae.mk.injEq] at he1;obtain⟨rfl,rfl,rfl,rfl,rfl⟩:=he1;have hnx:ay (gg j (.mk k1 m1 s1 l1 a1))++[[.v (.int .i64 k7),.v (.int .i64 m7),.v (.string s7),.sl 3 (bE l7),.sl 5 (ay a7)]]=ay (gg (j+1) (.mk k1 m1 s1 l1 a1)):=(by rw[he3,dt];rfl);have hxj:=dU j (.mk k1 m1 s1 l1 a1) (by omega);have hxj2:=aN (gg j (.mk k1 m1 s1 l1 a1));refine gc 4 ?_;refine o1 (cr bA bG ?_ (he:=by exact(rfl)));refine go 1 ?_;refine oc (gK dL [.tmp 54] bt ?_);refine oc (px dL ?_);refine ko 3 [17,18,16,14,13,11,8,0,2,3] 3 ?_;refine o1 (cr bA bG ?_ (he:=by exact(rfl)));refine ko 5 [17,18,16,14,13,11,8,0,2,3] 2 ?_;refine o1 (cF ?_);refine go 2 ?_;rw[hnx];refine bk (j+1,kb,mb,sb,lb,ab) rfl ?_ [0,1,2,3,4,5,6] mz;exact⟨⟨by omega,he2⟩,show n-(j+1)<n-j by omega⟩
   refine kc 6 [17,16,14,13,11,8,0,2,3] 0 ?_;obtain rfl:j=n:=(by omega);have hE:=hinv.2;rw[hE] at hEW hez hHB;obtain⟨hok,_,_,_⟩:=Wt.spine _ (Nat.le_refl _) hEW;have hspn:=eW (gl:=gl) k5 m5 s5 l5 a5 hok (by omega);have hss:=dD _ (.mk k5 m5 s5 l5 a5) (Nat.le_refl _);rcases hS:bd (.mk k5 m5 s5 l5 a5) with⟨⟨kh,mh,sh,lh,ah⟩,as2⟩;rw[hS] at hspn hss hHB;simp only at hspn hss hHB;have has:=br as2;have hat2:=aN as2;refine gc 2 ?_;refine oc (cv yC rfl rfl (hspn) (bl .nil) ?_);refine ko 9 [20,17,16,14,13,11,8,0,2,3] 8 ?_;refine cj (fun h13=>?_) (fun h13=>?_)
   ·refine kc 0 [14,11] 8 ?_;refine eo ((ae.mk k5 m5 s5 l5 a5).d) [0,1] [ba es w1,aZ] ?_
    ·exact ⟨.mk k5 m5 s5 l5 a5,w1,rfl,rfl,by omega,fun h=>by rw[h] at h13;cases h13⟩
   refine kc 3 [20,17,16,14,13,8,2,3] 0 ?_;have hw1:w1=false:=(by cases w1 with|false=>rfl|true=>first|cases h13|exact absurd rfl h13);obtain⟨hw0,hI⟩:=hI hw1;have hl1:=ig (gl:=gl) (n0:=(j:Int)) (B:=4398046511104) (by omega) (by omega) _ kr nr sr' lr ar 0 (Nat.le_refl _) (hr.sh (by omega)) (Int.le_refl _) (by omega);rw[← dX] at hl1;obtain⟨kx,mx,sx,lx,ax,hX⟩:=ae.case (dw (.mk kr nr sr' lr ar) (j:Int) 0)
   rw[hX] at hl1 hHB;refine gc 3 ?_;refine oc (cv De rfl rfl (hl1) (bl (an (an .nil))) ?_);refine ko 5 [21,20,17,16,14,13,2,3] 6 ?_;refine lp (ι:=Nat×Int×Int×ByteArray×List aO×List ae) (fun⟨q,k6,m6,s6,l6,a6⟩=>[(22,int q)]) (fun⟨q,k6,m6,s6,l6,a6⟩=>[ba es w1,aZ,tO kr nr sr' lr ar,tO k5 m5 s5 l5 a5,tO ka na sa la aa,zO,tR,tO kh mh sh lh ah,tO k6 m6 s6 l6 a6]) [21,20,17,16,14,13,2,3] (fun⟨q,k6,m6,s6,l6,a6⟩=>q≤firsts.length∧bw (.mk kx mx sx lx ax) ((firsts.map fun x=>dw x (j:Int) 0).take q)=.mk k6 m6 s6 l6 a6) (fun⟨q,k6,m6,s6,l6,a6⟩=>firsts.length-q) ((0,kx,mx,sx,lx,ax)) ([0,1,2,3,4,5,6,7,8]) rfl ?I3 ?M3 ?H3
   case I3=>
    exact⟨Nat.zero_le _,rfl⟩
   case M3=>
    exact mz
   case H3=>
    rintro⟨q,k6,m6,s6,l6,a6⟩ hinv
    try dsimp only at hinv
    refine kc 0 [22,21,20,17,16,14,13,2,3] 9 ?_;refine cj (fun h17=>?_) (fun h17=>?_)
    ·refine kc 4 [22,21,20,17,16,14,13,2,3] 0 ?_;obtain⟨k8,m8,s8,l8,a8,hget⟩:=bM (show q<firsts.length by omega);have hgm0:=hf _ (List.mem_of_getElem? hget);have hgz:=bF hget;have hl8:=ig (gl:=gl) (n0:=(j:Int)) (B:=4398046511104) (by omega) (by omega) _ k8 m8 s8 l8 a8 0 (Nat.le_refl _) (hgm0.sh (by omega)) (Int.le_refl _) (by omega);rw[← dX] at hl8;obtain⟨k9,m9,s9,l9,a9,hY⟩:=ae.case (dw (.mk k8 m8 s8 l8 a8) (j:Int) 0)
     have hgm:(firsts.map fun x=>dw x (j:Int) 0)[q]? =some (.mk k9 m9 s9 l9 a9):=(by rw[List.getElem?_map,hget,Option.map_some,hY]);rw[hY] at hl8;have hap:=dp (gl:=gl) k6 m6 s6 l6 a6 k9 m9 s9 l9 a9;refine gz [0,1,2] mixed ?_;refine A1 3 rfl (cr bA bG ⟨_,rfl,?_⟩ (he:=by exact(bV hget)));refine ga [4,5] ?_;refine A2 6 rfl (cv De rfl rfl (hl8) (bl (an (an .nil))) ?_);refine A2 7 rfl (cv pa rfl rfl (hap) (bl (an .nil)) ?_);refine A2 8 rfl (dP bt ?_);refine aS ?_;refine ke 2 [22,21,20,17,16,14,13,2,3] 2 ?_;refine o1 (cF ?_);refine go 2 ?_;refine bk (q+1,3,0,.empty,[],[.mk k6 m6 s6 l6 a6,.mk k9 m9 s9 l9 a9]) rfl ?_ [0,1,2,3,4,5,6,7,8] mz;exact⟨⟨by omega,by rw[ff hgm,hinv.2]⟩,show firsts.length-(q+1)<firsts.length-q by omega⟩
    refine kc 7 [21,20,17,16,14,13,3] 0 ?_;obtain rfl:q=firsts.length:=(by omega);have hH:=hinv.2;rw[List.take_of_length_le (by rw[List.length_map];exact Nat.le_refl _)] at hH;rw[hH] at hHB;have hdl:(as2.drop p).length=as2.length-p:=List.length_drop;refine kc 6 [23,21,20,17,16,14,13] 0 ?_;refine lp (ι:=Nat×Int×Int×ByteArray×List aO×List ae) (fun⟨q,k7,m7,s7,l7,a7⟩=>[(23,int ((p+q:Nat):Int))]) (fun⟨q,k7,m7,s7,l7,a7⟩=>[ba es w1,aZ,tO kr nr sr' lr ar,tO k5 m5 s5 l5 a5,tO ka na sa la aa,zO,tR,tO kh mh sh lh ah,tO k7 m7 s7 l7 a7]) [21,20,17,16,14,13] (fun⟨q,k7,m7,s7,l7,a7⟩=>q≤as2.length-p∧bw (.mk k6 m6 s6 l6 a6) ((as2.drop p).take q)=.mk k7 m7 s7 l7 a7) (fun⟨q,k7,m7,s7,l7,a7⟩=>as2.length-p-q) ((0,k6,m6,s6,l6,a6)) ([0,1,2,3,4,5,6,7,8]) rfl ?I4 ?M4 ?H4
    case I4=>
     exact⟨Nat.zero_le _,rfl⟩
    case M4=>
     refine mo ?_ (ee rfl (by exact Fit.of_eq (by rfl)) (aH (aH (aH (aH (aH (aH dC)))))))
     repeat (first|exact cG|refine bh ?_|refine cw ?_)
    case H4=>
     rintro⟨q,k7,m7,s7,l7,a7⟩ hinv
     try dsimp only at hinv
     refine kc 0 [23,21,20,17,16,14,13] 9 ?_;refine cj (fun h21=>?_) (fun h21=>?_)
     ·refine kc 4 [23,21,20,17,16,14,13] 0 ?_;obtain⟨k8,m8,s8,l8,a8,hget⟩:=bM (show p+q<as2.length by omega);have hgm:(as2.drop p)[q]? =some (.mk k8 m8 s8 l8 a8):=(by rw[List.getElem?_drop];exact hget);have hap:=dp (gl:=gl) k7 m7 s7 l7 a7 k8 m8 s8 l8 a8;refine gz [0,1,2] mixed ?_;refine A1 3 rfl (cr bA bG ⟨_,rfl,?_⟩ (he:=by exact(bV hget)));refine ga [4] ?_;refine A2 5 rfl (cv pa rfl rfl (hap) (bl (bl .nil)) ?_);refine A2 6 rfl (dP bt ?_);refine aS ?_;refine ke 2 [23,21,20,17,16,14,13] 2 ?_;refine o1 (cF ?_);refine go 2 ?_;refine bk ((q+1,3,0,.empty,[],[.mk k7 m7 s7 l7 a7,.mk k8 m8 s8 l8 a8])) rfl ?_ ([0,1,2,3,4,5,6,7,8]) ?_
      ·exact ⟨⟨by omega,by rw[ff hgm,hinv.2]⟩,show as2.length-p-(q+1)<as2.length-p-q by omega⟩
      ·refine mo ?_ (ee rfl (by exact Fit.of_eq (by first|rfl|(congr 3;omega))) (aH (aH (aH (aH (aH (aH dC)))))))
       repeat (first|exact cG|refine bh ?_|refine cw ?_)
     refine kc 6 [21,17,16,14,13] 0 ?_;have hG:=hinv.2;rw[List.take_of_length_le (by omega)] at hG;rw[hG] at hHB;have hla:=ig (gl:=gl) (n0:=(j:Int)) (B:=4398046511104) (by omega) (by omega) _ ka na sa la aa 0 (Nat.le_refl _) (ha.sh (by omega)) (Int.le_refl _) (by omega);rw[← dX] at hla;obtain⟨kV,mV,sV,lV,aV,hV⟩:=ae.case (dw (.mk ka na sa la aa) (j:Int) 0)
     rw[hV] at hla hHB;refine gc 3 ?_;refine oc (cv De rfl rfl (hla) (bl (an (an .nil))) ?_);refine ko 5 [24,21,17,16,14] 3 ?_;refine o1 (iz ?_);refine ko 4 [25,24,21,17,16,14] 0 ?_;refine lp (ι:=Nat×Int×Int×ByteArray×List aO×List ae) (fun⟨r,k8,m8,s8,l8,a8⟩=>[(25,int ((r:Int)-1))]) (fun⟨r,k8,m8,s8,l8,a8⟩=>[ba es w1,aZ,tO kr nr sr' lr ar,tO k5 m5 s5 l5 a5,tO ka na sa la aa,zO,tR,tO kh mh sh lh ah,tO k7 m7 s7 l7 a7,tO k8 m8 s8 l8 a8]) [24,21,17,16,14] (fun⟨r,k8,m8,s8,l8,a8⟩=>r≤j∧fg j (.mk kV mV sV lV aV)=fg r (.mk k8 m8 s8 l8 a8)) (fun⟨r,k8,m8,s8,l8,a8⟩=>r) ((j,kV,mV,sV,lV,aV)) ([0,1,2,3,4,5,6,7,8,9]) rfl ?I5 ?M5 ?H5
     case I5=>
      exact⟨Nat.le_refl _,rfl⟩
     case M5=>
      exact mz
     case H5=>
      rintro⟨r,k8,m8,s8,l8,a8⟩ hinv
      try dsimp only at hinv
      refine kc 0 [25,24,21,17,16,14] 7 ?_;refine cj (fun h26=>?_) (fun h26=>?_)
      ·refine gc 4 ?_;refine gz [0,1] mixed ?_;refine A2 2 rfl (cv L5 rfl rfl (qQ ((r:Int)-1)) (an .nil) ?_);refine A2 3 rfl (cv pa rfl rfl (dp k8 m8 s8 l8 a8 0 ((r:Int)-1) .empty [] []) (bl (an .nil)) ?_);refine A2 4 rfl (dP bt ?_);refine aS ?_;refine ke 2 [25,24,21,17,16,14] 2 ?_;refine o1 (iz ?_);refine go 2 ?_;refine bk ((r-1,3,0,.empty,[],[.mk k8 m8 s8 l8 a8,.mk 0 ((r:Int)-1) .empty [] []])) rfl ?_ ([0,1,2,3,4,5,6,7,8,9]) ?_
       ·obtain ⟨r',rfl⟩:∃r',r=r'+1:=⟨r-1,by omega⟩;refine⟨⟨by omega,?_⟩,show r'+1-1<r'+1 by omega⟩;rw[hinv.2,fg,show(((r'+1:Nat):Int)-1)=(r':Int) by omega];rfl
       ·refine mo ?_ (ee rfl (by exact Fit.of_eq (by show SV.d (D.v (Value.int .i64 ((r:Int)-1-1)))=SV.d (D.v (Value.int .i64 (((r-1:Nat):Int)-1)));rw[show((r-1:Nat):Int)=(r:Int)-1 by omega])) (aH (aH (aH (aH (aH dC))))))
        repeat (first|exact cG|refine bh ?_|refine cw ?_)
      refine gc 6 ?_;obtain rfl:r=0:=(by omega);have hA:=hinv.2;rw[fg] at hA;rw[hA] at hHB;refine gc 3 ?_;refine oc (cv pa rfl rfl (dp k7 m7 s7 l7 a7 k8 m8 s8 l8 a8) (bl (bl .nil)) ?_);refine ko 4 [21,17,16,14] 3 ?_;refine o1 (iz ?_);refine ko 4 [26,21,17,14] 0 ?_;refine lp (ι:=Nat×Int×Int×ByteArray×List aO×List ae) (fun⟨r,k9,m9,s9,l9,a9⟩=>[(26,int ((r:Int)-1))]) (fun⟨r,k9,m9,s9,l9,a9⟩=>[ba es w1,aZ,tO kr nr sr' lr ar,tO k5 m5 s5 l5 a5,tO ka na sa la aa,zO,tR,tO kh mh sh lh ah,tO k9 m9 s9 l9 a9,tO k8 m8 s8 l8 a8]) [21,17,14] (fun⟨r,k9,m9,s9,l9,a9⟩=>r≤j∧iO (gg j (.mk k1 m1 s1 l1 a1)) (.mk 3 0 .empty [] [.mk k7 m7 s7 l7 a7,.mk k8 m8 s8 l8 a8])=iO ((gg j (.mk k1 m1 s1 l1 a1)).take r) (.mk k9 m9 s9 l9 a9)) (fun⟨r,k9,m9,s9,l9,a9⟩=>r) ((j,3,0,.empty,[],[.mk k7 m7 s7 l7 a7,.mk k8 m8 s8 l8 a8])) ([0,1,2,3,4,5,6,7,8,9]) rfl ?I6 ?M6 ?H6
      case I6=>
       exact⟨Nat.le_refl _,by rw[List.take_of_length_le (by omega)]⟩
      case M6=>
       exact mz
      case H6=>
       rintro⟨r,k9,m9,s9,l9,a9⟩ hinv
       try dsimp only at hinv
       refine kc 0 [26,21,17,14] 7 ?_;refine cJ (fun h31=>?_) (fun h31=>?_)
       ·refine kc 6 [21,14] 0 ?_;obtain rfl:r=0:=(by omega);have hfin:=hinv.2;rw[List.take_zero] at hfin;rw[hfin] at hHB;have hfin2:iO [] (.mk k9 m9 s9 l9 a9)=.mk k9 m9 s9 l9 a9:=rfl;rw[hfin2] at hHB;rw[hHB] at hhz;refine gc 6 ?_;refine eo ((ae.mk k9 m9 s9 l9 a9).d) [0,1] [ba es w1,aZ] ?_
        ·exact ⟨.mk k9 m9 s9 l9 a9,w1,rfl,rfl,by omega,fun _=>⟨hw0,by unfold yv;rw[hI,hHB]⟩⟩
       refine gc 4 ?_;obtain⟨kb,mb,sb,lb,ab,hget⟩:=bM (show r-1<(gg j (.mk k1 m1 s1 l1 a1)).length by omega);have hidx:(ay (gg j (.mk k1 m1 s1 l1 a1)))[((r:Int)-1).toNat]? =some [.v (.int .i64 kb),.v (.int .i64 mb),.v (.string sb),.sl 3 (bE lb),.sl 5 (ay ab)]:=(by rw[show((r:Int)-1).toNat=r-1 by omega,gX hget];rfl);have hlm:=Hj (gl:=gl) kb mb sb lb ab k9 m9 s9 l9 a9;refine gz [0,1] mixed ?_;refine A1 2 rfl (FY bA bG ⟨_,rfl,?_⟩ (he:=by exact(hidx)));refine ga [3,4] ?_;refine A2 5 rfl (cv PV rfl rfl (hlm) (bl (bl .nil)) ?_);refine A2 6 rfl (dP bt ?_);refine aS ?_;refine ke 2 [26,21,17,14] 2 ?_;refine o1 (iz ?_);refine go 2 ?_;refine bk ((r-1,4,0,.empty,[],[.mk kb mb sb lb ab,.mk k9 m9 s9 l9 a9])) rfl ?_ ([0,1,2,3,4,5,6,7,8,9]) ?_
       ·obtain ⟨r',rfl⟩:∃r',r=r'+1:=⟨r-1,by omega⟩;refine⟨⟨by omega,?_⟩,show r'+1-1<r'+1 by omega⟩;rw[hinv.2,List.take_add_one,show(gg j (.mk k1 m1 s1 l1 a1))[r']? =some (.mk kb mb sb lb ab) from hget];exact rS _ _ _
       ·refine mo ?_ (ee rfl (by exact Fit.of_eq (by show SV.d (D.v (Value.int .i64 ((r:Int)-1-1)))=SV.d (D.v (Value.int .i64 (((r-1:Nat):Int)-1)));rw[show((r-1:Nat):Int)=(r:Int)-1 by omega])) (aH (aH (aH dC))))
        repeat (first|exact cG|refine bh ?_|refine cw ?_)
end
section
open Go Go.Vd Go.RowKit
def ae.kd:ae→Int| .mk k _ _ _ _=>k
inductive jT where
 |ok (u:ae) (d:Nat)
 |cW
inductive FA where
 |step (u:ae) (d:Nat)
 |stuck (d:Nat)
 |cW
def Ho(e:cu):Nat:=e.d.ar.toNat+1+e.d.cs.length+(bf e.d.ty-e.d.ar.toNat)
def vQ(nm:ByteArray)(h:ae)(firsts:List ae)(p:Nat)(pre X cs:List ae):Nat→List ae
 |0=>[]
 |j+1=>vQ nm h firsts p pre X cs j++(if p≤j∧eS (jK nm) (X.getD j aP) 0=true then[yv h firsts p (X.getD j aP) (pre++(cs.drop p).take (j-p)) (cs.getD j aP)] else[])
def nZ(e:cu)(h:ae)(az cs:List ae)(i:Nat)(cty:ae)(us:List aO):ae:=
 bw (bw (bw (az.getD (e.d.ar.toNat+1+i) aP) (cs.drop e.d.ar.toNat))
  (vQ e.d.nm h (az.take (e.d.ar.toNat+1+e.d.cs.length)) e.d.ar.toNat (az.take e.d.ar.toNat) (gg cs.length (eu e.d.ps us cty)) cs cs.length)) (az.drop (Ho e+1))
def ll(es:List cu)(e:cu)(h:ae)(cs:List ae)(i:Nat)(cty:ae)(us:List aO):Prop:=
 ∃s e2 nm,h=.mk 2 0 s us []∧bK s es=(4,e2,i)∧e2.d.nm=e.d.nm∧e.d.cs[i]? =some (nm,cty)∧cs.length=bf cty
def RI (es : List cu) (most : Nat) (R : ae → Nat → jT → Prop) (e : cu) (h : ae) (az : List ae) (d : Nat) (o : FA) : Prop :=
  (az.length ≤ Ho e ∧ o = .stuck d) ∨
  ∃ x, az[Ho e]? = some x ∧ ((R x d .cW ∧ o = .cW) ∨ ∃ mj d1, R x d (.ok mj d1) ∧
    (((∀ i cty us, ¬ ll es e (bd mj).1 (bd mj).2 i cty us) ∧ o = .stuck d1) ∨
     ∃ i cty us, ll es e (bd mj).1 (bd mj).2 i cty us ∧ ((most ≤ d1 ∧ o = .cW) ∨
      (d1 < most ∧ (eu e.d.ps us cty).size ≤ 20000 ∧ (nZ e h az (bd mj).2 i cty us).size ≤ 20000 ∧ o = .step (nZ e h az (bd mj).2 i cty us) (d1 + 1)))))
def wj(most d:Nat)(R:ae→Nat→jT→Prop)(u v:ae)(o:jT):Prop:=(most≤d∧o=.cW)∨(d<most∧v.size≤20000∧R u (d+1) o)
def DM(es:List cu)(h:ae)(az:List ae):Prop:=
 ¬(ae.kd h=4∧az≠[])∧¬ae.kd h=6∧∀s us,h=.mk 2 0 s us []→¬((bK s es).1=2∧(bK s es).2.1.d.ps.length=us.length)∧¬((bK s es).1=5∧(bK s es).2.1.rp.length=us.length)
def N1(R:ae→Nat→jT→Prop)(t:ae)(o:jT):FA→Prop
 | .step u d=>R u d o
 | .stuck d=>o=.ok t d
 | .cW=>o=.cW
def RW(es:List cu)(most:Nat):Nat→ae→Nat→jT→Prop
 |0,_,_,_=>False
 |n+1,t,d,o=>
  (∃ A b a r,(bd t).1=.mk 4 0 .empty [] [A,b]∧(bd t).2=a::r∧wj most d (RW es most n) (bw (dj b a) r) (dj b a) o)∨
  (∃ A v b,(bd t).1=.mk 6 0 .empty [] [A,v,b]∧wj most d (RW es most n) (bw (dj b v) (bd t).2) (dj b v) o)∨
  (∃ s us e j,(bd t).1=.mk 2 0 s us []∧bK s es=(2,e,j)∧e.d.ps.length=us.length∧wj most d (RW es most n) (bw (eu e.d.ps us e.d.vl) (bd t).2) (eu e.d.ps us e.d.vl) o)∨
  (∃ s us e j io,(bd t).1=.mk 2 0 s us []∧bK s es=(5,e,j)∧e.rp.length=us.length∧RI es most (RW es most n) e (.mk 2 0 s us []) (bd t).2 d io∧N1 (RW es most n) t o io)∨
  (DM es (bd t).1 (bd t).2∧o=.ok t d)
theorem tk(ps:List ByteArray)(us:List aO)(t:ae):bf (eu ps us t)=bf t:=by
 suffices h:∀(n:Nat) (t:ae),t.size≤n→bf (eu ps us t)=bf t from h _ t (Nat.le_refl _)
 intro n
 induction n with
 |zero=>intro t h;obtain⟨k,m,s,ls,args,rfl⟩:=ae.case t;simp[ae.size] at h
 |succ n ih=>
  intro t h
  match t with
  | .mk k m s ls [a,b]=>
   simp only[ae.size,aj] at h;simp only[eu,du,bf];rw[ih b (by omega)]
  | .mk k m s ls []=>simp[eu,du,bf]
  | .mk k m s ls [a]=>simp[eu,du,bf]
  | .mk k m s ls (a::b::c::r)=>simp[eu,du,bf]
variable {sg:Sg} {ps:List ByteArray} {c:Int} {h:ae} {cs:List ae}
theorem NF(hc:0≤c){nm:ByteArray}{firsts pre X:List ae}{p:Nat}(hh:Wt sg ps h c)(hf:∀x∈firsts,Wt sg ps x c)(hp:∀x∈pre,Wt sg ps x c)(hpl:pre.length=p)(hX:∀(j:Nat) x,X[j]? =some x→Wt sg ps x (c+j))(hs:∀x∈cs,Wt sg ps x c)(hl:X.length=cs.length):
 ∀j,j≤cs.length→∀x∈vQ nm h firsts p pre X cs j,Wt sg ps x c:=by
 intro j
 induction j with
 |zero=>intro _ x hx;cases hx
 |succ j ih=>
  intro hj x hx;rw[vQ] at hx;rcases List.mem_append.1 hx with hx|hx
  ·exact ih (by omega) x hx
  ·split at hx
   ·rename_i hcond;simp only[List.mem_singleton] at hx;subst hx;have e1:X.getD j aP=X[j]'(by omega):=by rw[List.getD_eq_getElem?_getD,List.getElem?_eq_getElem (by omega)];rfl
    have e2:cs.getD j aP=cs[j]'(by omega):=by rw[List.getD_eq_getElem?_getD,List.getElem?_eq_getElem (by omega)];rfl
    rw[e1,e2];refine Wt.yv hc hh hf (fun y hy=>?_) (hs _ (List.getElem_mem _)) ?_
    ·rcases List.mem_append.1 hy with hy|hy
     ·exact hp y hy
     ·exact hs y (List.mem_of_mem_drop (List.mem_of_mem_take hy))
    ·have e3:(pre++(cs.drop p).take (j-p)).length=j:=by
      rw[List.length_append,List.length_take,List.length_drop,hpl];omega
     rw[e3];exact hX j _ (List.getElem?_eq_getElem (by omega))
   ·cases hx
theorem FZ{es:List cu}(hc:0≤c){e:cu}(he:ya sg e)(hk:e.d.k=3){az:List ae}{i:Nat}{cty:ae}{us:List aO}(hh:Wt sg ps h c)(ha:∀x∈az,Wt sg ps x c)(hs:∀x∈cs,Wt sg ps x c)(hu:∀u∈us,iN ps u)(hul:e.d.ps.length≤us.length)(hct:Wt sg e.d.ps cty 0)(hl:cs.length=bf cty)(hal:Ho e<az.length)(hi:i<e.d.cs.length):
 Wt sg ps (nZ e h az cs i cty us) c:=by
 have hX:=hct.Ix hul hu;have hpX:=tk e.d.ps us cty;have hx2:=hX.wF cs.length (by rw[hpX,hl];exact Nat.le_refl _);have hxl:=dU cs.length (eu e.d.ps us cty) (by rw[hpX,hl];exact Nat.le_refl _);unfold Ho at hal;refine Wt.apply (Wt.apply (Wt.apply ?_ fun x hx=>hs x (List.mem_of_mem_drop hx)) ?_) fun x hx=>ha x (List.mem_of_mem_drop hx)
 ·rw [List.getD_eq_getElem?_getD,List.getElem?_eq_getElem (by omega)];exact ha _ (List.getElem_mem _)
 ·exact NF hc hh (fun x hx=>ha x (List.mem_of_mem_take hx)) (fun x hx=>ha x (List.mem_of_mem_take hx)) (by rw[List.length_take];omega) (fun j x hx=>(hx2.2 j x hx).up (by omega)) hs hxl cs.length (Nat.le_refl _)
end
section
open Go Go.Vd Go.RowKit
theorem gH{nm:ByteArray}:∀{es:List cu} {k:Int} {e:cu} {j:Nat},bK nm es=(k,e,j)→k≠0→(k=e.d.k∨k=4∨(k=5∧e.d.k=3))
 |[],k,e,j,h,h0=>by rw[bK] at h;cases h;exact absurd rfl h0
 |x::r,k,e,j,h,h0=>by
  rw[bK] at h;split at h
  ·cases h;exact .inl rfl
  ·split at h
   ·cases h;exact .inr (.inl rfl)
   ·split at h
    ·rename_i hh;cases h;exact .inr (.inr ⟨rfl,hh.1⟩)
    ·exact gH h h0
variable {es:List cu} {e:cu}
theorem hJ{nm:ByteArray}{k:Int}{j:Nat}(h:bK nm es=(k,e,j))(h0:k≠0):e∈es:=by
 have:=uA (nm:=nm) (es:=es) (by rw[h];exact h0);rw[h] at this;exact this
theorem wy(hE:de es){a b:cu}(ha:a∈es)(hb:b∈es)(h:a.d.nm=b.d.nm):a=b:=by
 have hnd:=hE.nd;generalize es=l at ha hb hnd
 induction l with
 |nil=>cases ha
 |cons x r ih=>
  rw[List.map_cons,List.nodup_cons] at hnd;rcases List.mem_cons.1 ha with ea|ha'
  ·rcases List.mem_cons.1 hb with eb|hb'
   ·rw [ea,eb]
   ·rw [← ea] at hnd;exact absurd (List.mem_map.2 ⟨b,hb',h.symm⟩) hnd.1
  ·rcases List.mem_cons.1 hb with eb|hb'
   ·rw [← eb] at hnd;exact absurd (List.mem_map.2 ⟨a,ha',h⟩) hnd.1
   ·exact ih ha' hb' hnd.2
variable {ps:List ByteArray} {c:Int}
theorem qY(hE:de es)(he:e∈es){h:ae}{cs:List ae}{i:Nat}{cty:ae}{us:List aO}(hh:Wt (eh es) ps h c)(hc:ll es e h cs i cty us):
 i<e.d.cs.length∧(∀ u∈us,iN ps u)∧e.d.ps.length=us.length∧Wt (eh es) e.d.ps cty 0∧cty.size≤800001∧cs.length=bf cty∧e.d.ar≤bf cty:=by
 obtain⟨s,e2,nm,rfl,hf,hn,hci,hl⟩:=hc;have he2:e2=e:=wy hE (hJ hf (by decide)) he hn;subst he2;have hi:=(List.getElem?_eq_some_iff.1 hci).1;have h1:=(hE.xH _ he).cs _ (List.mem_of_getElem? hci);refine⟨hi,hh.1,?_,h1.1,h1.2.1,hl,h1.2.2⟩;rcases hh.2.2 with h2|h2|h2|h2|h2
 ·omega
 ·omega
 ·obtain ⟨_,_,h3,_⟩:=h2;unfold eh at h3;rw[II hf rfl hci] at h3;simp only[Option.map_some,Option.some.injEq] at h3;exact h3
 ·omega
 ·omega
theorem oB{sg:Sg}{t:ae}(h:Wt sg ps t c):t.size=(bd t).1.size+aj (bd t).2+(bd t).2.length:=by
 obtain⟨_,_,_,h4⟩:=Wt.spine _ (Nat.le_refl _) h;have:=cy (bd t).1 (bd t).2;rw[h4] at this;exact this
theorem vw(hE:de es)(hc:0≤c){most:Nat}:∀(n:Nat) {t:ae} {d:Nat} {u:ae} {d':Nat},RW es most n t d (.ok u d')→d≤most→Wt (eh es) ps t c→
 Wt (eh es) ps u c∧d≤d'∧d'≤most∧u.size+30000*(most-d')≤t.size+30000*(most-d):=by
 intro n
 induction n with
 |zero=>intro t d u d' h;exact h.elim
 |succ n ih=>
  intro t d u d' h hd hw;obtain⟨_,hH,hA,_⟩:=Wt.spine _ (Nat.le_refl _) hw;have hz:=oB hw;have hstep:∀{v x:ae},wj most d (RW es most n) x v (.ok u d')→Wt (eh es) ps x c→(v.size≤20000→x.size≤t.size+20000)→Wt (eh es) ps u c∧d≤d'∧d'≤most∧u.size+30000*(most-d')≤t.size+30000*(most-d):=by
   intro v x hs hx hsz;rcases hs with⟨_,h2⟩|⟨h1,h2,h3⟩
   ·cases h2
   ·obtain ⟨g1,g2,g3,g4⟩:=ih h3 (by omega) hx;have:=hsz h2;exact⟨g1,by omega,g3,by omega⟩
  rcases h with⟨A,b,a,r,h1,h2,h3⟩|⟨A,v,b,h1,h3⟩|⟨s,us,e,j,h1,h2,h4,h3⟩|⟨s,us,e,j,io,h1,h2,h4,h5,h6⟩|⟨_,h3⟩
  ·rw [h1] at hH hz;obtain⟨a',b',hab,_,_,_,hA1,hB1⟩:=hH.two (.inr (.inl rfl));cases hab;rw[if_neg (by decide)] at hB1;rw[h2] at hA hz;refine hstep h3 (Wt.apply (Wt.sub hc hB1 (hA a List.mem_cons_self)) fun x hx=>hA x (List.mem_cons_of_mem _ hx)) fun hv=>?_
   rw[cy];simp only[aj,List.length_cons] at hz;omega
  ·rw [h1] at hH hz;obtain⟨A',v',b',hab,_,_,_,hA1,hV1,hB1⟩:=hH.three rfl;cases hab;refine hstep h3 (Wt.apply (Wt.sub hc hB1 hV1) hA) fun hv=>?_
   rw[cy];omega
  ·rw [h1] at hH hz;have he:=hJ h2 (by decide);have hk:e.d.k=2:=by
    rcases gH h2 (by decide) with h|h|h
    ·exact h.symm
    ·omega
    ·omega
   have hv:=((hE.xH _ he).vl hk).1.Ix (us:=us) (by omega) hH.1;refine hstep h3 (Wt.apply (hv.up hc) hA) fun hv=>?_
   rw[cy];omega
  ·rw [h1] at hH hz;have he:=hJ h2 (by decide);have hk:e.d.k=3:=by
    rcases gH h2 (by decide) with h|h|h
    ·rcases (hE.xH _ he).k with h'|h'|h'<;>omega
    ·omega
    ·exact h.2
   rcases h5 with⟨g1,rfl⟩|⟨x,g1,⟨_,rfl⟩|⟨mj,d1,g2,⟨_,rfl⟩|⟨i,cty,us2,g3,⟨_,rfl⟩|⟨g4,g5,g6,rfl⟩⟩⟩⟩
   ·cases h6;exact⟨hw,Nat.le_refl _,hd,Nat.le_refl _⟩
   ·cases h6
   ·cases h6;obtain⟨_,q2,q3,_⟩:=ih g2 hd (hA x (List.mem_of_getElem? g1));exact⟨hw,q2,q3,by omega⟩
   ·cases h6
   ·obtain ⟨q1,q2,q3,q4⟩:=ih g2 hd (hA x (List.mem_of_getElem? g1));obtain⟨_,qH,qA,_⟩:=Wt.spine _ (Nat.le_refl _) q1;obtain⟨w1,w2,w3,w4,w5,w6,w7⟩:=qY hE he qH g3;have hI:=FZ (es:=es) hc (hE.xH _ he) hk hH hA qA w2 (by omega) w4 w6 (List.getElem?_eq_some_iff.1 g1).1 w1;obtain⟨p1,p2,p3,p4⟩:=ih h6 (by omega) hI;exact⟨p1,by omega,p3,by omega⟩
  ·cases h3;exact⟨hw,Nat.le_refl _,hd,Nat.le_refl _⟩
end
section
open Go Go.Vd Go.RowKit
attribute [local irreducible] bq bu dh ak bJ cQ
variable {g gl:Nat→List D}
def KE(es:List cu)(most n:Nat)(t:ae)(d:Nat)(pr:Int)(out:Out)(ob':List Ob):Prop:=
 ∃(u:ae) (d':Nat) (t' w':Bool),out=.ret (.d u.d)∧ob'=[ba es w',aZ,iU d' most t' pr]∧d≤d'∧d'≤most∧(w'=false→(t'=true∧RW es most n t d .cW)∨(t'=false∧RW es most n t d (.ok u d')))
def GC(gl:Nat→List D)(es:List cu)(ps:List ByteArray)(c:Int)(most n:Nat):Prop:=
 ∀(k m:Int) (s:ByteArray) (ls:List aO) (args:List ae) (d:Nat) (pr:Int),d≤most→(ae.mk k m s ls args).size+30000*(most-d)<n→(ae.mk k m s ls args).size+30000*(most-d)≤1000000000000→Wt (eh es) ps (.mk k m s ls args) c→
  er Tryz.prog gl 51 [ba es false,aZ,iU d most false pr] [.b0 0 0,.d (ae.mk k m s ls args).d,.b0 2 0] (KE es most n (.mk k m s ls args) d pr)
def Qh(es:List cu)(most n:Nat)(e:cu)(h:ae)(az:List ae)(d:Nat)(pr:Int)(out:Out)(ob':List Ob):Prop:=
 ∃(u:ae) (b:Bool) (d':Nat) (t' w':Bool),out=.ret (.d (.bY [u.d,.v (.bool b)]))∧ob'=[ba es w',aZ,iU d' most t' pr]∧d≤d'∧d'≤most∧
  (w'=false→(t'=true∧b=false∧RI es most (RW es most n) e h az d .cW)∨(t'=false∧b=false∧RI es most (RW es most n) e h az d (.stuck d'))∨(t'=false∧b=true∧RI es most (RW es most n) e h az d (.step u d')))
theorem oA(d most:Nat)(t:Bool)(p:Int)(hd:d≤1099511627776):
 er Tryz.prog gl 84 [iU d most t p] [.b0 0 0] fun out ob'=> ∃(ok:Bool) (d2:Nat) (t2:Bool),out=.ret (.d (.v (.bool ok)))∧ob'=[iU d2 most t2 p]∧((ok=false∧most≤d∧d2=d∧t2=true)∨(ok=true∧d<most∧d2=d+1∧t2=t)):=
 (GV d most t p ⟨by omega,by omega⟩).mono fun o b h=>by
  rcases h with⟨h1,rfl,rfl⟩|⟨h1,rfl,rfl⟩
  ·exact ⟨false,d,true,rfl,rfl,.inl ⟨rfl,by omega,rfl,rfl⟩⟩
  ·exact ⟨true,d+1,t,rfl,rfl,.inr ⟨rfl,by omega,rfl,rfl⟩⟩
theorem zu(nm:ByteArray)(k m:Int)(s:ByteArray)(ls:List aO)(args:List ae)(hz:(ae.mk k m s ls args).size≤1099511627776):
 cC Tryz.prog gl 123 [(ae.mk k m s ls args).d,.v (.string nm)] (· =.v (.bool (eS (jK nm) (.mk k m s ls args) 0))):=by
 refine bD Tryz.func123 Tryz.ntmps123 ?_;refine gc 10 ?_;refine oc (cv xQ rfl rfl (jY nm _ k m s ls args (Nat.le_refl _) hz) (bl (an .nil)) ?_);refine go 4 ?_;refine ez ?_;rfl
theorem uY(l:List ae)(i:Nat):aj (l.take i)≤aj l:=by
 induction l generalizing i with
 |nil=>simp[aj]
 |cons a r ih=>
  cases i with
  |zero=>simp[aj]
  |succ i=>have:=ih i;simp only[List.take_succ_cons,aj];omega
theorem ly(f:ae)(l:List ae)(x:ae):bw f (l++[x])=.mk 3 0 .empty [] [bw f l,x]:=by
 unfold bw;rw[List.foldl_append];rfl
theorem gq(l:List ae)(p:Nat):(ay l).take ((p:Nat):Int).toNat=ay (l.take p):=by
 rw[Int.toNat_natCast]
 induction l generalizing p with
 |nil=>simp[ay]
 |cons a r ih=>cases p with
  |zero=>simp[ay]
  |succ p=>simp only[ay,List.take_succ_cons,ih]
end
end Go.Proofs.YtndbnldjidciiaaGreatDoor
