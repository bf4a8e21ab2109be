/-
  What is proved here: lemmas of part 3, for the theorem of the last part.
-/
import Derived.Test.YtndbnldjidciiaaGreatDoorP2
set_option linter.unusedSimpArgs false
set_option linter.unusedVariables false
set_option linter.unusedSectionVars false
namespace Go.Proofs.YtndbnldjidciiaaGreatDoor
variable{ρ B B' C F G H I J L M R S V W Y a args c e fr h i j l m n p q r s t u us v w x y z}
open Go Go.Vd Go.RowKit
def VD(l:iq):Prop:= ∃x:jC,l=x.iT/\Da x.iT/\∀w,x.has w->rC w
mutual
def Ah : ie -> Prop
  | .mk k n s ls args => (∀ l ∈ ls, VD l) /\ C5 args /\
    ((k = 0 /\ 0 <= n /\ n <= 99999 /\ s = .empty /\ ls = [] /\ args = []) \/ (k = 1 /\ n = 0 /\ s = .empty /\ ls.length = 1 /\ args = []) \/ (k = 2 /\ n = 0 /\ rC s /\ args = []) \/
      ((k = 3 \/ k = 4 \/ k = 5) /\ n = 0 /\ s = .empty /\ ls = [] /\ args.length = 2) \/ (k = 6 /\ n = 0 /\ s = .empty /\ ls = [] /\ args.length = 3))
def C5 : List ie -> Prop
  | [] => True
  | t :: r => Ah t /\ C5 r
end
theorem Pd(c:C5 l)(e:Ah t):C5 (l++[t]):=by
 induction l with
 |nil=>exact⟨e,trivial⟩
 |cons a r b=>exact⟨c.1,b c.2⟩
theorem DQ(n)(c:r.p<=s.size):VD (je n s r).1:=by
 obtain⟨x,b,k,_⟩:=F5 (s:=s) n c;exact⟨x,b,k,SG n c x b⟩
theorem J7:∀(n:Nat) {r:RS},r.p<=s.size->∀l∈(kQ n s r).1,VD l:=by
 intro n
 induction n with
 |zero=>intro r b l hl;simp[kQ] at hl
 |succ n k=>
  intro r b l hl;simp only[kQ] at hl;split at hl
  .rcases bh.1 hl with rfl|hl
   .exact DQ _ b
   .exact k (oB (s:=s) (s.size+1) b).2 l hl
  .simp at hl
theorem vU(c:r.p<=s.size)(h:(jW s r).2.f=none):rC (jW s r).1:=by
 obtain⟨p,f⟩:=r;unfold jW at h ⊢;dsimp only at h ⊢;split at h
 .exact absurd h (sO _ _)
 .rename_i b;rw[if_neg b];cases f with
  |none=>
   have k:nn (iE s p).1=true:=by
    cases U:nn (iE s p).1 with
    |true=>rfl
    |false=>exact absurd (.inr U) b
   exact E2 c k
  |some a=>cases h
theorem Vc:∀{n:Nat} {r:RS},(kQ n s r).2.f=none->r.f=none
 |0,r,h=>h
 |n+1,r,h=>by
  simp only[kQ] at h;split at h
  .rename_i b;exact b.1
  .exact h
theorem Lw{s:fB}{n:Nat}:∀{i:Nat} {r:RS},(nJ (jt n s) i r).2.f=none->r.f=none
 |0,r,h=>h
 |i+1,r,h=>Lw (i:=i) (An h)
theorem xz:∀(n:Nat) (r:RS),r.p<=s.size->(jt n s r).2.f=none->s.size<n+r.p->Ah (jt n s r).1:=by
 intro n
 induction n with
 |zero=>intro r y _ S;omega
 |succ n Y=>
  intro r y e S;obtain⟨p,f⟩:=r;simp only at y S;cases f with
  |some a=>cases e
  |none=>
   have V:=ke (s:=s) (r:=⟨p,none⟩) y;have H:=ke (s:=s) (r:=(iz s ⟨p,none⟩).2) V.2;simp only at V;by_cases J:DU (iE s p).1
   .by_cases z:(iE s p).1=⟨#[40]⟩
    .rcases W:pP (iE s (iz s ⟨p,none⟩).2.p).1 with _|k
     .rw [Ap z W] at e;exact absurd e (sO _ _)
     .rcases c:tj s (k+1) (iz s (iz s ⟨p,none⟩).2).2 with⟨nm,L,I⟩;have q:=BQ (s:=s) (k+1) H.2;rw[c] at q;simp only at q;have h9:=Ga (iE s (iz s ⟨p,none⟩).2.p).1;have h10:=XA y (by rw[z];decide);have h:∀(i:Nat),(nJ (jt n s) i I).2.f=none->C5 (nJ (jt n s) i I).1:=by
       intro i
       induction i with
       |zero=>intro _;exact trivial
       |succ i M=>
        intro C;have h5:=uR (s:=s) (f:=jt n s) (λr hr=>nN n r hr) i q.2;exact Pd (M (An C)) (Y _ h5.2 C O)
      rw[Ao z W O c] at e ⊢;have F:=tq e;have R:=Lw F;have b:=Ft (jt n s) (partsOf (k+1)) I;have U:=h _ F;generalize(nJ (jt n s) (partsOf (k+1)) I).1=as1 at b U ⊢;unfold tj at c;split at c
      .rename_i j;cases c;refine⟨λl x=>?_,U,.inr (.inl ⟨O,rfl,rfl,rfl,?_⟩)⟩
       .simp only[bF] at x;subst x;exact DQ _ H.2
       .rw [j] at b;exact bE.1 b
      .split at c
       .rename_i j G;cases c;have h6:=n7 (s:=s) H.2;refine⟨J7 _ h6.2,U,.inr (.inr (.inl ⟨O,rfl,vU H.2 (Vc R),?_⟩))⟩;rw[G] at b;exact bE.1 b
       .rename_i j G;cases c;refine⟨λl x=>(by cases x),U,?_⟩;unfold partsOf at b;rw[if_neg O] at b;split at b
        .exact .inr (.inr (.inr (.inr ⟨O,rfl,rfl,rfl,b⟩)))
        .exact .inr (.inr (.inr (.inl ⟨O,rfl,rfl,rfl,b⟩)))
    .rw [Cq J z];have q:=ZV y J z;exact⟨λl x=>(by cases x),trivial,.inl ⟨rfl,q.1,q.2,rfl,rfl,rfl⟩⟩
   .rw [Cr J] at e;exact absurd e (sO _ _)
theorem Td(h:(rR s r).f=none):r.f=none:=by
 unfold rR at h;dsimp only at h;split at h
 .exact absurd h (sO _ _)
 .exact h
theorem Oz(h:(pK s).2.1=0):Ah (pK s).1:=by
 unfold pK at h ⊢;split at h
 .exact absurd (show(2:Int)=0 from h) Z
 .rename_i b;rw[if_neg b];dsimp only at h ⊢;split at h
  .rename_i k;simp only;exact xz _ _ (ak _) (Td k) (by simp)
  .exact absurd (show(1:Int)=0 from h) Z
theorem IE(c:(ji s r).2.2.2.f=none):(ji s r).1<=3/\¬(ji s r).1=0:=by
 unfold ji at c ⊢;dsimp only at c ⊢;split at c
 .exact absurd c (sO _ _)
 .rename_i b;rw[if_neg b];exact⟨Vl _,b⟩
def Q9:mJ->Prop
 | .mk k nm ps t v a cs=>rC nm/\(∀ w∈ps,rC w)/\Ah t/\
  ((k=1/\v=iu/\a=0/\cs=[])\/(k=2/\Ah v/\a=0/\cs=[])\/(k=3/\v=iu/\0<=a/\a<=99/\∀c∈cs,rC c.1/\Ah c.2))
theorem LS:∀(n:Nat) {r:RS},r.p<=s.size->(nA n s r).2.f=none->∀w∈(nA n s r).1,rC w:=by
 intro n
 induction n with
 |zero=>intro r k _ w hw;simp[nA] at hw
 |succ n c=>
  intro r k b w hw;simp only[nA] at b hw;split at b
  .rename_i U;rw[if_pos U] at hw;rcases bh.1 hw with rfl|hw
   .exact vU k (EF b)
   .exact c (n7 (s:=s) k).2 b w hw
  .rename_i U;rw[if_neg U] at hw;simp at hw
theorem PY(e:r.p<=s.size)(c:(oI s r).2.f=none):rC (oI s r).1.1/\Ah (oI s r).1.2:=by
 have U:=jy (s:=s) (w:=⟨#[40]⟩) e;have b:=jy (s:=s) (w:=uB) U.2;have h:=n7 (s:=s) b.2;unfold oI at c ⊢;have k:=tq c;exact⟨vU b.2 (An k),xz _ _ h.2 k O⟩
theorem MW:∀(n:Nat) {r:RS},r.p<=s.size->(ns n s r).2.f=none->∀c∈(ns n s r).1,rC c.1/\Ah c.2:=by
 intro n
 induction n with
 |zero=>intro r k _ w hw;simp[ns] at hw
 |succ n e=>
  intro r k b w hw;simp only[ns] at b hw;split at b
  .rename_i U;rw[if_pos U] at hw;rcases bh.1 hw with rfl|hw
   .exact PY k (Kw b)
   .exact e (B9 (s:=s) k).2 b w hw
  .rename_i U;rw[if_neg U] at hw;simp at hw
theorem Pa(e:r.p<=s.size)(c:(ji s r).2.2.2.f=none):rC (ji s r).2.1/\∀w∈(ji s r).2.2.1,rC w:=by
 have U:=jy (s:=s) (w:=⟨#[40]⟩) e;have b:=ke (s:=s) U.2;have h:=n7 (s:=s) b.2;have i:=jy (s:=s) (w:=⟨#[40]⟩) h.2;unfold ji at c ⊢;dsimp only at c ⊢;split at c
 .exact absurd c (sO _ _)
 .rename_i j;rw[if_neg j];have k:=tq c;exact⟨vU b.2 (tq (EF k)),LS _ i.2 k⟩
theorem PS(y:r.p<=s.size)(c:(oh s r).2.f=none):Q9 (oh s r).1:=by
 have z:=v9 (s:=s) y;unfold oh at c ⊢;dsimp only at c ⊢;split at c
 .rename_i q;exact absurd (IE c).2 (λh=>h q)
 .rename_i q;rw[if_neg q];split at c
  .exact absurd c (sO _ _)
  .rename_i C;rw[if_neg C];have ha:=xp (s:=s) (k:=(ji s r).1) z.2;have j:=RK (Ub c);have V:=IE j;have F:=Pa y j;generalize H:(ji s r).1=k at*
   generalize I:(ji s r).2.1=nm at*
   generalize J:(ji s r).2.2.1=ps at*
   generalize M:(ji s r).2.2.2=i at*
   have b:(¬ k=3->(qm s k i).1=0)/\(k=3->0<=(qm s k i).1/\(qm s k i).1<=99):=by
    unfold qm;refine⟨λh=>by rw[if_neg h],λh=>?_⟩;rw[if_pos h];have U:ze (iE s i.p):=dj λR=>C ⟨h,R⟩
    obtain⟨_,x,_⟩:=QA z.2 U.1 ⟨U.2.1,U.2.2.1⟩;exact Sv x U.2.2.2
   generalize(qm s k i).1=a at*
   generalize(qm s k i).2=G at*
   unfold sS at c ⊢;dsimp only at c ⊢;have f1:=tq c;have f2:=Wb f1;have f3:=YJ f2;have t2:=nN (s:=s) (s.size+1) G ha.2;have S:=Eu (s:=s) (k:=k) t2.2;have gt:=xz (s:=s) (s.size+1) G ha.2 f3 O;refine⟨F.1,F.2,gt,?_⟩;have e:k=1\/k=2\/k=3:=O;rcases e with rfl|rfl|rfl
   .refine .inl ⟨rfl,?_,b.1 Z,?_⟩
    .unfold Aj;rw[if_neg Z]
    .unfold wc;rw[if_neg Z]
   .refine .inr (.inl ⟨rfl,?_,b.1 Z,?_⟩)
    .unfold Aj at f2 ⊢;rw[if_pos rfl] at f2 ⊢;exact xz _ _ t2.2 f2 O
    .unfold wc;rw[if_neg Z]
   .refine .inr (.inr ⟨rfl,?_,(b.2 rfl).1,(b.2 rfl).2,?_⟩)
    .unfold Aj;rw[if_neg Z]
    .unfold wc at f1 ⊢;rw[if_pos rfl] at f1 ⊢;exact MW _ S.2 f1
theorem Px:∀(n:Nat) {r:RS},r.p<=s.size->(pS n s r).2.f=none->∀d∈(pS n s r).1,Q9 d:=by
 intro n
 induction n with
 |zero=>intro r k _ d hd;simp[pS] at hd
 |succ n i=>
  intro r k b d hd;simp only[pS] at b hd;split at b
  .rename_i U;rw[if_pos U] at hd;have c:(oh s r).2.f=none:=by
    cases h:(oh s r).2.f with
    |none=>rfl
    |some a=>
     rw[Dc (by rintro⟨e,_⟩;rw[h] at e;cases e)] at b;rw[h] at b;cases b
   rcases bh.1 hd with rfl|hd
   .exact PS k c
   .exact i (GJ (s:=s) k).2 b d hd
  .rename_i U;rw[if_neg U] at hd;simp at hd
theorem JQ(h:(pL s).2.1=0):∀d∈(pL s).1,Q9 d:=by
 unfold pL at h ⊢;split at h
 .exact absurd h Z
 .rename_i b;rw[if_neg b];unfold oY at h ⊢;split at h
  .rename_i k;simp only;exact Px _ (ak _) k
  .exact absurd (show(1:Int)=0 from h) Z
def FV(l:iq):Prop:= ∃x:jC,l=x.iT/\Da x.iT
def LQ(e n:Int)(s:fB)(c:List iq)(a:Nat)(V:Prop)(C:Prop):Prop:=
 (e=0/\V/\s=.empty/\c=[]/\a=0)\/(e=1/\n=0/\s=.empty/\c.length=1/\a=0)\/(e=2/\n=0/\C/\a=0)\/
  ((e=3\/e=4\/e=5)/\n=0/\s=.empty/\c=[]/\a=2)\/(e=6/\n=0/\s=.empty/\c=[]/\a=3)
theorem LQ.imp(h:LQ y n s e a V C)(q:y=0->V->i)(r:y=2->C->j):LQ y n s e a i j:=by
 rcases h with⟨b,U,c⟩|h|⟨b,U,c,x⟩|h|h
 .exact .inl ⟨b,q b U,c⟩
 .exact .inr (.inl h)
 .exact .inr (.inr (.inl ⟨b,U,r b c,x⟩))
 .exact .inr (.inr (.inr (.inl h)))
 .exact .inr (.inr (.inr (.inr h)))
mutual
def oD(B:Int):ie->Prop
 | .mk k n s ls args=>(∀ l∈ls,FV l)/\CD B args/\LQ k n s ls args.length (0<=n/\n<=B) True
def CD(B:Int):List ie->Prop
 |[]=>True
 |t::r=>oD B t/\CD B r
end
theorem Fg{B:Int}:∀{l:List ie} {t:ie},CD B l->t∈l->oD B t
 |[],t,_,h=>by cases h
 |a::r,t,b,h=>by
  rcases bh.1 h with rfl|h
  .exact b.1
  .exact Fg b.2 h
theorem yC{B:Int}{l:List ie}{i:Nat}(h:CD B l)(c:l[i]? =some t):oD B t:=Fg h (aO c)
theorem wm(h:oD B (.mk j n s e c))(i:j=0):0<=n/\n<=B/\s=.empty/\e=[]/\c=[]:=by
 obtain⟨_,_,h3⟩:=h;rcases h3 with h3|h3|h3|h3|h3
 .exact ⟨h3.2.1.1,h3.2.1.2,h3.2.2.1,h3.2.2.2.1,bE.1 h3.2.2.2.2⟩
 all_goals omega
mutual
theorem rr{B B':Int}(hb:B<=B'):∀{t:ie},oD B t->oD B' t
 | .mk k n s ls args,h=>⟨h.1,HL hb h.2.1,h.2.2.imp (λ_ h=>⟨h.1,O⟩) λ_ h=>h⟩
theorem HL{B B':Int}(hb:B<=B'):∀{l:List ie},CD B l->CD B' l
 |[],_=>trivial
 |t::r,h=>⟨rr hb h.1,HL hb h.2⟩
end
mutual
theorem yD:∀{t:ie},Ah t->oD 99999 t
 | .mk k n s ls args,h=>by
  refine⟨λl hl=>(h.1 l hl).imp λx h=>⟨h.1,h.2.1⟩,HN h.2.1,?_⟩;rcases h.2.2 with h|h|h|h|h
  .exact .inl ⟨h.1,⟨h.2.1,h.2.2.1⟩,h.2.2.2.1,h.2.2.2.2.1,by rw[h.2.2.2.2.2];rfl⟩
  .exact .inr (.inl ⟨h.1,h.2.1,h.2.2.1,h.2.2.2.1,by rw[h.2.2.2.2];rfl⟩)
  .exact .inr (.inr (.inl ⟨h.1,h.2.1,trivial,by rw[h.2.2.2];rfl⟩))
  .exact .inr (.inr (.inr (.inl h)))
  .exact .inr (.inr (.inr (.inr h)))
theorem HN:∀{l:List ie},C5 l->CD 99999 l
 |[],_=>trivial
 |t::r,h=>⟨yD h.1,HN h.2⟩
end
def qV(c:List fB)(l:iq):Prop:= ∃x:jC,l=x.iT/\Da x.iT/\∀p,x.has p->p∈c
abbrev Sg:=fB->Option Nat
mutual
def Wt(sg:Sg)(ps:List fB):ie->Int->Prop
 | .mk k n s ls args,c=>(∀ l∈ls,qV ps l)/\qF sg ps (decide (4<=k)) args c/\LQ k n s ls args.length (0<=n/\n<c) (sg s=some ls.length)
def qF(sg:Sg)(ps:List fB)(b:Bool):List ie->Int->Prop
 |[],_=>True
 |t::r,c=>Wt sg ps t (if b&&r.isEmpty then c+1 else c)/\qF sg ps b r c
end
def Hw(a c:Sg):Prop:= ∀s n,a s=some n->c s=some n
theorem qV.mono{ps:List fB}(h:qV ps l)(e:∀p∈ps,p∈c):qV c l:=by
 obtain⟨x,b,k,U⟩:=h;exact⟨x,b,k,λp i=>e p (U p i)⟩
theorem qV.ok{ps:List fB}(h:qV ps l):FV l:=h.imp λx h=>⟨h.1,h.2.1⟩
section
variable {sg sg':Sg} {ps qs:List fB}
mutual
theorem Wt.mono(hs:Hw sg sg')(hp:∀p∈ps,p∈qs):∀{t:ie} {c c':Int},Wt sg ps t c->c<=c'->Wt sg' qs t c'
 | .mk k n s ls args,c,c',h,hc=>⟨λl hl=>(h.1 l hl).mono hp,qF.mono hs hp h.2.1 hc,h.2.2.imp (λ_ h=>⟨h.1,O⟩) λ_ h=>hs _ _ h⟩
theorem qF.mono(hs:Hw sg sg')(hp:∀p∈ps,p∈qs):∀{l:List ie} {b:Bool} {c c':Int},qF sg ps b l c->c<=c'->qF sg' qs b l c'
 |[],b,c,c',_,_=>trivial
 |t::r,b,c,c',h,hc=>⟨Wt.mono hs hp h.1 (by split<;>omega),qF.mono hs hp h.2 hc⟩
end
theorem Hw.refl(c):Hw c c:=λ_ _ h=>h
theorem Wt.up(h:Wt sg ps t c)(i:c<=e):Wt sg ps t e:=h.mono (Hw.refl _) (λ_ h=>h) i
mutual
theorem Wt.sh:∀{t:ie} {c:Int},Wt sg ps t c->∀{B:Int},c+t.size<=B+1->oD B t
 | .mk k n s ls args,c,h,B,hB=>by
  simp only[ie.size] at hB;exact⟨λl hl=>(h.1 l hl).ok,qF.sh h.2.1 O,h.2.2.imp (λ_ h=>⟨h.1,O⟩) λ_ _=>trivial⟩
theorem qF.sh:∀{l:List ie} {b:Bool} {c:Int},qF sg ps b l c->∀{B:Int},c+ij l<=B->CD B l
 |[],_,_,_,_,_=>trivial
 |t::r,b,c,h,B,hB=>by
  simp only[ij] at hB;exact⟨Wt.sh h.1 (by split<;>omega),qF.sh h.2 O⟩
end
mutual
theorem Wt.lift{m fr:Int}(hm:0<=m):∀{t:ie} {c d:Int},Wt sg ps t c->Wt sg ps (ju (mr m fr) t d) (c+m)
 | .mk k n s ls args,c,d,h=>by
  by_cases hk:k=0
  .subst hk;have hv:=h.2.2;rcases hv with hv|hv|hv|hv|hv
   .obtain ⟨_,⟨h0,h1⟩,rfl,rfl,ha⟩:=hv;have ha:=bE.1 ha;subst ha;rw[jL,mr];split
    .exact ⟨λl hl=>(by cases hl),trivial,.inl ⟨rfl,⟨O,O⟩,rfl,rfl,rfl⟩⟩
    .exact ⟨λl hl=>(by cases hl),trivial,.inl ⟨rfl,⟨O,O⟩,rfl,rfl,rfl⟩⟩
   all_goals omega
  .rw [ju,if_neg hk];refine⟨h.1,qF.lift hm h.2.1,?_⟩;rw[pN];exact h.2.2.imp (λh=>absurd h hk) λ_ h=>h
theorem qF.lift{m fr:Int}(hm:0<=m):∀{l:List ie} {b:Bool} {c d:Int},qF sg ps b l c->qF sg ps b (jm (mr m fr) b l d) (c+m)
 |[],b,c,d,_=>by simp[jm,qF]
 |t::r,b,c,d,h=>by
  rw[jm,qF];refine⟨?_,qF.lift hm h.2⟩;rw[ug];have:=Wt.lift (fr:=fr) hm (d:=if (b&&r.isEmpty)=true then d+1 else d) h.1;refine this.up ?_;split<;>omega
end
theorem Wt.Y0(e:0<=m)(h:Wt sg ps t c):Wt sg ps (lJ t m fr) (c+m):=by
 rw[mZ];exact h.lift e
mutual
theorem Wt.inst{v:ie}{c:Int}(hc:0<=c)(hv:Wt sg ps v c):∀{t:ie} {d:Int},0<=d->Wt sg ps t (c+1+d)->Wt sg ps (ju (j6 v) t d) (c+d)
 | .mk k n s ls args,d,hd,h=>by
  by_cases hk:k=0
  .subst hk;rcases h.2.2 with h2|h2|h2|h2|h2
   .obtain ⟨_,⟨h0,h1⟩,rfl,rfl,ha⟩:=h2;have ha:=bE.1 ha;subst ha;rw[jL,j6];split
    .exact ⟨λl hl=>(by cases hl),trivial,.inl ⟨rfl,⟨O,O⟩,rfl,rfl,rfl⟩⟩
    .split
     .exact hv.Y0 hd
     .exact ⟨λl hl=>(by cases hl),trivial,.inl ⟨rfl,⟨O,O⟩,rfl,rfl,rfl⟩⟩
   all_goals omega
  .rw [ju,if_neg hk];refine⟨h.1,qF.inst hc hv hd h.2.1,?_⟩;rw[pN];exact h.2.2.imp (λh=>absurd h hk) λ_ h=>h
theorem qF.inst{v:ie}{c:Int}(hc:0<=c)(hv:Wt sg ps v c):∀{l:List ie} {b:Bool} {d:Int},0<=d->qF sg ps b l (c+1+d)->qF sg ps b (jm (j6 v) b l d) (c+d)
 |[],b,d,_,_=>by simp[jm,qF]
 |t::r,b,d,hd,h=>by
  rw[jm,qF];refine⟨?_,qF.inst hc hv hd h.2⟩;rw[ug];have h1:=h.1;split at h1
  .rename_i e;rw[if_pos e,if_pos e];have:=Wt.inst hc hv (d:=d+1) O (h1.up O);exact this.up O
  .rename_i e;rw[if_neg e,if_neg e];exact Wt.inst hc hv hd h1
end
theorem Wt.sub{b:ie}(e:0<=c)(h:Wt sg ps b (c+1))(i:Wt sg ps v c):Wt sg ps (jJ b v) c:=by
 have:=Wt.inst e i (t:=b) (d:=0) (aP _) (by rw[dW];exact h)
 rwa [dW] at this
mutual
theorem Wt.Cm{v:ie}{c B:Int}(hc:0<=c):∀{t:ie} {d:Int},0<=d->oD B t->Wt sg ps (ju (j6 v) t d) (c+d)->Wt sg ps t (c+1+d)
 | .mk k n s ls args,d,hd,hs,h=>by
  by_cases hk:k=0
  .subst hk;obtain⟨h0,_,rfl,rfl,rfl⟩:=wm hs rfl;rw[jL,j6] at h;refine⟨λl hl=>(by cases hl),trivial,.inl ⟨rfl,⟨h0,?_⟩,rfl,rfl,rfl⟩⟩;split at h
   .omega
   .split at h
    .omega
    .rcases h.2.2 with h2|h2|h2|h2|h2
     .have:=h2.2.1.2;omega
     all_goals omega
  .rw [ju,if_neg hk] at h;refine⟨h.1,qF.Cm hc hd hs.2.1 h.2.1,?_⟩;have h2:=h.2.2;rw[pN] at h2;exact h2.imp (λh=>absurd h hk) λ_ h=>h
theorem qF.Cm{v:ie}{c B:Int}(hc:0<=c):∀{l:List ie} {b:Bool} {d:Int},0<=d->CD B l->qF sg ps b (jm (j6 v) b l d) (c+d)->qF sg ps b l (c+1+d)
 |[],b,d,_,_,_=>trivial
 |t::r,b,d,hd,hs,h=>by
  rw[jm,qF,ug] at h;refine⟨?_,qF.Cm hc hd hs.2 h.2⟩;have h1:=h.1;split at h1
  .rename_i e;rw[if_pos e];have:=Wt.Cm hc (d:=d+1) O hs.1 (h1.up O);exact this.up O
  .rename_i e;rw[if_neg e];exact Wt.Cm hc hd hs.1 h1
end
theorem Wt.YN(e:0<=c)(i:oD B j)(h:Wt sg ps (jJ j v) c):Wt sg ps j (c+1):=by
 have:=Wt.Cm (v:=v) (B:=B) e (t:=j) (d:=0) (aP _) i (by rw[dW];exact h)
 rwa [dW] at this
theorem qF.get:∀{l:List ie} {b:Bool} {c:Int} {i:Nat} {t:ie},qF sg ps b l c->l[i]? =some t->Wt sg ps t (if b=true/\i+1=l.length then c+1 else c)
 |[],b,c,i,t,_,h=>by simp at h
 |a::r,b,c,0,t,k,h=>by
  simp at h;subst h;have:=k.1;cases r<;>simpa using this
 |a::r,b,c,i+1,t,k,h=>by
  have:=qF.get (l:=r) (i:=i) (t:=t) k.2 (by simpa using h)
  simpa only[aj,dV] using this
theorem Wt.two(h:Wt sg ps (.mk C n s j e) c)(z:C=3\/C=4\/C=5):∃a b,e=[a,b]/\n=0/\s=.empty/\j=[]/\Wt sg ps a c/\Wt sg ps b (if C=3 then c else c+1):=by
 rcases h.2.2 with h2|h2|h2|h2|h2
 .omega
 .omega
 .omega
 .obtain ⟨_,r,x,y,ha⟩:=h2
  match e,ha with
  |[a,b],_=>
   have i:=h.2.1;simp only[qF,dA,dB,dC,dD,bu,if_false,decide_eq_true_eq] at i;refine⟨a,b,rfl,r,x,y,i.1,?_⟩;have U:=i.2.1;by_cases q:C=3
   .rw [if_pos q];rw[if_neg O] at U;exact U
   .rw [if_neg q];rw[if_pos O] at U;exact U
 .omega
theorem Wt.three(h:Wt sg ps (.mk z n s i e) c)(y:z=6):∃a v b,e=[a,v,b]/\n=0/\s=.empty/\i=[]/\Wt sg ps a c/\Wt sg ps v c/\Wt sg ps b (c+1):=by
 rcases h.2.2 with h2|h2|h2|h2|h2
 .omega
 .omega
 .omega
 .omega
 .obtain ⟨_,q,r,x,ha⟩:=h2
  match e,ha with
  |[a,v,b],_=>
   have U:=h.2.1;simp only[qF,dA,dB,dC,dD,bu,if_false,decide_eq_true_eq] at U;refine⟨a,v,b,rfl,q,r,x,U.1,U.2.1,?_⟩;have j:=U.2.2.1;rw[if_pos O] at j;exact j
theorem Wt.mk2(h:q=3\/q=4\/q=5)(i:Wt sg ps a c)(e:Wt sg ps r (if q=3 then c else c+1)):Wt sg ps (.mk q 0 .empty [] [a,r]) c:=by
 refine⟨λl j=>(by cases j),?_,.inr (.inr (.inr (.inl ⟨h,rfl,rfl,rfl,rfl⟩)))⟩;simp only[qF,dA,dB,dC,dD,bu,if_false,decide_eq_true_eq];refine⟨i,?_,trivial⟩;by_cases U:q=3
 .rw [if_pos U] at e;rw[if_neg O];exact e
 .rw [if_neg U] at e;rw[if_pos O];exact e
theorem Wt.app{c:Int}{a b:ie}(e:Wt sg ps a c)(h:Wt sg ps b c):Wt sg ps (.mk 3 0 .empty [] [a,b]) c:=Wt.mk2 (.inl rfl) e (by rw[if_pos rfl];exact h)
theorem Wt.bind(e:j=4\/j=5)(h:Wt sg ps a c)(i:Wt sg ps q (c+1)):Wt sg ps (.mk j 0 .empty [] [a,q]) c:=Wt.mk2 (.inr e) h (by rw[if_neg O];exact i)
theorem Wt.var(e:0<=n)(h:n<c):Wt sg ps (.mk 0 n .empty [] []) c:=⟨λl b=>(by cases b),trivial,.inl ⟨rfl,⟨e,h⟩,rfl,rfl,rfl⟩⟩
theorem Wt.sort(h:qV ps l):Wt sg ps (.mk 1 0 .empty [l] []) c:=⟨λx b=>by simp only[bF] at b;subst b;exact h,trivial,.inr (.inl ⟨rfl,rfl,rfl,rfl,rfl⟩)⟩
theorem Wt.apply(i:Wt sg ps q c)(j:∀b∈e,Wt sg ps b c):Wt sg ps (iF q e) c:=by
 unfold iF
 induction e generalizing q with
 |nil=>exact i
 |cons a r k=>exact k (Wt.app i (j a bC)) λb h=>j b (bB _ h)
theorem Wt.spine:∀(n:Nat) {t:ie} {c:Int},t.size<=n->Wt sg ps t c->zX t/\Wt sg ps (ig t).1 c/\(∀ b∈(ig t).2,Wt sg ps b c)/\iF (ig t).1 (ig t).2=t:=by
 intro n
 induction n with
 |zero=>intro t c h;obtain⟨k,m,s,ls,args,rfl⟩:=ie.case t;simp[ie.size] at h
 |succ n q=>
  intro t c y h;obtain⟨k,m,s,ls,args,rfl⟩:=ie.case t
  by_cases U:k=3
  .subst U;obtain⟨a,b,rfl,rfl,rfl,rfl,ha,i⟩:=h.two (.inl rfl);rw[if_pos rfl] at i;simp only[ie.size,ij] at y;obtain⟨z,C,F,j⟩:=q O ha;rw[qv];refine⟨λ_=>z,C,λx hx=>?_,?_⟩
   .rcases bn.1 hx with hx|hx
    .exact F x hx
    .simp only[bF] at hx;subst hx;exact i
   .show iF (ig a).1 ((ig a).2++[b])=_;unfold iF at j ⊢;rw[eg,j];rfl
  .rw [oE U];exact⟨by
    match args with
    |[a,b]=>intro e;exact absurd e U
    |[]=>exact U
    |[a]=>exact U
    |a::b::c::r=>exact U,h,λb i=>(by cases i),rfl⟩
end
mutual
def ld(ps:List fB)(us:List iq):ie->ie
 | .mk k n s ls args=>.mk k n s (ls.map λx=>x.subst ps us) (lZ ps us args)
def lZ(ps:List fB)(us:List iq):List ie->List ie
 |[]=>[]
 |t::r=>ld ps us t::lZ ps us r
end
theorem zu{ps:List fB}{us:List iq}:∀l:List ie,(lZ ps us l).length=l.length
 |[]=>rfl
 |t::r=>by simp[lZ,zu r]
theorem Cu{ps:List fB}{us:List iq}:∀{l:List ie} {i:Nat} {t:ie},l[i]? =some t->(lZ ps us l)[i]? =some (ld ps us t)
 |[],i,t,h=>by simp at h
 |a::r,0,t,h=>by simp at h;subst h;simp[lZ]
 |a::r,i+1,t,h=>by simpa[lZ] using Cu (l:=r) (i:=i) (t:=t) (by simpa using h)
theorem FR{l:List iq}{i:Nat}(h:l[i]? =some x):iR (l.take i)++[x.cells]=iR (l.take (i+1)):=by
 rw[bo,h,yV];rfl
theorem E0{l:List ie}{i:Nat}(h:l[i]? =some x):im (l.take i)++[x.cells]=im (l.take (i+1)):=by
 rw[bo,h,ll];rfl
theorem As:∀{l:List iq} {i:Nat} {t:iq},l[i]? =some t->t.size<=iG l
 |[],i,t,h=>by simp at h
 |a::r,0,t,h=>by simp at h;subst h;simp[iG]
 |a::r,i+1,t,h=>by
  have:=As (l:=r) (i:=i) (t:=t) (by simpa using h);simp[iG];omega
theorem xF:∀l:List iq,l.length<=iG l
 |[]=>by simp
 | .mk k s args::r=>by have:=xF r;simp[iG,iq.size];omega
theorem mS(l m):ij (l++m)=ij l+ij m:=by
 induction l with
 |nil=>simp[ij]
 |cons a r b=>simp[ij,b];omega
theorem mQ:∀(n:Nat) (t:ie),t.size<=n->(ig t).1.size+ij (ig t).2<=t.size:=by
 intro n
 induction n with
 |zero=>intro t h;obtain⟨k,m,s,ls,args,rfl⟩:=ie.case t;simp[ie.size] at h
 |succ n e=>
  intro t h
  match t with
  | .mk k m s ls [f,a]=>
   simp only[ie.size,ij] at h;by_cases U:k=3
   .have i:=e f O;rw[ig,if_pos U];simp only[mS,ij,ie.size];omega
   .rw [ig,if_neg U];simp[ij]
  | .mk k m s ls []=>simp[ig,ij]
  | .mk k m s ls [a]=>simp[ig,ij]
  | .mk k m s ls (a::b::c::r)=>simp[ig,ij]
theorem jG(e c):(iF e c).size=e.size+ij c+c.length:=by
 unfold iF
 induction c generalizing e with
 |nil=>simp[ij]
 |cons a r b=>rw[List.foldl_cons,b];simp only[ie.size,iG,ij,aj];omega
theorem S2{c:List fB}(h:s∈c):∃i,c.findIdx? (· =s)=some i/\i<c.length:=by
 induction c with
 |nil=>cases h
 |cons p r b=>
  by_cases e:p=s
  .exact ⟨0,by simp[List.findIdx?_cons,e],by simp⟩
  .rcases bh.1 h with h|h
   .exact absurd h.symm e
   .obtain ⟨i,k,U⟩:=b h;exact⟨i+1,by simp[List.findIdx?_cons,e,k],by simp;omega⟩
theorem uT{j H:List fB}{c:List iq}(F:j.length<=c.length)(r:∀u∈c,qV H u):∀x:jC,Da x.iT->(∀ p,x.has p->p∈j)->qV H (x.iT.subst j c)
 | .zero,_,_=>⟨.zero,rfl,⟨Z,Z,λe=>absurd e Z,trivial⟩,λp h=>h.elim⟩
 | .succ a,U,h=>by
  obtain⟨y,q,C,G⟩:=uT F r a U.2.2.2.1 h;refine⟨.succ y,?_,⟨Z,Z,λe=>absurd e Z,C,trivial⟩,G⟩;show iq.subst j c (.mk 1 .empty [a.iT])=.mk 1 .empty [y.iT];simp only[iq.subst,nH,q];rfl
 | .max a b,U,h=>by
  obtain⟨y,q,C,G⟩:=uT F r a U.2.2.2.1 λp k=>h p (.inl k)
  obtain⟨z,I,J,M⟩:=uT F r b U.2.2.2.2.1 λp k=>h p (.inr k)
  refine⟨.max y z,?_,⟨Z,Z,λe=>absurd e Z,C,J,trivial⟩,λp k=>k.elim (G p) (M p)⟩;show iq.subst j c (.mk 2 .empty [a.iT,b.iT])=.mk 2 .empty [y.iT,z.iT];simp only[iq.subst,nH,q,I];rfl
 | .imax a b,U,h=>by
  obtain⟨y,q,C,G⟩:=uT F r a U.2.2.2.1 λp k=>h p (.inl k)
  obtain⟨z,I,J,M⟩:=uT F r b U.2.2.2.2.1 λp k=>h p (.inr k)
  refine⟨.imax y z,?_,⟨Z,Z,λe=>absurd e Z,C,J,trivial⟩,λp k=>k.elim (G p) (M p)⟩;show iq.subst j c (.mk 3 .empty [a.iT,b.iT])=.mk 3 .empty [y.iT,z.iT];simp only[iq.subst,nH,q,I];rfl
 | .param s,U,h=>by
  obtain⟨i,q,C⟩:=S2 (h s rfl);have R:i<c.length:=O;show qV H (iq.subst j c (.mk 4 s []));simp only[iq.subst,if_true,q];rw[ba,aZ R];exact r _ (bS R)
theorem qV.subst{ps e:List fB}{c:List iq}{l:iq}(i:ps.length<=c.length)(j:∀u∈c,qV e u)(h:qV ps l):qV e (l.subst ps c):=by
 obtain⟨x,rfl,b,k⟩:=h;exact uT i j x b k
theorem KZ(c e r):(lZ c e r).isEmpty=r.isEmpty:=by cases r<;>simp[lZ]
mutual
theorem Wt.Ny{sg:Sg}{ps qs:List fB}{us:List iq}(hl:ps.length<=us.length)(hu:∀u∈us,qV qs u):∀{t:ie} {c:Int},Wt sg ps t c->Wt sg qs (ld ps us t) c
 | .mk k n s ls args,c,h=>by
  rw[ld];refine⟨λl hm=>?_,qF.Ny hl hu h.2.1,?_⟩
  .obtain ⟨x,hx,rfl⟩:=bD.1 hm;exact(h.1 x hx).subst hl hu
  .rw [zu];rcases h.2.2 with h|h|h|h|h
   .exact .inl ⟨h.1,h.2.1,h.2.2.1,by rw[h.2.2.2.1];rfl,h.2.2.2.2⟩
   .exact .inr (.inl ⟨h.1,h.2.1,h.2.2.1,by rw[bc];exact h.2.2.2.1,h.2.2.2.2⟩)
   .exact .inr (.inr (.inl ⟨h.1,h.2.1,by rw[bc];exact h.2.2.1,h.2.2.2⟩))
   .exact .inr (.inr (.inr (.inl ⟨h.1,h.2.1,h.2.2.1,by rw[h.2.2.2.1];rfl,h.2.2.2.2⟩)))
   .exact .inr (.inr (.inr (.inr ⟨h.1,h.2.1,h.2.2.1,by rw[h.2.2.2.1];rfl,h.2.2.2.2⟩)))
theorem qF.Ny{sg:Sg}{ps qs:List fB}{us:List iq}(hl:ps.length<=us.length)(hu:∀u∈us,qV qs u):∀{l:List ie} {b:Bool} {c:Int},qF sg ps b l c->qF sg qs b (lZ ps us l) c
 |[],b,c,_=>by simp[lZ,qF]
 |t::r,b,c,h=>by
  rw[lZ,qF,KZ];exact⟨Wt.Ny hl hu h.1,qF.Ny hl hu h.2⟩
end
mutual
def vL:ie->Int->Nat
 | .mk k n s ls args,v=>if k=0/\n=v then 1 else uq (decide (4<=k)) args v
def uq(b:Bool):List ie->Int->Nat
 |[],_=>0
 |t::r,v=>vL t (if b&&r.isEmpty then v+1 else v)+uq b r v
end
mutual
theorem Cz(m fr:Int):∀(t:ie) (d:Int),(ju (mr m fr) t d).size=t.size
 | .mk k n s ls args,d=>by
  by_cases hk:k=0
  .rw [ju,if_pos hk,mr];split<;>rfl
  .rw [ju,if_neg hk];simp only[ie.size,E9 m fr args]
theorem E9(m fr:Int):∀(l:List ie) (b:Bool) (d:Int),ij (jm (mr m fr) b l d)=ij l
 |[],b,d=>by simp[jm]
 |t::r,b,d=>by simp only[jm,ij,Cz m fr t,E9 m fr r]
end
theorem tt(t m c):(lJ t m c).size=t.size:=by rw[mZ,Cz]
mutual
theorem HJ(v:ie):∀(t:ie) (d:Int),(ju (j6 v) t d).size<=t.size+vL t d*v.size
 | .mk k n s ls args,d=>by
  by_cases hk:k=0
  .rw [ju,if_pos hk,j6,vL];split
   .rw [if_neg O];simp only[ie.size];omega
   .split
    .rw [if_pos ⟨hk,O⟩,tt];simp only[ie.size];omega
    .rw [if_neg O];simp only[ie.size];omega
  .rw [ju,if_neg hk,vL,if_neg (λh=>hk h.1)];have:=Fa v args (decide (4<=k)) d;simp only[ie.size];omega
theorem Fa(v:ie):∀(l:List ie) (b:Bool) (d:Int),ij (jm (j6 v) b l d)<=ij l+uq b l d*v.size
 |[],b,d=>by simp[jm,ij]
 |t::r,b,d=>by
  have h1:=HJ v t (if b&&r.isEmpty then d+1 else d);have h2:=Fa v r b d;simp only[jm,ij,uq,bQ];omega
end
structure Alg where
 two:Nat->Nat->Nat
 lam:Nat->Nat->Nat
 tri:Nat->Nat->Nat->Nat
 leaf:Nat
 ag6:Nat
def qC(x:Nat)(ρ:Nat->Nat):Nat->Nat
 |0=>x
 |i+1=>ρ i
def zE(c:Alg):ie->(Nat->Nat)->Nat
 | .mk k n s ls [a,b],ρ=>if k=0 then ρ n.toNat else if 4<=k then c.lam (zE c a ρ) (zE c b (qC c.ag6 ρ)) else c.two (zE c a ρ) (zE c b ρ)
 | .mk k n s ls [a,v,b],ρ=>if k=0 then ρ n.toNat else if 4<=k then c.tri (zE c a ρ) (zE c v ρ) (zE c b (qC (zE c v ρ) ρ)) else c.leaf
 | .mk k n s ls _,ρ=>if k=0 then ρ n.toNat else c.leaf
def At(m c:Nat)(ρ:Nat->Nat)(i:Nat):Nat:=if i<c then ρ i else ρ (i+m)
theorem Fc(m c x)(ρ:Nat->Nat):At m (c+1) (qC x ρ)=qC x (At m c ρ):=by
 funext i;cases i with
 |zero=>simp[At,qC]
 |succ i=>
  simp only[At,qC,Nat.add_lt_add_iff_right];split
  .rfl
  .rw [show i+1+m=(i+m)+1 by omega]
theorem WT(x:Alg)(m:Nat):∀(n:Nat) (t:ie) (d:Nat) (ρ:Nat->Nat),t.size<=n->oD B t->zE x (ju (mr m 0) t d) ρ=zE x t (At m d ρ):=by
 intro n
 induction n with
 |zero=>intro t d ρ h;obtain⟨k,m,s,ls,args,rfl⟩:=ie.case t;simp[ie.size] at h
 |succ n e=>
  intro t d ρ q j;obtain⟨k,v,s,ls,args,rfl⟩:=ie.case t
  by_cases U:k=0
  .subst U;obtain⟨y,_,rfl,rfl,rfl⟩:=wm j rfl;rw[jL,mr];simp only[dE];split
   .simp only[zE,if_true,At];rw[if_neg O];congr 1;omega
   .simp only[zE,if_true,At];rw[if_pos O]
  .rw [ju,if_neg U];have h2:=j.2.2;simp only[ie.size] at q;rcases h2 with h2|h2|h2|h2|h2
   .omega
   .obtain ⟨_,_,_,_,ha⟩:=h2
    match args,ha with
    |[],_=>simp only[jm,zE,if_neg U]
   .obtain ⟨_,_,_,ha⟩:=h2
    match args,ha with
    |[],_=>simp only[jm,zE,if_neg U]
   .obtain ⟨r,_,_,_,ha⟩:=h2
    match args,ha with
    |[a,b],_=>
     simp only[ij] at q;have c:=j.2.1;simp only[jm,dA,dB,dC,dD,bu,if_false,decide_eq_true_eq];rw[zE,zE,if_neg U,if_neg U];by_cases i:4<=k
     .rw [if_pos i,if_pos i,if_pos i,e a d ρ O c.1,<-Fc,show(d:Int)+1=((d+1:Nat):Int) by omega,e b (d+1) _ O c.2.1]
     .rw [if_neg i,if_neg i,if_neg i,e a d ρ O c.1,e b d ρ O c.2.1]
   .obtain ⟨r,_,_,_,ha⟩:=h2
    match args,ha with
    |[a,v,b],_=>
     simp only[ij] at q;have c:=j.2.1;simp only[jm,dA,dB,dC,dD,bu,if_false,decide_eq_true_eq];rw[zE,zE,if_neg U,if_neg U,if_pos O,if_pos O,if_pos O,e a d ρ O c.1,e v d ρ O c.2.1,<-Fc,show(d:Int)+1=((d+1:Nat):Int) by omega,e b (d+1) _ O c.2.2.1]
theorem WU(q:Alg)(v:ie)(H:oD G v):∀(n:Nat) (t:ie) (d:Nat) (ρ:Nat->Nat),t.size<=n->oD B t->zE q (ju (j6 v) t d) ρ=zE q t (λi=>if i<d then ρ i else if i=d then zE q v (λj=>ρ (j+d)) else ρ (i-1)):=by
 intro n
 induction n with
 |zero=>intro t d ρ h;obtain⟨k,m,s,ls,args,rfl⟩:=ie.case t;simp[ie.size] at h
 |succ n r=>
  intro t d ρ C z;obtain⟨k,w,s,ls,args,rfl⟩:=ie.case t
  have U:∀x,(λi=>if i<d+1 then qC x ρ i else if i=d+1 then zE q v (λj=>qC x ρ (j+(d+1))) else qC x ρ (i-1))=qC x (λi=>if i<d then ρ i else if i=d then zE q v (λj=>ρ (j+d)) else ρ (i-1)):=by
   intro x;funext i;cases i with
   |zero=>simp[qC]
   |succ i=>
    simp only[qC,Nat.add_lt_add_iff_right,dV];split
    .rfl
    .split
     .rfl
     .cases i with
      |zero=>omega
      |succ i=>simp[qC]
  by_cases c:k=0
  .subst c;obtain⟨J,_,rfl,rfl,rfl⟩:=wm z rfl;rw[jL,j6];split
   .simp only[zE,if_true];rw[if_pos O]
   .split
    .have hz:zE q (ju (mr (d:Int) 0) v 0) ρ=_:=WT q d v.size v 0 ρ (ae _) H;simp only[zE,if_true];rw[if_neg O,if_pos O,mZ,hz]
     congr 1
    .simp only[zE,if_true];rw[if_neg O,if_neg O];congr 1;omega
  .rw [ju,if_neg c];have h2:=z.2.2;simp only[ie.size] at C;rcases h2 with h2|h2|h2|h2|h2
   .omega
   .obtain ⟨_,_,_,_,ha⟩:=h2
    match args,ha with
    |[],_=>simp only[jm,zE,if_neg c]
   .obtain ⟨_,_,_,ha⟩:=h2
    match args,ha with
    |[],_=>simp only[jm,zE,if_neg c]
   .obtain ⟨F,_,_,_,ha⟩:=h2
    match args,ha with
    |[a,b],_=>
     simp only[ij] at C;have e:=z.2.1;simp only[jm,dA,dB,dC,dD,bu,if_false,decide_eq_true_eq];rw[zE,zE,if_neg c,if_neg c];by_cases y:4<=k
     .rw [if_pos y,if_pos y,if_pos y,r a d ρ O e.1,<-U,show(d:Int)+1=((d+1:Nat):Int) by omega,r b (d+1) _ O e.2.1]
     .rw [if_neg y,if_neg y,if_neg y,r a d ρ O e.1,r b d ρ O e.2.1]
   .obtain ⟨F,_,_,_,ha⟩:=h2
    match args,ha with
    |[a,I,b],_=>
     simp only[ij] at C;have e:=z.2.1;simp only[jm,dA,dB,dC,dD,bu,if_false,decide_eq_true_eq];rw[zE,zE,if_neg c,if_neg c,if_pos O,if_pos O,if_pos O,r a d ρ O e.1,r I d ρ O e.2.1,<-U,show(d:Int)+1=((d+1:Nat):Int) by omega,r b (d+1) _ O e.2.2.1]
theorem TQ(c)(h:oD e v)(j:oD B q)(ρ:Nat->Nat):zE c (jJ q v) ρ=zE c q (qC (zE c v ρ) ρ):=by
 have:=WU c v h q.size q 0 ρ (ae _) j;unfold jJ;have k:zE c (ju (j6 v) q 0) ρ=_:=this;rw[k]
 congr 1
 funext i;cases i with
 |zero=>simp[qC]
 |succ i=>simp[qC]
end Go.Proofs.YtndbnldjidciiaaGreatDoor
namespace Go.Vd
variable{a c p s t v}
def mJ.k:mJ->Int| .mk k _ _ _ _ _ _=>k
def mJ.nm:mJ->fB| .mk _ s _ _ _ _ _=>s
def mJ.ps:mJ->List fB| .mk _ _ p _ _ _ _=>p
def mJ.ty:mJ->ie| .mk _ _ _ t _ _ _=>t
def mJ.vl:mJ->ie| .mk _ _ _ _ v _ _=>v
def mJ.ar:mJ->Int| .mk _ _ _ _ _ a _=>a
def mJ.cs:mJ->List (fB×ie)| .mk _ _ _ _ _ _ c=>c
end Go.Vd
namespace Go.Proofs.YtndbnldjidciiaaGreatDoor
variable{α ι B C F G H I J M R S V W Y a args c e es fr gl h i j k2 l l3 m m3 n n0 q r rp rt s s3 sl t x y z}
open Go Go.Vd Go.RowKit
structure iI where
 d:mJ
 rp:List fB
 rt:ie
def iI.cells(e:iI):List D:=e.d.cells++(.sl 1 (strs e.rp)::e.rt.cells)
def iI.dd(e:iI):D:=.agg e.cells
def yo(l:List iI):List (List D):=l.map iI.cells
theorem BZ(l):(yo l).length=l.length:=by simp[yo]
theorem MM(l m):yo (l++m)=yo l++yo m:=by simp[yo]
theorem iI.case(x:iI):∃k s ps k1 n1 s1 l1 a1 k2 n2 s2 l2 a2 a cs rp b n3 U l3 c,x=⟨.mk k s ps (.mk k1 n1 s1 l1 a1) (.mk k2 n2 s2 l2 a2) a cs,rp,.mk b n3 U l3 c⟩:=by
 obtain⟨⟨k,s,ps,⟨k1,n1,s1,l1,a1⟩,⟨k2,n2,s2,l2,a2⟩,a,cs⟩,rp,⟨b,n3,U,l3,c⟩⟩:=x;exact⟨_,_,_,_,_,_,_,_,_,_,_,_,_,_,_,_,_,_,_,_,_,rfl⟩
theorem Rn{l:List iI}{i:Nat}(h:i<l.length):∃k s ps k1 n1 s1 l1 a1 k2 n2 s2 l2 a2 a cs rp b n3 U c j,l[i]? =some ⟨.mk k s ps (.mk k1 n1 s1 l1 a1) (.mk k2 n2 s2 l2 a2) a cs,rp,.mk b n3 U c j⟩:=by
 have:l[i]? =some l[i]:=by simp[h]
 rw[this];obtain⟨k,s,ps,k1,n1,s1,l1,a1,k2,n2,s2,l2,a2,a,cs,rp,b,n3,U,c,j,e⟩:=iI.case l[i]
 rw[e];exact⟨_,_,_,_,_,_,_,_,_,_,_,_,_,_,_,_,_,_,_,_,_,rfl⟩
theorem AS
 (h:l[i]? =some ⟨.mk W s c (.mk e j q r x) (.mk y z C F G) a H,I,.mk J M R S V⟩):(yo l)[((i:Nat):Int).toNat]? =some [fD W,fG s,.sl 1 (strs c),fD e,fD j,fG q,.sl 3 (iR r),.sl 5 (im x),fD y,fD z,fG C,.sl 3 (iR F),.sl 5 (im G),fD a,.sl 6 (qW H),.sl 1 (strs I),fD J,fD M,fG R,.sl 3 (iR S),.sl 5 (im V)]:=by
 simp[yo,h,iI.cells,mJ.M0,ie.cells]
def YH:mJ:=.mk 0 .empty [] iu iu 0 []
def Jm:iI:=⟨YH,[],iu⟩
def CK:fB:=⟨#[46,114,101,99]⟩
def nB(e:fB):List (fB×ie)->Option Nat
 |[]=>none
 |c::r=>if c.1=e then some 0 else(nB e r).map (· +1)
def iw(nm:fB):List iI->Int×iI×Nat
 |[]=>(0,Jm,0)
 |e::r=>if e.d.nm=nm then(e.d.k,e,0) else
  match nB nm e.d.cs with
  |some i=>(4,e,i)
  |none=>if e.d.k=3/\e.d.nm++CK=nm then(5,e,0) else iw nm r
theorem drop_cons{l:List α}{i:Nat}(h:l[i]? =some x):l.drop i=x::l.drop (i+1):=by
 obtain⟨b,rfl⟩:=aJ.1 h;exact dL b
theorem AU{q:fB}:∀{l:List (fB×ie)} {i:Nat} {c:fB×ie},(∀ j x,j<i->l[j]? =some x->¬x.1=q)->l[i]? =some c->c.1=q->nB q l=some i
 |[],i,c,_,h,_=>by simp at h
 |a::r,0,c,_,h,e=>by simp at h;subst h;simp[nB,e]
 |a::r,i+1,c,b,h,e=>by
  have k:=b 0 a O rfl;rw[nB,if_neg k,AU (i:=i) (λj x s U=>b (j+1) x O (by simpa using U)) (by simpa using h) e];rfl
theorem D2{c:fB}:∀{l:List (fB×ie)},(∀ (j:Nat) x,l[j]? =some x->¬x.1=c)->nB c l=none
 |[],_=>rfl
 |a::r,b=>by
  rw[nB,if_neg (b 0 a rfl),D2 λj x k=>b (j+1) x (by simpa using k)];rfl
theorem vv{q:fB}:∀{l:List (fB×ie)} {i:Nat},nB q l=some i->∃c,l[i]? =some c/\c.1=q
 |[],i,h=>by cases h
 |a::r,i,h=>by
  rw[nB] at h;split at h
  .rename_i e;cases h;exact⟨a,rfl,e⟩
  .obtain ⟨j,b,rfl⟩:=bO.1 h;obtain⟨c,k,U⟩:=vv b;exact⟨c,by simpa using k,U⟩
def oM(nm:fB)(e:List iI):Option (List fB×ie):=
 let f:=iw nm e
 if f.1=0 then none else if f.1=4 then(f.2.1.d.cs[f.2.2]?).map λc=>(f.2.1.d.ps,c.2) else if f.1=5 then some (f.2.1.rp,f.2.1.rt) else some (f.2.1.d.ps,f.2.1.d.ty)
def jY(c:List iI):Sg:=λnm=>(oM nm c).map λt=>t.1.length
theorem zN{nm:fB}:∀{es:List iI},(iw nm es).1≠0->(iw nm es).2.1∈es
 |[],h=>absurd rfl h
 |e::r,h=>by
  rw[iw] at h ⊢;split
  .exact bC
  .rename_i b;rw[if_neg b] at h;split
   .exact bC
   .rename_i k;rw[k] at h;simp only at h;split
    .exact bC
    .rename_i U;rw[if_neg U] at h;exact bB _ (zN h)
theorem vt{nm:fB}:∀{es:List iI},(∀ e∈es,e.d.k≠4)->(iw nm es).1=4->∃c,(iw nm es).2.1.d.cs[(iw nm es).2.2]? =some c/\c.1=nm
 |[],_,h=>by cases h
 |e::r,j,h=>by
  rw[iw] at h ⊢;split
  .rename_i b;rw[if_pos b] at h;exact absurd h (j e bC)
  .rename_i b;rw[if_neg b] at h;split
   .rename_i i k;exact vv k
   .rename_i k;rw[k] at h;simp only at h;split
    .rename_i U;rw[if_pos U] at h;cases h
    .rename_i U;rw[if_neg U] at h;exact vt (λe q=>j e (bB _ q)) h
def iv:ie->Nat
 | .mk k _ _ _ [_,b]=>if k=5 then iv b+1 else 0
 |_=>0
section
attribute [local irreducible] iK iL jI ik iW jH
theorem FO(h:(jm F c l e)[i]? =some t):im ((jm F c l e).take i)++[t.cells]=im ((jm F c l e).take (i+1)):=by
 rw[bo,h,ll];rfl
theorem we(r m s h c i)(j:c.length<=1099511627776):jA fC e 99 [(ie.mk r m s h c).d,fD i] (· =fF (decide (4<=r)&&decide (i=(im c).length-1))):=by
 have b:=ir c;refine oN Tryz.func99 16 ?_;refine' DM 12 14 8 6 ?a1 ?_
 case a1=>
  intro q U;refine sH 4 ?_;refine rF 1 ?_;exact U [_,_,_,_,_,_] rfl rfl
 refine od 4 ?_;rfl
theorem uM(i m s e c h):jA fC gl 67 [(ie.mk i m s e c).d,.sl 5 (im h)] (· =(ie.mk i m s e h).d):=by
 refine oN Tryz.func67 15 ?_;refine od 22 ?_;rfl
theorem rE(hB:B<=1125899906842624)(h0:0<=n0/\n0<=1099511627776):∀(n:Nat) (k m:Int) (s:fB) (ls:List iq) (args:List ie) (fr:Int),(ie.mk k m s ls args).size<=n->oD B (.mk k m s ls args)->0<=fr->fr+(ie.mk k m s ls args).size<=1099511627776->
 jA fC gl 55 [(ie.mk k m s ls args).d,fD n0,fD fr] (· =(ju (mr n0 0) (.mk k m s ls args) fr).d):=by
 intro n
 induction n with
 |zero=>intro k m s ls args d h;simp[ie.size] at h
 |succ n J=>
  intro k m s ls args fr r G M x;have c:=r;simp only[ie.size] at c x;have R:=ir args;have S:=iJ args;have V:=pN (mr n0 0) (decide (4<=k)) fr args;refine oN Tryz.func55 50 ?_;refine jq 14 ?_ ?_<;>intro H
  .obtain rfl:=H;have y:=wm G rfl;obtain⟨W,Y,rfl,rfl,rfl⟩:=y;refine j7 9 ?_ ?_<;>intro h2
   .refine v8 10 ((ie.mk 0 m .empty [] []).d) ?_;rw[jL,mr,if_neg O]
   refine jS 5 ?_;refine v8 7 ((ie.mk 0 (m+n0) .empty [] []).d) ?_;rw[jL,mr,if_pos O]
  refine rF 14 ?_;refine iP 39 5 rfl<|pt 0 (ι:=Nat) (λi=>[(8,int i),(7,.own 2 5 (im ((jm (mr n0 0) (decide (4<=k)) args fr).take i)))]) (λi=>[.cells [fE k,fE m,fI s,.d (.sl 3 (iR ls)),.d (.sl 5 (im args))] 39,.cells [fE 0,fE 0,fI .empty,fK,fK] 39,.row 39 5]) [6,3,1,2] (λi=>i<=args.length) (λi=>args.length-i) (0) ([0,1,2]) (ak _) ?_ (hM:=by exact oL (iU (yu rfl (by(rw[cj];exact Fit.nil rfl)) (iU (iU (iU (iU rA)))))));rintro i e
  try dsimp only at e
  refine j7 10 ?_ ?_<;>intro h7
  .obtain rfl:i=args.length:=O;refine rF 6 ?_;rw[aS O];have z:=uM (gl:=gl) k m s ls args (jm (mr n0 0) (decide (4<=k)) args fr);refine ny 3 z ?_;refine v8 4 ((ie.mk k m s ls (jm (mr n0 0) (decide (4<=k)) args fr)).d) ?_;rw[ju,if_neg H]
  obtain⟨k2,I,s2,l2,a2,b⟩:=iZ (show i<args.length by omega);have hg1:=iO b;have j:=w0 (mr n0 0) (decide (4<=k)) fr b;have C:=yC G.2.1 b;obtain⟨k3,m3,s3,l3,a3,hY⟩:=ie.case (ju (mr n0 0) (.mk k2 I s2 l2 a2) (if decide (4<=k)=true/\i+1=args.length then fr+1 else fr));refine ny 15 (we k m s ls args i O) ?_;refine rF 2 ?_;refine xc (ι:=Unit) (λ_=>[(9,int (if decide (4<=k)=true/\i+1=args.length then fr+1 else fr))]) [8,7,6,3,1,2] (λ_=>True) rfl ?_ ?_
  .refine j7 0 ?_ ?_<;>intro h10
   .refine qX 1 (()) (by trivial) (hM:=by exact oL (j8 rfl (by exact Fit.of_eq gO)))
   refine jS 2 ?_;refine qX 2 (()) (by trivial) (hM:=by exact oL (j8 rfl (by exact Fit.of_eq gO)))
  .rintro _ q
   try dsimp only at q
   refine kp [9,8,7,6,3,1,2] ?_;have U:=J k2 I s2 l2 a2 (if decide (4<=k)=true/\i+1=args.length then fr+1 else fr) O C (by split<;>omega) (by split<;>omega);rw[hY] at U j;have F:im ((jm (mr n0 0) (decide (4<=k)) args fr).take i)++[[fD k3,fD m3,fG s3,.sl 3 (iR l3),.sl 5 (im a3)]]=im ((jm (mr n0 0) (decide (4<=k)) args fr).take (i+1)):=FO j;have htl:=ir ((jm (mr n0 0) (decide (4<=k)) args fr).take i);have htk:=bj (i:=i) (l:=jm (mr n0 0) (decide (4<=k)) args fr);refine ni 5 iQ iY ?_ (hat:=(jr b));refine ny 3 U ?_;refine oR 0 mN [.tmp 44] jz ?_;refine oc (ya mN ?_);refine jS 6 ?_;refine rF 2 ?_;rw[F];refine ml 0 (i+1) [0,1,2] ?_;exact⟨O,O⟩
theorem Hh(hB:B<=1125899906842624)(c e j q r)(y:oD B (.mk c e j q r))(hsv:(ie.mk c e j q r).size<=1099511627776):∀(n:Nat) (k m:Int) (s:fB) (ls:List iq) (args:List ie) (fr:Int),(ie.mk k m s ls args).size<=n->oD B (.mk k m s ls args)->0<=fr->fr+(ie.mk k m s ls args).size<=1099511627776->
 jA fC gl 121 [(ie.mk k m s ls args).d,(ie.mk c e j q r).d,fD fr] (· =(ju (j6 (.mk c e j q r)) (.mk k m s ls args) fr).d):=by
 intro n
 induction n with
 |zero=>intro k m s ls args d h;simp[ie.size] at h
 |succ n ih=>
  intro k m s ls args fr H W I J;have z:=H;simp only[ie.size] at z J;have hal:=ir args;have hsa:=iJ args;have hml:=pN (j6 (.mk c e j q r)) (decide (4<=k)) fr args;refine oN Tryz.func121 56 ?_;refine jq 15 ?_ ?_<;>intro Y
  .obtain rfl:=Y;have M:=wm W rfl;obtain⟨hm0,hm1,rfl,rfl,rfl⟩:=M;have x:=rE (gl:=gl) (n0:=fr) hB ⟨I,O⟩ _ c e j q r 0 (ae _) y (aP _) O;rw[<- mZ] at x;obtain⟨k1,m1,s1,l1,a1,hX⟩:=ie.case (lJ (.mk c e j q r) fr 0)
   rw[hX] at x;refine jq 9 ?_ ?_<;>intro h2
   .refine ny 4 x ?_;refine v8 6 ((ie.mk k1 m1 s1 l1 a1).d) ?_;rw[jL,j6,if_neg O,if_pos O,hX]
   refine j7 11 ?_ ?_<;>intro h4
   .refine v8 10 ((ie.mk 0 m .empty [] []).d) ?_;rw[jL,j6,if_pos O]
   refine sH 4 ?_;refine v8 7 ((ie.mk 0 (m-1) .empty [] []).d) ?_;rw[jL,j6,if_neg O,if_neg O]
  refine rF 14 ?_;refine iP 39 5 rfl<|pt 0 (ι:=Nat) (λi=>[(8,int i),(7,.own 3 5 (im ((jm (j6 (.mk c e j q r)) (decide (4<=k)) args fr).take i)))]) (λi=>[.cells [fE k,fE m,fI s,.d (.sl 3 (iR ls)),.d (.sl 5 (im args))] 39,.cells [fE c,fE e,fI j,.d (.sl 3 (iR q)),.d (.sl 5 (im r))] 39,.cells [fE 0,fE 0,fI .empty,fK,fK] 39,.row 39 5]) [6,4,3,2] (λi=>i<=args.length) (λi=>args.length-i) (0) ([0,1,2,3]) (ak _) ?_ (hM:=by exact oL (iU (yu rfl (by(rw[cj];exact Fit.nil rfl)) (iU (iU (iU (iU rA)))))));rintro i C
  try dsimp only at C
  refine j7 10 ?_ ?_<;>intro h9
  .obtain rfl:i=args.length:=O;refine rF 6 ?_;rw[aS O];have R:=uM (gl:=gl) k m s ls args (jm (j6 (.mk c e j q r)) (decide (4<=k)) args fr);refine ny 3 R ?_;refine v8 4 ((ie.mk k m s ls (jm (j6 (.mk c e j q r)) (decide (4<=k)) args fr)).d) ?_;rw[ju,if_neg Y]
  obtain⟨k2,m2,s2,l2,a2,b⟩:=iZ (show i<args.length by omega);have hg1:=iO b;have F:=w0 (j6 (.mk c e j q r)) (decide (4<=k)) fr b;have S:=yC W.2.1 b;obtain⟨k3,m3,s3,l3,a3,hY⟩:=ie.case (ju (j6 (.mk c e j q r)) (.mk k2 m2 s2 l2 a2) (if decide (4<=k)=true/\i+1=args.length then fr+1 else fr));refine ny 15 (we k m s ls args i O) ?_;refine rF 2 ?_;refine xc (ι:=Unit) (λ_=>[(9,int (if decide (4<=k)=true/\i+1=args.length then fr+1 else fr))]) [8,7,6,4,3,2] (λ_=>True) rfl ?_ ?_
  .refine j7 0 ?_ ?_<;>intro h12
   .refine qX 1 (()) (by trivial) (hM:=by exact oL (j8 rfl (by exact Fit.of_eq gO)))
   refine jS 2 ?_;refine qX 2 (()) (by trivial) (hM:=by exact oL (j8 rfl (by exact Fit.of_eq gO)))
  .rintro _ G
   try dsimp only at G
   refine kp [9,8,7,6,4,3,2] ?_;have U:=ih k2 m2 s2 l2 a2 (if decide (4<=k)=true/\i+1=args.length then fr+1 else fr) O S (by split<;>omega) (by split<;>omega);rw[hY] at U F;have V:im ((jm (j6 (.mk c e j q r)) (decide (4<=k)) args fr).take i)++[[fD k3,fD m3,fG s3,.sl 3 (iR l3),.sl 5 (im a3)]]=im ((jm (j6 (.mk c e j q r)) (decide (4<=k)) args fr).take (i+1)):=FO F;have htl:=ir ((jm (j6 (.mk c e j q r)) (decide (4<=k)) args fr).take i);have htk:=bj (i:=i) (l:=jm (j6 (.mk c e j q r)) (decide (4<=k)) args fr);refine ma 0 [0,1,2,3] mixed ?_;refine pQ 4 iQ iY ?_ (hat:=(jr b));refine ga [5,6,7] ?_;refine qB 8 U ?_;refine A2 9 rfl (CW mN [.tmp 50] jz ?_);refine A2 10 rfl (ya mN ?_);refine ga [11] ?_;refine iB<|jS 4 ?_;refine rF 2 ?_;rw[V];refine ml 0 (i+1) [0,1,2,3] ?_;exact⟨O,O⟩
theorem yX(z:B<=1125899906842624)(e h i j q)(x:oD B (.mk e h i j q))(y:(ie.mk e h i j q).size<=1099511627776)(H m s r c)(C:oD B (.mk H m s r c))(F:(ie.mk H m s r c).size<=1099511627776):
 jA fC gl 82 [(ie.mk H m s r c).d,(ie.mk e h i j q).d] (· =(jJ (.mk H m s r c) (.mk e h i j q)).d):=by
 have b:=Hh (gl:=gl) z e h i j q x y _ H m s r c 0 (ae _) C (aP _) O;rw[jJ];obtain⟨k1,G,s1,l1,a1,U⟩:=ie.case (ju (j6 (.mk e h i j q)) (.mk H m s r c) 0)
 rw[U] at b ⊢;refine oN Tryz.func82 8 ?_;refine ny 11 b ?_;refine od 4 ?_;rfl
theorem zJ(n):jA fC c 83 [fD n] (· =(ie.mk 0 n .empty [] []).d):=by
 refine oN Tryz.func83 5 ?_;refine v8 13 ((ie.mk 0 n .empty [] []).d) ?_;rfl
theorem tJ(h s c):jA fC e 57 [(iq.mk h s c).d] (· =(ie.mk 1 0 .empty [.mk h s c] []).d):=by
 refine oN Tryz.func57 6 ?_;refine oR 9 tr [.tmp 3] pC ?_;refine v8 5 ((ie.mk 1 0 .empty [.mk h s c] []).d) ?_;rfl
theorem BN(y m s i e j q r h c):jA fC x 62 [(ie.mk y m s i e).d,(ie.mk j q r h c).d] (· =(ie.mk 5 0 .empty [] [.mk y m s i e,.mk j q r h c]).d):=by
 refine oN Tryz.func62 9 ?_;refine oR 11 mN [.tmp 5,.tmp 6] jz ?_;refine v8 5 ((ie.mk 5 0 .empty [] [.mk y m s i e,.mk j q r h c]).d) ?_;rfl
theorem SI(x m s i e j q r h c):jA fC gl 151 [(ie.mk x m s i e).d,(ie.mk j q r h c).d] (· =(ie.mk 4 0 .empty [] [.mk x m s i e,.mk j q r h c]).d):=by
 refine oN Tryz.func151 9 ?_;refine oR 11 mN [.tmp 5,.tmp 6] jz ?_;refine v8 5 ((ie.mk 4 0 .empty [] [.mk x m s i e,.mk j q r h c]).d) ?_;rfl
theorem lS(x m s i e j q r h c):jA fC gl 66 [(ie.mk x m s i e).d,(ie.mk j q r h c).d] (· =(ie.mk 3 0 .empty [] [.mk x m s i e,.mk j q r h c]).d):=by
 refine oN Tryz.func66 9 ?_;refine oR 11 mN [.tmp 5,.tmp 6] jz ?_;refine v8 5 ((ie.mk 3 0 .empty [] [.mk x m s i e,.mk j q r h c]).d) ?_;rfl
theorem HG(l i):(strs l).take ((i:Nat):Int).toNat=strs (l.take i):=by simp[strs,cu]
theorem FK{l:List fB}{i:Nat}(j:i<l.length)(h:(l.take i).Nodup)(c:Ei l[i] (l.take i)=false):(l.take (i+1)).Nodup:=by
 rw[bo,aZ j,dt];refine⟨h,by simp,λx k y b e=>?_⟩;simp at b;subst b e;rw[sn.2 k] at c;cases c
theorem EZ(l)(q:l.length<=1099511627776):jA fC gl 161 [nU l] λd=> ∃b:Bool,d=fF b/\(b=false->l.length<=6/\l.Nodup):=by
 have c:=jU l;refine oN Tryz.func161 23 ?_;refine vq 12 (ι:=Nat) (λi=>[(3,int i)]) [0] (λi=>i<=l.length/\(l.take i).Nodup) (λi=>l.length-i) (0) ⟨ak _,by simp⟩ ?_;rintro i k
 try dsimp only at k
 refine j7 9 ?_ ?_<;>intro r
 .refine od 14 ?_;have e:=k.2;rw[aS O] at e;exact⟨_,rfl,λh=>⟨by simp only[decide_eq_false_iff_not] at h;omega,e⟩⟩
 have U:=HG l i;refine ma 5 [0,1] mixed ?_;refine pQ 2 yv Cs ?_ (hat:=by exact(u7 O));refine ga [3,4,5] ?_;refine A1 6 rfl (pa yv Cs rfl rfl rfl rfl rfl rfl O (U) ⟨_,rfl,?_⟩);refine qB 7 (tP (l[i]'O) (l.take i) (by rw[bj];omega)) ?_;refine ga [8] ?_;refine iB<|jq 6 ?_ ?_<;>intro j
 .refine od 11 ?_;exact⟨true,rfl,λh=>by cases h⟩
 refine jS 5 ?_;refine qX 2 (i+1) ?_;exact⟨⟨O,FK O k.2 j⟩,O⟩
end
end Go.Proofs.YtndbnldjidciiaaGreatDoor
namespace Go.Vd
variable{a c e h i l p s x y}
open Go Go.RowKit
theorem jC.qc:∀(l:jC) {k:List fB},k.Nodup->(l.params k).Nodup
 | .zero,_,h=>h
 | .succ a,_,h=>a.qc h
 | .max a b,_,h=>b.qc (a.qc h)
 | .imax a b,_,h=>b.qc (a.qc h)
 | .param s,k,h=>by
  simp only[jC.params];split
  .exact h
  .rename_i c;rw[dt];refine⟨h,by simp,λx i y U e=>?_⟩;simp at U;subst U e;exact c (sn.2 i)
theorem jC.tz:∀(l:jC) {k:List fB} {p:fB},p∈l.params k->p∈k\/l.has p
 | .zero,_,_,h=>.inl h
 | .succ a,_,_,h=>a.tz h
 | .max a b,_,_,h=>(b.tz h).elim (λh=>(a.tz h).imp (λh=>h) .inl) (λh=>.inr (.inr h))
 | .imax a b,_,_,h=>(b.tz h).elim (λh=>(a.tz h).imp (λh=>h) .inl) (λh=>.inr (.inr h))
 | .param s,k,p,h=>by
  simp only[jC.params] at h;split at h
  .exact .inl h
  .rcases bn.1 h with h|h
   .exact .inl h
   .simp at h;exact .inr h
theorem qd:∀(l:jC),Da l.iT->U1 l
 | .zero,_,p,h=>h.elim
 | .succ a,k,p,h=>qd a k.2.2.2.1 p h
 | .max a b,k,p,h=>(show a.has p\/b.has p from h).elim (λh=>qd a k.2.2.2.1 p h) (λh=>qd b k.2.2.2.2.1 p h)
 | .imax a b,k,p,h=>(show a.has p\/b.has p from h).elim (λh=>qd a k.2.2.2.1 p h) (λh=>qd b k.2.2.2.2.1 p h)
 | .param s,k,p,h=>by
  have e:p=s:=h;rw[e];exact k.2.2.1 rfl
end Go.Vd
namespace Go.Proofs.YtndbnldjidciiaaGreatDoor
variable{ι B B' C F G H I J M R S T V W Y a args c e es first given gl h h' hi i j k2 l l3 m m3 most n ob' p q r rp rt s s3 sl t u us v w x y z}
open Go Go.Vd Go.RowKit
section
attribute [local irreducible] iK iL jI ik iW jH
theorem Oc(h:oD B (.mk q n s e c))(i:q=3\/q=4\/q=5):∃k1 n1 s1 l1 a1 k2 n2 s2 l2 a2,c=[.mk k1 n1 s1 l1 a1,.mk k2 n2 s2 l2 a2]/\oD B (.mk k1 n1 s1 l1 a1)/\oD B (.mk k2 n2 s2 l2 a2):=by
 rcases h.2.2 with h2|h2|h2|h2|h2
 .omega
 .omega
 .omega
 .obtain ⟨_,b,U,j,ha⟩:=h2
  match c,ha with
  |[⟨k1,n1,s1,l1,a1⟩,⟨k2,n2,s2,l2,a2⟩],_=>exact⟨_,_,_,_,_,_,_,_,_,_,rfl,h.2.1.1,h.2.1.2.1⟩
 .omega
theorem nE:∀(n:Nat) (t:ie),t.size<=n->iv t<t.size+1:=by
 intro n
 induction n with
 |zero=>intro t h;obtain⟨k,m,s,ls,args,rfl⟩:=ie.case t;simp[ie.size] at h
 |succ n U=>
  intro t h
  match t with
  | .mk k m s ls [a,b]=>
   rw[iv];simp only[ie.size,ij] at h ⊢;have:=U b O;split<;>omega
  | .mk k m s ls []=>simp[iv]
  | .mk k m s ls [a]=>simp[iv]
  | .mk k m s ls (a::b::c::r)=>simp[iv]
theorem se(Y m s C e)(I:oD B (.mk Y m s C e))(V:(ie.mk Y m s C e).size<=1099511627776):jA fC gl 122 [(ie.mk Y m s C e).d] (· =fD (iv (.mk Y m s C e))):=by
 have J:=nE _ (.mk Y m s C e) (ae _);generalize H:iv (.mk Y m s C e)=r at J ⊢;have M:=H;refine oN Tryz.func122 14 ?_;refine pt 13 (ι:=Nat×Int×Int×fB×List iq×List ie) (λ⟨i,q,x,y,h,U⟩=>[(3,int i)]) (λ⟨i,q,x,y,h,U⟩=>[.cells [fE q,fE x,fI y,.d (.sl 3 (iR h)),.d (.sl 5 (im U))] 39]) [1] (λ⟨i,q,x,y,h,U⟩=>r=i+iv (.mk q x y h U)/\oD B (.mk q x y h U)) (λ⟨i,q,x,y,h,U⟩=>(ie.mk q x y h U).size) ((0,Y,m,s,C,e)) ([0]) ⟨by rw[bU];exact H.symm,I⟩ ?_;rintro⟨i,q,x,y,h,U⟩ j
 try dsimp only at j
 refine j7 8 ?_ ?_<;>intro F
 .refine od 12 ?_;have z:=j.1;have:iv (.mk q x y h U)=0:=(by match U with|[a,b]=>(rw[iv,if_neg F])|[]=>rfl|[a]=>rfl|a::b::c::r=>rfl);rw[this] at z;rw[z];rfl
 obtain⟨k1,W,s1,l1,a1,k2,R,s2,l2,a2,rfl,S,G⟩:=Oc j.2 (.inr (.inr F));have z:=j.1;rw[iv,if_pos F] at z;refine jS 6 ?_;refine ni 6 iQ iY ?_ (hat:=rfl);refine ml 4 (i+1,k2,R,s2,l2,a2) [0] ?_;exact⟨⟨by rw[j.1,iv,if_pos F];omega,G⟩,by simp only[ie.size,ij];omega⟩
def jQ:Nat->ie->ie
 |0,t=>t
 |n+1,.mk k m s ls [a,b]=>jQ n b
 |n+1,t=>t
theorem B4(n k m s C e)(M:oD B (.mk k m s C e))(R:n<=iv (.mk k m s C e))(hz:(ie.mk k m s C e).size<=1099511627776):jA fC gl 162 [(ie.mk k m s C e).d,fD n] (· =(jQ n (.mk k m s C e)).d):=by
 have hp:=nE _ (.mk k m s C e) (ae _);obtain⟨kR,S,sR,V,W,J⟩:=ie.case (jQ n (.mk k m s C e))
 rw[J];refine oN Tryz.func162 16 ?_;refine pt 13 (ι:=Nat×Int×Int×fB×List iq×List ie) (λ⟨i,x,y,z,j,U⟩=>[(5,int i)]) (λ⟨i,x,y,z,j,U⟩=>[.cells [fE x,fE y,fI z,.d (.sl 3 (iR j)),.d (.sl 5 (im U))] 39,.cells [fE 0,fE 0,fI .empty,fK,fK] 39]) [4,2,1] (λ⟨i,x,y,z,j,U⟩=>i<=n/\n-i<=iv (.mk x y z j U)/\jQ (n-i) (.mk x y z j U)=.mk kR S sR V W/\oD B (.mk x y z j U)) (λ⟨i,x,y,z,j,U⟩=>n-i) ((0,k,m,s,C,e)) ([0,1]) ⟨ak _,R,J,M⟩ ?_;rintro⟨i,x,y,z,j,U⟩ q
 try dsimp only at q
 refine j7 8 ?_ ?_<;>intro h2
 .have G:=q.2.2.1;rw[show n-i=0 by omega] at G;simp only[jQ,ie.mk.injEq] at G;obtain⟨rfl,rfl,rfl,rfl,rfl⟩:=G;refine od 12 ?_;rfl
 have F:x=5:=dj λh=>by
  have:iv (.mk x y z j U)=0:=(by match U with|[a,b]=>(rw[iv,if_neg h])|[]=>rfl|[a]=>rfl|a::b::c::r=>rfl);omega
 obtain⟨k1,m1,s1,l1,a1,k2,Y,s2,l2,a2,rfl,hs1,H⟩:=Oc q.2.2.2 (.inr (.inr F));have hE:=q.2.2.1;have I:=q.2.1;rw[iv,if_pos F] at I;refine ni 7 iQ iY ?_ (hat:=rfl);refine jS 7 ?_;refine ml 2 (i+1,k2,Y,s2,l2,a2) [0,1] ?_;exact⟨⟨O,O,by rw[<- hE,show n-i=(n-(i+1))+1 by omega];rfl,H⟩,show n-(i+1)<n-i by omega⟩
theorem ua(c j m s h e)(i:c.length<=1099511627776):jA fC gl 61 [.sl 5 (im c),(ie.mk j m s h e).d] (· =.sl 5 (im (c++[.mk j m s h e]))):=by
 have b:=ir c;refine oN Tryz.func61 13 ?_;refine rF 15 ?_;refine oc (T:=λ_=>False) (qL mN rfl rfl rfl rfl rfl rfl (by simp only[aj,aH,Nat.reduceAdd];rfl) rfl rfl Z (by first|decide|(simp only[maxLen,aj,aH,aN,bc];omega)|omega) rfl rfl rfl ?_);refine oR 7 mN [.tmp 10] jz ?_;refine oc (ya mN ?_);refine od 4 ?_;rw[ll];rfl
theorem Ai(x:jC)(e:List fB)(G:x.size<=1099511627776)(hp:e.length<=1099511627776):jA fC gl 56 [x.iT.d,nU e] λd=> ∃b:Bool,d=fF b/\(b=true->∀p,x.has p->p∈e):=by
 have q:=x.nq;have j:=x.oZ [];have U:=x.iT.Fv [];obtain⟨k,s,args,r⟩:=iq.case x.iT
 rw[r] at q j U;rw[r];have y:=Ly (gl:=gl) _ k s args [] (ae _) (by simp;omega);rw[j] at y U;simp only[aH,bU] at U;have C:=jU (x.params []);refine oN Tryz.func56 24 ?_;refine rF 7 ?_;refine iP 9 1 rfl<|rF 2 ?_;refine oc (ck Nd rfl rfl (y) [1] rfl (D3 .nil) (oq (.cons (.nil rfl) .nil)) ?_);refine vq 10 (ι:=Nat) (λi=>[(6,int i)]) [5,1] (λi=>i<=(x.params []).length/\∀p∈(x.params []).take i,p∈e) (λi=>(x.params []).length-i) (0) ⟨ak _,by simp⟩ ?_;rintro i c
 try dsimp only at c
 refine j7 9 ?_ ?_<;>intro H
 .refine od 11 ?_;have z:=c.2;rw[aS O] at z;exact⟨true,rfl,λ_ p hp=>z p (x.nX hp)⟩
 refine rF 8 ?_;refine o1 (Q4 yv Cs ?_ (he:=by exact(u7 O)));refine ny 2 (tP ((x.params [])[i]'O) e O) ?_;refine jq 9 ?_ ?_<;>intro F
 .refine od 11 ?_;exact⟨false,rfl,λh=>by cases h⟩
 refine jS 5 ?_;refine qX 2 (i+1) ?_
 .refine ⟨⟨O,λp hp=>?_⟩,O⟩;rw[bo,aZ O] at hp;rcases bn.1 hp with hp|hp
  .exact c.2 p hp
  .simp at hp;subst hp;exact sn.1 F
def iD(c:List iI)(w:Bool):Ob:=.cells [.own 1 21 (yo c),.d (.v (.bool w))] 47
def tO(h m:Int)(s:fB)(e:List iq)(c:List ie):Ob:=.cells [.d (.v (.int .i64 h)),.d (.v (.int .i64 m)),.d (.v (.string s)),.d (.sl 3 (iR e)),.d (.sl 5 (im c))] 39
def zO:Ob:=.cells [.d (.v (.int .i64 0)),.d (.v (.int .i64 0)),.d (.v (.string .empty)),.d (.v (.slice none 0 0)),.d (.v (.slice none 0 0))] 39
def tR:Ob:=.row 39 5
def iC:Ob:=.row 63 21
def esB(c:List iI):Prop:=c.length<=1099511627776/\∀e∈c,e.d.cs.length<=1099511627776/\e.d.nm.size<=1099511627776
theorem S3{j:List iI}{i:Nat}(q:j[i]? =some e)(h:e.d.nm=c):iw c (j.drop i)=(e.d.k,e,0):=by
 rw[drop_cons q,iw,if_pos h]
theorem VQ{q:List iI}{i j:Nat}(r:q[i]? =some e)(h:¬e.d.nm=c)(s:nB c e.d.cs=some j):iw c (q.drop i)=(4,e,j):=by
 rw[drop_cons r,iw,if_neg h,s]
theorem Pv{j:List iI}{i:Nat}(q:j[i]? =some e)(h:¬e.d.nm=c)(r:nB c e.d.cs=none)(s:e.d.k=3/\e.d.nm++CK=c):iw c (j.drop i)=(5,e,0):=by
 rw[drop_cons q,iw,if_neg h,r];exact if_pos s
theorem Pw{j:List iI}{i:Nat}(q:j[i]? =some e)(h:¬e.d.nm=c)(r:nB c e.d.cs=none)(s:¬(e.d.k=3/\e.d.nm++CK=c)):iw c (j.drop i)=iw c (j.drop (i+1)):=by
 rw[drop_cons q,iw,if_neg h,r];exact if_neg s
theorem find_spec(c:List iI)(w:Bool)(nm:fB)(H:esB c):
 jT fC gl 47 [iD c w,iC] [.jk 0 0,fI nm] λout ob'=>out=.ret (.d (.jj [fD (iw nm c).1,(iw nm c).2.1.dd,fD (iw nm c).2.2]))/\ob'=[iD c w,iC]:=by
 have I:=BZ c;have hb:=H.1;rcases e:iw nm c with⟨kf,⟨⟨kd,sd,pd,⟨k1,n1,s1,l1,a1⟩,⟨k2,n2,s2,l2,a2⟩,ad,J⟩,M,⟨k3,n3,s3,l3,a3⟩⟩,jf⟩;refine nR Tryz.func47 81 2 ?_;refine pt 14 (ι:=Nat) (λi=>[(7,int i)]) (λi=>[iD c w,iC,.cells [fE 0,fI .empty,fK,fE 0,fE 0,fI .empty,fK,fK,fE 0,fE 0,fI .empty,fK,fK,fE 0,fK,fK,fE 0,fE 0,fI .empty,fK,fK] 63]) [5,0,1] (λi=>i<=c.length/\iw nm c=iw nm (c.drop i)) (λi=>c.length-i) (0) ([0,1,2]) ⟨ak _,rfl⟩ ?_;rintro i b
 try dsimp only at b
 refine j7 12 ?_ ?_<;>intro h2
 .rw [b.2,eh O] at e;simp only[iw,Jm,YH,iu,bW,iI.mk.injEq,mJ.mk.injEq,ie.mk.injEq,mJ.k] at e;obtain⟨rfl,⟨⟨rfl,rfl,rfl,⟨rfl,rfl,rfl,rfl,rfl⟩,⟨rfl,rfl,rfl,rfl,rfl⟩,rfl,rfl⟩,rfl,rfl,rfl,rfl,rfl,rfl⟩,rfl⟩:=e;refine jD 14 (.jj [fD 0,Jm.dd,fD 0]) [0,1] [iD c w,iC] ⟨rfl,rfl⟩
 obtain⟨ek,en,ep,R,S,V,W,Y,ek2,en2,es2,el2,ea2,ea,s,erp,ek3,en3,es3,el3,ea3,k⟩:=Rn (show i<c.length by omega);have hcl:=sZ s;have hcb:s.length<=1099511627776/\en.size<=1099511627776:=H.2 _ (aO k);refine rF 11 ?_;refine o1 (Q4 KQ NV ?_ (he:=by exact(AS k)));refine jq 15 ?_ ?_<;>intro G
 .rw [b.2,S3 k G] at e;simp only[bW,iI.mk.injEq,mJ.mk.injEq,ie.mk.injEq,mJ.k] at e;obtain⟨rfl,⟨⟨rfl,rfl,rfl,⟨rfl,rfl,rfl,rfl,rfl⟩,⟨rfl,rfl,rfl,rfl,rfl⟩,rfl,rfl⟩,rfl,rfl,rfl,rfl,rfl,rfl⟩,rfl⟩:=e;refine ma 1 [0,1,2,3,4,5,6] mixed ?_;refine A1 7 rfl (Q4 KQ NV ⟨_,rfl,?_⟩ (he:=by exact(AS k)));refine ga [8,9] ?_;refine nO 10 ?_;refine ga [11] ?_;refine iB<|B5 8 [0,1] [iD c w,iC] ⟨rfl,rfl⟩
 have U:=b;refine vq 9 (ι:=Nat) (λj=>[(9,int j)]) [8,7,5,0,1] (λj=>j<=s.length/\∀q x,q<j->s[q]? =some x->¬x.1=nm) (λj=>s.length-j) (0) ⟨ak _,λq x h=>absurd h (cT _)⟩ ?_;rintro j b
 try dsimp only at b
 refine jq 10 ?_ ?_<;>intro h8
 .obtain ⟨cn,ck,cm,cs,cl,ca,y⟩:=zT (show j<s.length by omega);refine ni 9 G4 Jt ?_ (hat:=(x8 y));refine j7 6 ?_ ?_<;>intro C
  .refine jS 5 ?_;refine qX 2 (j+1) ?_
   .refine ⟨⟨O,λq x hq z=>?_⟩,O⟩;rcases bV q j with h|h
    .exact b.2 q x h z
    .obtain rfl:q=j:=O;rw[y] at z;cases z;exact C
  have r:nB nm s=some j:=AU b.2 y C;rw[U.2,VQ k G r] at e;simp only[bW,iI.mk.injEq,mJ.mk.injEq,ie.mk.injEq,mJ.k] at e;obtain⟨rfl,⟨⟨rfl,rfl,rfl,⟨rfl,rfl,rfl,rfl,rfl⟩,⟨rfl,rfl,rfl,rfl,rfl⟩,rfl,rfl⟩,rfl,rfl,rfl,rfl,rfl,rfl⟩,rfl⟩:=e;refine ma 1 [0,1,2,3,4] mixed ?_;refine A1 5 rfl (Q4 KQ NV ⟨_,rfl,?_⟩ (he:=by exact(AS k)));refine ga [6,7,8] ?_;refine nO 9 ?_;refine ga [10] ?_;refine iB<|B5 12 [0,1] [iD c w,iC] ⟨rfl,rfl⟩
 have r:nB nm s=none:=D2 λq x z=>b.2 q x (by have:=(aJ.1 z).1;omega) z
 refine rF 6 ?_;replace b:=U;refine' DM 5 71 66 5 ?a1 ?_
 case a1=>
  intro hc hK;refine rF 2 ?_;refine gy<|o1 (Dd ?_ (hb:=by(try simp only[db,zv,dh,aj,aH]);omega));refine rF 2 ?_;exact hK [_,_,_,_,_] rfl rfl
 refine j7 2 ?_ ?_<;>intro F
 .refine jS 5 ?_;refine ml 2 (i+1) [0,1,2] ?_;exact⟨⟨O,by rw[b.2];exact Pw k G r (by rintro⟨h,h'⟩;rcases F with h2|h2;exact h2 h;exact h2 h')⟩,O⟩
 rw[b.2,Pv k G r F] at e;simp only[bW,iI.mk.injEq,mJ.mk.injEq,ie.mk.injEq,mJ.k] at e;obtain⟨rfl,⟨⟨rfl,rfl,rfl,⟨rfl,rfl,rfl,rfl,rfl⟩,⟨rfl,rfl,rfl,rfl,rfl⟩,rfl,rfl⟩,rfl,rfl,rfl,rfl,rfl,rfl⟩,rfl⟩:=e;refine ma 1 [0,1,2,3,4] mixed ?_;refine A1 5 rfl (Q4 KQ NV ⟨_,rfl,?_⟩ (he:=by exact(AS k)));refine ga [6,7] ?_;refine nO 8 ?_;refine ga [9] ?_;refine iB<|B5 7 [0,1] [iD c w,iC] ⟨rfl,rfl⟩
theorem qK:∀{ls:List iq} {i:Nat} {l:iq},ls[i]? =some l->iG (ls.take (i+1))=iG (ls.take i)+l.size
 |[],i,l,h=>by simp at h
 |a::r,0,l,h=>by simp at h;subst h;simp[iG]
 |a::r,i+1,l,h=>by
  have:=qK (ls:=r) (i:=i) (l:=l) (by simpa using h);simp only[du,iG,this];omega
theorem qJ:∀(ls:List iq) (i:Nat),iG (ls.take i)<=iG ls
 |[],i=>by simp
 |a::r,0=>by simp[iG]
 |a::r,i+1=>by have:=qJ r i;simp only[du,iG];omega
theorem vQ:∀{ls:List ie} {i:Nat} {l:ie},ls[i]? =some l->ij (ls.take (i+1))=ij (ls.take i)+l.size
 |[],i,l,h=>by simp at h
 |a::r,0,l,h=>by simp at h;subst h;simp[ij]
 |a::r,i+1,l,h=>by
  have:=vQ (ls:=r) (i:=i) (l:=l) (by simpa using h);simp only[du,ij,this];omega
theorem vb:∀(ls:List ie) (i:Nat),ij (ls.take i)<=ij ls
 |[],i=>by simp
 |a::r,0=>by simp[ij]
 |a::r,i+1=>by have:=vb r i;simp only[du,ij];omega
theorem oA:∀{l:List iq} {i:Nat} {t:iq},l[i]? =some t->t.size<=iG l
 |[],i,t,h=>by simp at h
 |a::r,0,t,h=>by simp at h;subst h;simp[iG]
 |a::r,i+1,t,h=>by
  have:=oA (l:=r) (i:=i) (t:=t) (by simpa using h);simp[iG];omega
theorem va:∀l:List iq,l.length<=iG l
 |[]=>by simp
 | .mk k s args::r=>by have:=va r;simp[iG,iq.size];omega
theorem yf:∀(n:Nat) (k:Int) (s:fB) (args:List iq) (most:Int),(iq.mk k s args).size<=n->(iq.mk k s args).size<=1152921504606846976->0<=most->most<=1099511627776->
 jA fC x 103 [(iq.mk k s args).d,fD most] λd=> ∃r:Int,d=fD r/\1<=r/\r<=(iq.mk k s args).size/\(r<=most->r=(iq.mk k s args).size):=by
 intro n
 induction n with
 |zero=>intro k s args most h;simp[iq.size] at h
 |succ n y=>
  intro k s args most j z C F;simp only[iq.size] at j z;have G:=jn args;have H:=va args;refine oN Tryz.func103 33 ?_;refine vq 18 (ι:=Nat×Int) (λ⟨i,c⟩=>[(6,int i),(5,int c)]) [2,1] (λ⟨i,c⟩=>i<=args.length/\1<=c/\c<=1+iG (args.take i)/\(c<=most->c=1+iG (args.take i))) (λ⟨i,c⟩=>args.length-i) ((0,1)) ⟨ak _,O,by simp[iG],λ_=>by simp[iG]⟩ ?_;rintro⟨i,c⟩ U
  try dsimp only at U
  refine xP 9 16 13 3 ?_;refine j7 2 ?_ ?_<;>intro Y
  .have q:=qJ args i;have e:c<=most->i=args.length:=(λh=>O);refine od 12 ?_;exact⟨c,rfl,U.2.1,by simp only[iq.size];omega,λh=>by rw[U.2.2.2 h,e h,bT];simp only[iq.size];omega⟩
  obtain⟨I,J,M,b⟩:=kj (show i<args.length by omega);have R:=oA b;have q:=qJ args i;refine ni 9 oz oP ?_ (hat:=(lj b));refine sH 3 ?_;refine wE 0 (y I J M (most-c) O O O O) λd hd=>?_;obtain⟨r,rfl,S,V,W⟩:=hd;refine jS 6 ?_;refine jS 6 ?_;refine qX 2 (i+1,c+r) ?_
  exact⟨⟨O,O,by rw[qK b];omega,λh=>by rw[qK b];omega⟩,show args.length-(i+1)<args.length-i by omega⟩
theorem vi:∀(n:Nat) (k m:Int) (s:fB) (ls:List iq) (args:List ie) (most:Int),(ie.mk k m s ls args).size<=n->(ie.mk k m s ls args).size<=1152921504606846976->0<=most->most<=1099511627776->
 jA fC J 102 [(ie.mk k m s ls args).d,fD most] λd=> ∃r:Int,d=fD r/\1<=r/\r<=(ie.mk k m s ls args).size/\(r<=most->r=(ie.mk k m s ls args).size):=by
 intro n
 induction n with
 |zero=>intro k m s ls args most h;simp[ie.size] at h
 |succ n M=>
  intro k m s ls args most y R S V;simp only[ie.size] at y R;have W:=ir args;have Y:=jn ls;have hsl:=va ls;have hsa:=iJ args;refine oN Tryz.func102 59 ?_;refine vq 18 (ι:=Nat×Int) (λ⟨i,c⟩=>[(6,int i),(5,int c)]) [2,1] (λ⟨i,c⟩=>i<=ls.length/\1<=c/\c<=1+iG (ls.take i)/\(c<=most->c=1+iG (ls.take i))) (λ⟨i,c⟩=>ls.length-i) ((0,1)) ⟨ak _,O,by simp[iG],λ_=>by simp[iG]⟩ ?_;rintro⟨i,c⟩ U
  try dsimp only at U
  refine xP 9 18 15 3 ?_;refine jq 2 ?_ ?_<;>intro h3
  .obtain ⟨k',s',a',b⟩:=kj (show i<ls.length by omega);have z:=oA b;have q:=qJ ls i;refine ni 9 oz oP ?_ (hat:=(lj b));refine sH 3 ?_;refine wE 0 (yf _ k' s' a' (most-c) (ae _) O O O) λd hd=>?_;obtain⟨r,rfl,C,F,G⟩:=hd
   refine jS 6 ?_;refine jS 6 ?_;refine qX 2 (i+1,c+r) ?_;exact⟨⟨O,O,by rw[qK b];omega,λh=>by rw[qK b];omega⟩,show ls.length-(i+1)<ls.length-i by omega⟩
  have hg3:=qJ ls i;have hc2:c<=1+iG ls:=O;have H:c<=most->c=1+iG ls:=(λh=>by
   have h4:i=ls.length:=O;rw[U.2.2.2 h,h4,bT])
  have I:=U.2.1;refine vq 12 (ι:=Nat×Int) (λ⟨j,e⟩=>[(8,int j),(5,int e)]) [2,1] (λ⟨j,e⟩=>j<=args.length/\1<=e/\e<=1+iG ls+ij (args.take j)/\(e<=most->e=1+iG ls+ij (args.take j))) (λ⟨j,e⟩=>args.length-j) ((0,c)) ⟨ak _,I,by simp[ij];omega,λh=>by simp[ij];exact H h⟩ ?_;rintro⟨j,e⟩ U
  try dsimp only at U
  refine xP 9 42 39 3 ?_;refine j7 2 ?_ ?_<;>intro h8
  .have q:=vb args j;have x:e<=most->j=args.length:=(λh=>O);refine od 12 ?_;exact⟨e,rfl,U.2.1,by simp only[ie.size];omega,λh=>by rw[U.2.2.2 h,x h,bT];simp only[ie.size];omega⟩
  obtain⟨k2,m2,s2,l2,a2,b⟩:=iZ (show j<args.length by omega);have z:=iO b;have q:=vb args j;refine ni 9 iQ iY ?_ (hat:=(jr b));refine sH 3 ?_;refine wE 0 (M k2 m2 s2 l2 a2 (most-e) O O O O) λd hd=>?_;obtain⟨r,rfl,C,F,G⟩:=hd;refine jS 6 ?_;refine jS 6 ?_;refine rF 2 ?_;refine bi ((j+1,e+r)) rfl ?_ ?_
  .exact ⟨⟨O,O,by rw[vQ b];omega,λh=>by rw[vQ b];omega⟩,show args.length-(j+1)<args.length-j by omega⟩
  .exact mz
mutual
theorem Cl:∀(t:ie) (v:Int),vL t v<=t.size
 | .mk k n s ls args,v=>by
  have:=Ak args (decide (4<=k)) v;rw[vL];simp only[ie.size];split<;>omega
theorem Ak:∀(l:List ie) (b:Bool) (v:Int),uq b l v<=ij l
 |[],b,v=>by simp[uq]
 |t::r,b,v=>by
  have h1:=Cl t (if b&&r.isEmpty then v+1 else v);have h2:=Ak r b v;simp only[uq,ij];omega
end
theorem EW{l:List ie}{b:Bool}{v:Int}{i:Nat}(h:l[i]? =some x):uq b (l.drop i) v=vL x (if b=true/\i+1=l.length then v+1 else v)+uq b (l.drop (i+1)) v:=by
 obtain⟨c,rfl⟩:=aJ.1 h;rw[dL c,uq];have e:(b&&(l.drop (i+1)).isEmpty)=true↔(b=true/\i+1=l.length):=by
  rw[bY,ei,List.drop_eq_nil_iff];constructor
  .rintro ⟨U,j⟩;exact⟨U,O⟩
  .rintro ⟨U,j⟩;exact⟨U,O⟩
 by_cases k:b=true/\i+1=l.length
 .rw [if_pos (e.2 k),if_pos k]
 .rw [if_neg (λh=>k (e.1 h)),if_neg k]
theorem OZ:∀(n:Nat) (k m:Int) (s:fB) (ls:List iq) (args:List ie) (v:Int),(ie.mk k m s ls args).size<=n->(ie.mk k m s ls args).size<=1099511627776->0<=v->v+(ie.mk k m s ls args).size<=2199023255552->oD B (.mk k m s ls args)->
 jA fC I 132 [(ie.mk k m s ls args).d,fD v] (· =fD (vL (.mk k m s ls args) v)):=by
 intro n
 induction n with
 |zero=>intro k m s ls args v h;simp[ie.size] at h
 |succ n J=>
  intro k m s ls args v z M R C S;have j:=Cl (.mk k m s ls args) v;simp only[ie.size] at z M C j;have V:=ir args;have W:=iJ args;have Y:=Ak args (decide (4<=k)) v;generalize q:vL (.mk k m s ls args) v=r at j ⊢;rw[vL] at q;refine oN Tryz.func132 42 ?_;refine xP 13 16 12 4 ?_;refine jq 2 ?_ ?_<;>intro h1
  .refine od 7 ?_
   (rw[if_pos O] at q;rw[<- q];rfl)
  rw[if_neg O] at q;refine vq 14 (ι:=Nat×Nat) (λ⟨i,c⟩=>[(6,int i),(5,int c)]) [2,1] (λ⟨i,c⟩=>i<=args.length/\c+uq (decide (4<=k)) (args.drop i) v=r) (λ⟨i,c⟩=>args.length-i) ((0,0)) ⟨ak _,by simpa using q⟩ ?_;rintro⟨i,c⟩ e
  try dsimp only at e
  refine j7 10 ?_ ?_<;>intro h5
  .refine od 12 ?_;have F:=e.2;rw[eh O] at F;simp only[uq,b6] at F;rw[<- F]
  obtain⟨k2,G,s2,l2,a2,U⟩:=iZ (show i<args.length by omega);have hg1:=iO U;have hg3:=EW (b:=decide (4<=k)) (v:=v) U;have H:=yC S.2.1 U;refine ny 15 (we k m s ls args i O) ?_;refine rF 2 ?_;refine xc (ι:=Unit) (λ_=>[(7,int (if decide (4<=k)=true/\i+1=args.length then v+1 else v))]) [6,5,2,1] (λ_=>True) rfl ?_ ?_
  .refine j7 0 ?_ ?_<;>intro h8
   .refine qX 1 (()) (by trivial) (hM:=by exact oL (j8 rfl (by exact Fit.of_eq gO)))
   refine jS 2 ?_;refine qX 2 (()) (by trivial) (hM:=by exact oL (j8 rfl (by exact Fit.of_eq gO)))
  .rintro _ x
   try dsimp only at x
   have y:=J k2 G s2 l2 a2 (if decide (4<=k)=true/\i+1=args.length then v+1 else v) O O (by split<;>omega) (by split<;>omega) H;have hle:c+vL (.mk k2 G s2 l2 a2) (if decide (4<=k)=true/\i+1=args.length then v+1 else v)<=r:=(by have:=e.2;omega);refine ni 5 iQ iY ?_ (hat:=(jr U));refine ny 2 y ?_;refine jS 6 ?_;refine jS 6 ?_;refine qX 2 (i+1,c+vL (.mk k2 G s2 l2 a2) (if decide (4<=k)=true/\i+1=args.length then v+1 else v)) ?_;exact⟨⟨O,by rw[<- e.2,EW U];omega⟩,show args.length-(i+1)<args.length-i by omega⟩
theorem O0{B':Int}(k m s j c x y z i e)(C:(ie.mk k m s j c).size<=1099511627776)(M:(ie.mk x y z i e).size<=1099511627776)(R:oD B (.mk k m s j c)):
 jA fC J 106 [(ie.mk k m s j c).d,(ie.mk x y z i e).d] λd=> ∃b:Bool,d=fF b/\(b=false->(ie.mk k m s j c).size+vL (.mk k m s j c) 0*(ie.mk x y z i e).size<=20000):=by
 have U:=Cl (.mk k m s j c) 0;refine oN Tryz.func106 22 ?_;refine wE 10 (vi _ k m s j c 20000 (ae _) O O O) λd hd=>?_;obtain⟨r,rfl,S,V,F⟩:=hd;refine jq 10 ?_ ?_<;>intro h2
 .refine od 7 ?_;exact⟨true,rfl,λh=>by cases h⟩
 refine ny 5 (OZ _ k m s j c 0 (ae _) C O O R) ?_;refine wE 6 (vi _ x y z i e 20000 (ae _) O O O) λd hd=>?_;obtain⟨q,rfl,W,Y,G⟩:=hd
 generalize vL (.mk k m s j c) 0=u at U ⊢;have I:0<=(u:Int)*q:=Int.mul_nonneg O O;have H:(u:Int)*q<=20000*1099511627776:=Int.mul_le_mul O O O O;refine rF 8 ?_;refine o1 (Gt rfl rfl rfl O ?_);refine jS 0 ?_;refine od 5 ?_;refine⟨_,rfl,λh=>?_⟩;simp only[decide_eq_false_iff_not,dJ] at h;have hr:=F O;rcases cX u with h0|h0
 .subst h0;omega
 .have h5:1*q<=(u:Int)*q:=fA O O;have hq:=G O;rw[hq] at h;have h6:((u*(ie.mk x y z i e).size:Nat):Int)=(u:Int)*((ie.mk x y z i e).size:Nat):=eI _ _;omega
mutual
def tD:iq->Nat
 | .mk k s args=>if k=4 then 1 else o8 args
def o8:List iq->Nat
 |[]=>0
 |l::r=>tD l+o8 r
end
mutual
def qI:ie->Nat
 | .mk k n s ls args=>o8 ls+qy args
def qy:List ie->Nat
 |[]=>0
 |t::r=>qI t+qy r
end
mutual
theorem DO:∀l:iq,tD l<=l.size
 | .mk k s args=>by have:=xS args;rw[tD];simp only[iq.size];split<;>omega
theorem xS:∀l:List iq,o8 l<=iG l
 |[]=>by simp[o8]
 |a::r=>by have:=DO a;have:=xS r;simp only[o8,iG];omega
end
mutual
theorem yw:∀t:ie,qI t<=t.size
 | .mk k n s ls args=>by have:=xS ls;have:=Bc args;simp only[qI,ie.size];omega
theorem Bc:∀l:List ie,qy l<=ij l
 |[]=>by simp[qy]
 |a::r=>by have:=yw a;have:=Bc r;simp only[qy,ij];omega
end
mutual
theorem FU(ps:List fB)(us:List iq)(M:Nat)(hu:∀l∈us,l.size<=M):∀l:iq,(l.subst ps us).size<=l.size+tD l*M
 | .mk k s args=>by
  have h:=DP ps us M hu args;simp only[iq.subst,tD,iq.size];split
  .split
   .rename_i i hi;rw[ba];cases hg:us[i]? with
    |none=>simp[iq.size]
    |some x=>simp only[cY];have:=hu x (aO hg);omega
   .simp only[iq.size];omega
  .simp only[iq.size];omega
theorem DP(ps:List fB)(us:List iq)(M:Nat)(hu:∀l∈us,l.size<=M):∀l:List iq,iG (nH ps us l)<=iG l+o8 l*M
 |[]=>by simp[nH,iG]
 |a::r=>by
  have h1:=FU ps us M hu a;have h2:=DP ps us M hu r;simp only[nH,iG,o8,bQ];omega
end
theorem FW(e c M)(h:∀l∈c,l.size<=M):∀l:List iq,iG (l.map λx=>x.subst e c)<=iG l+o8 l*M
 |[]=>by simp[iG]
 |a::r=>by
  have b:=FU e c M h a;have k:=FW e c M h r;simp only[bG,iG,o8,bQ];omega
mutual
theorem E3(ps:List fB)(us:List iq)(M:Nat)(hu:∀l∈us,l.size<=M):∀t:ie,(ld ps us t).size<=t.size+qI t*M
 | .mk k n s l args=>by
  have h1:=FW ps us M hu l;have h2:=Dw ps us M hu args;simp only[ld,ie.size,qI,bQ];omega
theorem Dw(ps:List fB)(us:List iq)(M:Nat)(hu:∀l∈us,l.size<=M):∀l:List ie,ij (lZ ps us l)<=ij l+qy l*M
 |[]=>by simp[lZ,ij]
 |t::r=>by
  have h1:=E3 ps us M hu t;have h2:=Dw ps us M hu r;simp only[lZ,ij,qy,bQ];omega
end
theorem uI{l:List iq}{i:Nat}(h:l[i]? =some x):o8 (l.drop i)=tD x+o8 (l.drop (i+1)):=by
 obtain⟨b,rfl⟩:=aJ.1 h;rw[dL b,o8]
theorem Bd{l:List ie}{i:Nat}(h:l[i]? =some x):qy (l.drop i)=qI x+qy (l.drop (i+1)):=by
 obtain⟨b,rfl⟩:=aJ.1 h;rw[dL b,qy]
theorem Ej:∀(n:Nat) (k:Int) (s:fB) (args:List iq),(iq.mk k s args).size<=n->(iq.mk k s args).size<=1099511627776->
 jA fC y 130 [(iq.mk k s args).d] (· =fD (tD (.mk k s args))):=by
 intro n
 induction n with
 |zero=>intro k s args h;simp[iq.size] at h
 |succ n z=>
  intro k s args q C;have e:=DO (.mk k s args);simp only[iq.size] at q C e;have F:=jn args;have G:=va args;generalize j:tD (.mk k s args)=r at e ⊢;rw[tD] at j;refine oN Tryz.func130 26 ?_;refine jq 14 ?_ ?_<;>intro M
  .refine od 7 ?_
   (rw[if_pos O] at j;subst j;first|rfl|skip)
  rw[if_neg O] at j;refine vq 14 (ι:=Nat×Nat) (λ⟨i,c⟩=>[(4,int i),(3,int c)]) [1] (λ⟨i,c⟩=>i<=args.length/\c+o8 (args.drop i)=r) (λ⟨i,c⟩=>args.length-i) ((0,0)) ⟨ak _,by simpa using j⟩ ?_;rintro⟨i,c⟩ b
  try dsimp only at b
  refine j7 10 ?_ ?_<;>intro R
  .refine od 12 ?_;have x:=b.2;rw[eh O] at x;simp only[o8,b6] at x;rw[<- x]
  obtain⟨k2,s2,a2,U⟩:=kj (show i<args.length by omega);have H:=oA U;have I:=uI U;have J:c+tD (.mk k2 s2 a2)<=r:=(by have:=b.2;omega);refine ni 9 oz oP ?_ (hat:=(lj U));refine ny 1 (z k2 s2 a2 O O) ?_;refine jS 6 ?_;refine jS 6 ?_;refine qX 2 (i+1,c+tD (.mk k2 s2 a2)) ?_;exact⟨⟨O,by rw[<- b.2,uI U];omega⟩,show args.length-(i+1)<args.length-i by omega⟩
theorem F6:∀(n:Nat) (k m:Int) (s:fB) (ls:List iq) (args:List ie),(ie.mk k m s ls args).size<=n->(ie.mk k m s ls args).size<=1099511627776->
 jA fC gl 104 [(ie.mk k m s ls args).d] (· =fD (qI (.mk k m s ls args))):=by
 intro n
 induction n with
 |zero=>intro k m s ls args h;simp[ie.size] at h
 |succ n J=>
  intro k m s ls args y M;have x:=yw (.mk k m s ls args);simp only[ie.size] at y M x;have R:=ir args;have S:=iJ args;have V:=jn ls;have W:=va ls;generalize I:qI (.mk k m s ls args)=r at x ⊢;rw[qI] at I;refine oN Tryz.func104 41 ?_;refine vq 18 (ι:=Nat×Nat) (λ⟨i,c⟩=>[(4,int i),(3,int c)]) [1] (λ⟨i,c⟩=>i<=ls.length/\c+o8 (ls.drop i)+qy args=r) (λ⟨i,c⟩=>ls.length-i) ((0,0)) ⟨ak _,by simpa using I⟩ ?_;rintro⟨i,c⟩ b
  try dsimp only at b
  refine jq 10 ?_ ?_<;>intro Y
  .obtain ⟨k2,s2,a2,U⟩:=kj (show i<ls.length by omega);have z:=oA U;have C:=uI U;have F:c+tD (.mk k2 s2 a2)<=r:=(by have:=b.2;omega);refine ni 9 oz oP ?_ (hat:=(lj U));refine ny 1 (Ej _ k2 s2 a2 (ae _) O) ?_;refine jS 6 ?_;refine jS 6 ?_;refine qX 2 (i+1,c+tD (.mk k2 s2 a2)) ?_;exact⟨⟨O,by rw[<- b.2,uI U];omega⟩,show ls.length-(i+1)<ls.length-i by omega⟩
  have G:c+qy args=r:=(by have q:=b.2;rw[eh O] at q;simpa[o8] using q);refine vq 12 (ι:=Nat×Nat) (λ⟨j,e⟩=>[(6,int j),(3,int e)]) [1] (λ⟨j,e⟩=>j<=args.length/\e+qy (args.drop j)=r) (λ⟨j,e⟩=>args.length-j) ((0,c)) ⟨ak _,by simpa using G⟩ ?_;rintro⟨j,e⟩ b
  try dsimp only at b
  refine j7 10 ?_ ?_<;>intro h8
  .refine od 12 ?_;have q:=b.2;rw[eh O] at q;simp only[qy,b6] at q;rw[<- q]
  obtain⟨k2,H,s2,l2,a2,U⟩:=iZ (show j<args.length by omega);have z:=iO U;have C:=Bd U;have F:e+qI (.mk k2 H s2 l2 a2)<=r:=(by have:=b.2;omega);refine ni 9 iQ iY ?_ (hat:=(jr U));refine ny 1 (J k2 H s2 l2 a2 O O) ?_;refine jS 6 ?_;refine jS 6 ?_;refine qX 2 (j+1,e+qI (.mk k2 H s2 l2 a2)) ?_;exact⟨⟨O,by rw[<- b.2,Bd U];omega⟩,show args.length-(j+1)<args.length-j by omega⟩
end
section
attribute [local irreducible] iK iL jI ik iW
theorem Eb(c e)(hl:c.length<=e.length)(J:c.length<=281474976710656):∀(n:Nat) (k:Int) (s:fB) (args:List iq),(iq.mk k s args).size<=n->(iq.mk k s args).size<=1099511627776->
 jA fC gl 131 [(iq.mk k s args).d,nU c,.sl 3 (iR e)] (· =((iq.mk k s args).subst c e).d):=by
 have M:=jU c;have R:=jn e;intro n
 induction n with
 |zero=>intro k s args h;simp[iq.size] at h
 |succ n S=>
  intro k s args V W;have Y:iG args<=n:=by simp[iq.size] at V;omega
  have F:=jn args;have hlb:=pO args;simp only[iq.size] at W;refine oN Tryz.func131 57 ?_;refine jq 14 ?_ ?_<;>intro h1
  .refine vq 7 (ι:=Nat) (λi=>[(7,int i)]) [6,3,1,2] (λi=>i<=c.length/\s∉c.take i) (λi=>c.length-i) (0) ⟨ak _,by simp⟩ ?_;rintro i b
   try dsimp only at b
   refine j7 9 ?_ ?_<;>intro h3
   .refine od 13 ?_;have q:k=4:=O;have h:=b.2;rw[aS O] at h;simp only[iq.subst,if_pos q,xZ h];rfl
   refine ma 5 [0,1] mixed ?_;refine pQ 2 yv Cs ?_ (hat:=by exact(u7 O));refine ga [3,4,5,6] ?_;refine iB<|j7 1 ?_ ?_<;>intro G
   .refine jS 5 ?_;refine qX 2 (i+1) ?_;exact⟨⟨O,sj O b.2 G⟩,O⟩
   obtain⟨y,z,C,U⟩:=kj (show i<e.length by omega);refine ni 4 oz oP ?_ (hat:=(lj U));refine od 11 ?_;have q:k=4:=O;have hf:=xY (show i<c.length by omega) b.2 G;simp only[iq.subst,if_pos q,hf,ba,U,cY];rfl
  refine rF 20 ?_;refine iP 121 3 rfl<|pt 0 (ι:=Nat) (λi=>[(9,int i)]) (λi=>[.cells [fE k,fI s,.d (.sl 3 (iR args))] 121,.cells [fE 0,fI .empty,fK] 121,.cells [fE k,fI s,.own 3 3 (iR (nH c e (args.take i)))] 121,.row 121 3]) [8,6,3,1,2] (λi=>i<=args.length) (λi=>args.length-i) (0) ([0,1,2,3]) ?I2 ?H2 (hM:= ?M2)
  case I2=>
   exact ak _
  case M2=>
   refine mo ?_ (iU (iU (iU (iU (iU (iU rA))))))
   repeat (first|exact nw|exact C9|refine jN ?_|refine D3 ?_|refine Ky ?_ ?_|refine jw ?_|refine .cons (.nil rfl) ?_)
  case H2=>
   rintro i b
   try dsimp only at b
   refine j7 10 ?_ ?_<;>intro h10
   .refine od 12 ?_;have q:¬k=4:=O;simp only[iq.subst,if_neg q];rw[aS O];rfl
   obtain⟨y,z,C,U⟩:=kj (show i<args.length by omega);obtain⟨k2,s2,a2,r⟩:=iq.case ((iq.mk y z C).subst c e)
   have H:=pJ U;have j:iR (nH c e (args.take i))++[[fD k2,fG s2,.sl 3 (iR a2)]]=iR (nH c e (args.take (i+1))):=by
    rw[Dy U,yV,r];rfl
   have I:=jn (nH c e (args.take i));have x:=Aq c e (args.take i);simp only[bj] at x;refine ma 4 [0,1,2,3,4] mixed ?_;refine pQ 5 oz oP ?_ (hat:=(lj U));refine ga [6,7,8] ?_;refine A2 (T:=λ_=>False) 9 rfl (oK ae2 rfl rfl rfl rfl (S y z C O O) (oq (jw (jw .nil))) (λd hd=>?_));rw[r] at hd;obtain rfl:=hd;refine A2 10 rfl (CW tr [.tmp 52] pC ?_);refine A2 11 rfl (ya tr ?_);refine ga [12] ?_;refine nO 13 ?_;refine iB<|jS 4 ?_;refine rF 2 ?_;rw[j];refine ml 0 (i+1) [0,1,2,3] ?_;exact⟨O,O⟩
end
section
attribute [local irreducible] iK iL jI ik iW jH
theorem JI(c e)(V:c.length<=e.length)(H:c.length<=281474976710656):∀(n:Nat) (k m:Int) (s:fB) (ls:List iq) (args:List ie),(ie.mk k m s ls args).size<=n->(ie.mk k m s ls args).size<=1099511627776->
 jA fC gl 105 [(ie.mk k m s ls args).d,nU c,.sl 3 (iR e)] (· =(ld c e (.mk k m s ls args)).d):=by
 intro n
 induction n with
 |zero=>intro k m s ls args h;simp[ie.size] at h
 |succ n W=>
  intro k m s ls args I Y;simp only[ie.size] at I Y;have hal:=ir args;have hsa:=iJ args;have hll:=jn ls;have hsl:=xF ls;have hpl:=jU c;have hml:=zu (ps:=c) (us:=e) args;refine oN Tryz.func105 58 ?_;refine rF 26 ?_;refine iP 121 3 rfl<|pt 0 (ι:=Nat) (λi=>[(8,int i)]) (λi=>[.cells [fE k,fE m,fI s,.d (.sl 3 (iR ls)),.d (.sl 5 (im args))] 39,.cells [fE 0,fE 0,fI .empty,fK,fK] 39,.cells [fE k,fE m,fI s,.own 3 3 (iR ((ls.map λx=>x.subst c e).take i)),fK] 39,.row 121 3]) [7,6,3,1,2] (λi=>i<=ls.length) (λi=>ls.length-i) (0) ([0,1,2,3]) ?I1 ?H1 (hM:= ?M1)
  case I1=>
   exact ak _
  case M1=>
   refine mo ?_ (iU (iU (iU (iU (iU (iU rA))))))
   repeat (first|exact nw|exact C9|refine jN ?_|refine D3 ?_|refine Ky ?_ ?_|refine jw ?_|refine .cons (.nil rfl) ?_)
  case H1=>
   rintro i U
   try dsimp only at U
   refine jq 10 ?_ ?_<;>intro h3
   .obtain ⟨k2,s2,a2,b⟩:=kj (show i<ls.length by omega);have J:=As b;obtain⟨z,C,F,G⟩:=iq.case ((iq.mk k2 s2 a2).subst c e)
    have q:=Eb (gl:=gl) c e V H _ k2 s2 a2 (ae _) O;rw[G] at q;have r:(ls.map λx=>x.subst c e)[i]? =some (.mk z C F):=(by rw[bt,b,bH,G]);have y:iR ((ls.map λx=>x.subst c e).take i)++[[fD z,fG C,.sl 3 (iR F)]]=iR ((ls.map λx=>x.subst c e).take (i+1)):=FR r;have M:=jn ((ls.map λx=>x.subst c e).take i);have R:=bj (i:=i) (l:=ls.map λx=>x.subst c e);refine ma 4 [0,1,2,3,4] mixed ?_;refine pQ 5 oz oP ?_ (hat:=(lj b));refine ga [6,7,8] ?_;refine qB 9 q ?_;refine A2 10 rfl (CW tr [.tmp 33] pC ?_);refine A2 11 rfl (ya tr ?_);refine ga [12] ?_;refine nO 13 ?_;refine iB<|jS 4 ?_;refine rF 2 ?_;rw[y];refine ml 0 (i+1) [0,1,2,3] ?_;exact⟨O,O⟩
   obtain rfl:i=ls.length:=O;refine rF 7 ?_;rw[aS (by rw[bc];omega)];refine rF 5 ?_;refine iP 39 5 rfl<|pt 0 (ι:=Nat) (λj=>[(9,int j)]) (λj=>[.cells [fE k,fE m,fI s,.d (.sl 3 (iR ls)),.d (.sl 5 (im args))] 39,.cells [fE 0,fE 0,fI .empty,fK,fK] 39,.cells [fE k,fE m,fI s,.own 3 3 (iR (ls.map λx=>x.subst c e)),.own 4 5 (im ((lZ c e args).take j))] 39,.row 121 3,.row 39 5]) [7,6,3,1,2] (λj=>j<=args.length) (λj=>args.length-j) (0) ([0,1,2,3,4]) ?I2 ?H2 (hM:= ?M2)
   case I2=>
    exact ak _
   case M2=>
    refine mo ?_ (iU (iU (iU (iU (iU (iU rA))))))
    repeat (first|exact nw|exact C9|refine jN ?_|refine oT ?_|refine D3 ?_|refine Ky ?_ ?_|refine jw ?_|refine .cons (.nil rfl) ?_)
   case H2=>
    rintro j U
    try dsimp only at U
    refine j7 10 ?_ ?_<;>intro h7
    .obtain rfl:j=args.length:=O;refine rF 6 ?_;rw[aS O];refine v8 6 ((ie.mk k m s (ls.map λx=>x.subst c e) (lZ c e args)).d) ?_;rw[ld]
    obtain⟨k2,S,s2,l2,a2,b⟩:=iZ (show j<args.length by omega);have J:=iO b;obtain⟨z,m3,C,l3,F,G⟩:=ie.case (ld c e (.mk k2 S s2 l2 a2))
    have q:=W k2 S s2 l2 a2 O O;have r:=Cu (ps:=c) (us:=e) b;rw[G] at q r;have y:im ((lZ c e args).take j)++[[fD z,fD m3,fG C,.sl 3 (iR l3),.sl 5 (im F)]]=im ((lZ c e args).take (j+1)):=E0 r;have M:=ir ((lZ c e args).take j);have R:=bj (i:=j) (l:=lZ c e args);refine ma 4 [0,1,2,3,4] mixed ?_;refine pQ 5 iQ iY ?_ (hat:=(jr b));refine ga [6,7,8] ?_;refine qB 9 q ?_;refine A2 10 rfl (CW mN [.tmp 53] jz ?_);refine A2 11 rfl (ya mN ?_);refine ga [12] ?_;refine nO 13 ?_;refine iB<|jS 4 ?_;refine rF 2 ?_;rw[y];refine ml 0 (j+1) [0,1,2,3,4] ?_;exact⟨O,O⟩
def tf(c m:Int)(t:Bool)(p:Int):Ob:=.cells [.d (.v (.int .i64 c)),.d (.v (.int .i64 m)),.d (.v (.bool t)),.d (.v (.int .i64 p))] 87
theorem Sb(h m t p)(e:0<=h/\h<=1099511627776):
 jT fC c 84 [tf h m t p] [.jk 0 0] λout ob'=>(m<=h/\out=.ret (fH false)/\ob'=[tf h m true p])\/(h<m/\out=.ret (fH true)/\ob'=[tf (h+1) m t p]):=by
 refine nR Tryz.func84 22 1 ?_;refine ma 7 [0,1,2,3,4,5,6,7,8] mixed ?_;refine iB<|jq 1 ?_ ?_<;>intro b
 .refine jD 15 (fF false) [0] [tf h m true p] (.inl ⟨O,rfl,rfl⟩)
 refine jS 8 ?_;refine jD 11 (fF true) [0] [tf (h+1) m t p] (.inr ⟨O,rfl,rfl⟩)
theorem F7(c w e)(h:esB c):
 jT fC gl 160 [iD c w,iC] [.jk 0 0,fI e] λout ob'=>out=.ret (fH (!decide ((iw e c).1=0)))/\ob'=[iD c w,iC]:=by
 have b:=find_spec (gl:=gl) c w e h;rcases k:iw e c with⟨j,⟨⟨kd,sd,pd,⟨k1,n1,s1,l1,a1⟩,⟨k2,n2,s2,l2,a2⟩,ad,U⟩,i,⟨q,n3,r,s,x⟩⟩,y⟩;rw[k] at b;refine nR Tryz.func160 17 2 ?_;refine nC 9 b [0,1] ?_;refine B5 18 [0,1] [iD c w,iC] ⟨rfl,rfl⟩
def tyD:Option (List fB×ie)->D
 |none=>.jj [nU [],iu.d,.v (.bool false)]
 |some x=>.jj [nU x.1,x.2.d,.v (.bool true)]
theorem NR(h:iw c i=(r,e,j))(q:r=0):oM c i=none:=by
 unfold oM;rw[h];exact if_pos q
theorem NP(h:iw i q=(x,e,j))(r:x=4)(s:e.d.cs[j]? =some c):oM i q=some (e.d.ps,c.2):=by
 unfold oM;rw[h];subst r;show(if (4:Int)=0 then none else if (4:Int)=4 then(e.d.cs[j]?).map (λc=>(e.d.ps,c.2)) else _)=_;rw[if_neg Z,if_pos rfl,s];rfl
theorem NO(h:iw c i=(r,e,j))(q:r=5):oM c i=some (e.rp,e.rt):=by
 unfold oM;rw[h];subst q;rfl
theorem xx(h:iw c i=(x,e,j))(q:¬x=0)(r:¬x=4)(s:¬x=5):oM c i=some (e.d.ps,e.d.ty):=by
 unfold oM;rw[h];show(if x=0 then none else if x=4 then _ else if x=5 then _ else _)=_;rw[if_neg q,if_neg r,if_neg s]
theorem KS(c w h)(r:esB c)(s:∀e∈c,e.d.k≠4):
 jT fC gl 25 [iD c w,iC] [.jk 0 0,fI h] λout ob'=>out=.ret (.d (tyD (oM h c)))/\ob'=[iD c w,iC]:=by
 have q:=find_spec (gl:=gl) c w h r;have U:=vt (nm:=h) s;rcases k:iw h c with⟨M,⟨⟨kd,sd,pd,⟨k1,n1,s1,l1,a1⟩,⟨k2,n2,s2,l2,a2⟩,ad,i⟩,j,⟨x,n3,y,z,C⟩⟩,R⟩;rw[k] at q U;simp only[mJ.cs] at U;have F:=sZ i;refine nR Tryz.func25 45 2 ?_;refine nC 11 q [0,1] ?_;refine jq 23 ?_ ?_<;>intro S
 .refine jD 11 (tyD none) [0,1] [iD c w,iC] ?_
  .rw [NR k O];exact⟨rfl,rfl⟩
 refine jq 6 ?_ ?_<;>intro V
 .obtain ⟨⟨W,⟨ck,G,cs,cl,H⟩⟩,b,I⟩:=U O;have J:=(aJ.1 b).1;refine ma 1 [0,1,2,3,4,5,6] mixed ?_;refine pQ 7 G4 Jt ?_ (hat:=(x8 b));refine ga [8,9,10] ?_;refine nO 11 ?_;refine ga [12] ?_;refine iB<|jD 4 (tyD (some (pd,.mk ck G cs cl H))) [0,1] [iD c w,iC] ?_
  .rw [NP k O b];exact⟨rfl,rfl⟩
 refine jq 6 ?_ ?_<;>intro Y
 .refine ma 1 [0,1,2,3,4] mixed ?_;refine nO 5 ?_;refine ga [6] ?_;refine iB<|jD 4 (tyD (some (j,.mk x n3 y z C))) [0,1] [iD c w,iC] ?_
  .rw [NO k O];exact⟨rfl,rfl⟩
 refine ma 4 [0,1,2,3,4,5,6] mixed ?_;refine nO 7 ?_;refine ga [8] ?_;refine iB<|jD 2 (tyD (some (pd,.mk k1 n1 s1 l1 a1))) [0,1] [iD c w,iC] ?_
 .rw [xx k O O O];exact⟨rfl,rfl⟩
def tg:ie:=.mk 1 0 .empty [.mk 0 .empty []] []
theorem xi(F w)(hB:B<=1125899906842624)(W:B'<=1125899906842624)(k m s i e j q r h c)(y:(ie.mk k m s i e).size<=1099511627776)(z:(ie.mk j q r h c).size<=1099511627776)(x:oD B (.mk k m s i e))(C:oD B' (.mk j q r h c)):
 jT fC gl 64 [iD F w,iC] [.jk 0 0,.d (ie.mk k m s i e).d,.d (ie.mk j q r h c).d] λout ob'=> ∃(u:ie) (G:Bool),out=.ret (.d u.d)/\ob'=[iD F G,iC]/\
  ((G=false/\w=false/\u=jJ (.mk k m s i e) (.mk j q r h c)/\u.size<=20000)\/(G=true/\u=tg)):=by
 have b:=yX (gl:=gl) (B:=max B B') O j q r h c (rr O C) z k m s i e (rr O x) y;have H:=HJ (.mk j q r h c) (.mk k m s i e) 0;have U:=ie.case (jJ (.mk k m s i e) (.mk j q r h c))
 unfold jJ at U b;obtain⟨J,M,R,S,V,U⟩:=U;rw[U] at b H;refine nR Tryz.func64 27 2 ?_;refine wE 11 (O0 (B:=B) (B':=B') k m s i e j q r h c y z x) λd hd=>?_;obtain⟨bm,rfl,I⟩:=hd
 refine rV 8 16 12 4 ?_;refine j7 2 ?_ ?_<;>intro Y
 .obtain ⟨h5,rfl⟩:=Y;refine ny 6 b ?_;refine jD 4 ((ie.mk J M R S V).d) [0,1] [iD F false,iC] ?_
  .exact ⟨.mk J M R S V,false,rfl,rfl,.inl ⟨rfl,rfl,by unfold jJ;rw[U],by have:=I h5;omega⟩⟩
 refine oR 11 tr [.tmp 21] pC ?_;refine jD 6 (tg.d) [0,1] [iD F true,iC] ⟨tg,true,rfl,rfl,.inr ⟨rfl,rfl⟩⟩
structure G1 (sg:Sg) (e:iI):Prop where
 k:e.d.k=1\/e.d.k=2\/e.d.k=3
 ps:e.d.ps.length<=6
 nm:e.d.nm.size<=1000000
 ty:Wt sg e.d.ps e.d.ty 0/\e.d.ty.size<=800001
 vl:e.d.k=2->Wt sg e.d.ps e.d.vl 0/\e.d.vl.size<=800001
 cl:e.d.cs.length<=1000000
 ar:e.d.k=3->0<=e.d.ar/\e.d.ar<=iv e.d.ty
 cs:∀c∈e.d.cs,Wt sg e.d.ps c.2 0/\c.2.size<=800001/\e.d.ar<=iv c.2
 rp:e.rp.length<=7
 rt:e.d.k=3->Wt sg e.rp e.rt 0/\e.rt.size<=1099511627776
structure ko (es:List iI):Prop where
 len:es.length<=1000000
 nd:(es.map λe=>e.d.nm).Nodup
 AZ:∀e∈es,G1 (jY es) e
theorem ko.b(h:ko c):esB c:=⟨by have:=h.len;omega,λe he=>⟨by have:=(h.AZ e he).cl;omega,by have:=(h.AZ e he).nm;omega⟩⟩
theorem ko.k4(h:ko c):∀e∈c,e.d.k≠4:=λe b k=>by rcases(h.AZ e b).k with h|h|h<;>omega
theorem ko.sg(h:ko e)(i:jY e s=some n):n<=7:=by
 unfold jY at i;obtain⟨t,b,rfl⟩:=bO.1 i;unfold oM at b;simp only at b;split at b
 .cases b
 .rename_i U;have j:=zN U;have k:=h.AZ _ j;have q:=k.ps;have r:=k.rp;split at b
  .obtain ⟨c,_,rfl⟩:=bO.1 b;simp only;omega
  .split at b
   .cases b;simp only;omega
   .cases b;simp only;omega
theorem EU{sg:Sg}{ps:List fB}:Wt sg ps tg c:=Wt.sort ⟨.zero,rfl,⟨Z,Z,λe=>absurd e Z,trivial⟩,λp h=>h.elim⟩
theorem zR{gl:Nat->List D}(R:List iI)(w:Bool)(C:List fB)(e:List iq)(hl:C.length<=e.length)(S:e.length<=1000000)(F:∀u∈e,u.size<=1099511627776)(k m:Int)(s:fB)(j:List iq)(c:List ie)(G:(ie.mk k m s j c).size<=1099511627776):
 jT fC gl 58 [iD R w,iC] [.jk 0 0,.d (ie.mk k m s j c).d,.d (nU C),.d (.sl 3 (iR e))] λout ob'=> ∃(u:ie) (V:Bool),out=.ret (.d u.d)/\ob'=[iD R V,iC]/\
  ((V=false/\w=false/\u=ld C e (.mk k m s j c)/\u.size<=20000)\/(V=true/\u=tg)):=by
 have H:=JI (gl:=gl) C e hl O _ k m s j c (ae _) G;have W:=F6 (gl:=gl) _ k m s j c (ae _) G;have htz:=yw (.mk k m s j c);have hul:=jn e;have y:=λM h=>E3 C e M h (.mk k m s j c)
 obtain⟨Y,m3,s3,l3,a3,hX⟩:=ie.case (ld C e (.mk k m s j c))
 rw[hX] at H y;refine nR Tryz.func58 56 2 ?_;refine wE 9 (vi _ k m s j c 20000 (ae _) O O O) λd hd=>?_;obtain⟨r,rfl,hr1,hr2,hr3⟩:=hd;refine vq 15 (ι:=Nat×Int) (λ⟨i,q⟩=>[(11,int i),(10,int q)]) [9,8,5,0,2,3] (λ⟨i,q⟩=>i<=e.length/\0<=q/\q<=1099511627776/\(q<=20000->∀u∈e.take i,(u.size:Int)<=q)) (λ⟨i,q⟩=>e.length-i) ((0,0)) ⟨ak _,O,O,λ_ u S=>by simp at S⟩ ?_
 rintro⟨i,q⟩ b
 try dsimp only at b
 refine jq 9 ?_ ?_<;>intro h4
 .obtain ⟨k2,s2,a2,x⟩:=kj (show i<e.length by omega);have hgs:=F _ (aO x);refine ni 8 oz oP ?_ (hat:=(lj x));refine wE 1 (yf _ k2 s2 a2 20000 (ae _) O O O) λd hd=>?_;obtain⟨z,rfl,hz1,hz2,hz3⟩:=hd;refine rF 6 ?_;refine o1 (Y4 ?_);refine jS 6 ?_;refine qX 2 (i+1,max q z) ?_
  .refine ⟨⟨O,O,O,λh u hm=>?_⟩,show e.length-(i+1)<e.length-i by omega⟩;rw[bo,x] at hm;rcases bn.1 hm with hm|hm
   .have:=b.2.2.2 O u hm;omega
   .simp only[dq,bF] at hm;subst hm;have:=hz3 O;omega
 have hq:=b.2.2.2;rw[aS O] at hq;refine rF 17 ?_;refine xc (ι:=Unit) (λ_=>[(13,int (if r<=20000 then(qI (.mk k m s j c):Int) else 0))]) [10,9,8,5,0,2,3] (λ_=>True) rfl ?_ ?_
 .refine j7 0 ?_ ?_<;>intro h9
  .refine qX 1 (()) (by trivial) (hM:=by exact oL (j8 rfl (by exact Fit.of_eq gO)))
  refine ny 2 W ?_;refine qX 2 (()) (by trivial) (hM:=by exact oL (j8 rfl (by exact Fit.of_eq gO)))
 .rintro _ I
  try dsimp only at I
  have hub:0<=(if r<=20000 then(qI (.mk k m s j c):Int) else 0)/\(if r<=20000 then(qI (.mk k m s j c):Int) else 0)<=20000:=(by split<;>omega);generalize hU:(if r<=20000 then(qI (.mk k m s j c):Int) else 0)=U at hub ⊢;have hmul:0<=U*q:=Int.mul_nonneg O O;have hmul2:U*q<=20000*1099511627776:=Int.mul_le_mul O O O O;refine' Cg 8 44 38 6 ?a1 ?_
  case a1=>
   intro hc hK;refine rF 3 ?_;refine gy<|o1 (Gt rfl rfl rfl O ?_);refine jS 0 ?_;refine rF 1 ?_;exact hK [_,_,_,_,_,_] rfl rfl
  refine jq 2 ?_ ?_<;>intro h11
  .refine oR 11 tr [.tmp 49] pC ?_;refine jD 6 (tg.d) [0,1] [iD R true,iC] ⟨tg,true,rfl,rfl,.inr ⟨rfl,rfl⟩⟩
  obtain⟨rfl,h9⟩:=h11;have hrr:=hr3 O;rw[if_pos O] at hU;have J:(ie.mk Y m3 s3 l3 a3).size<=20000:=(by
   rcases Int.lt_or_le 20000 q with h5|h5
   .have hU0:U=0:=dj λh6=>by
     have h7:1*q<=U*q:=fA O O;omega
    have h8:=y 1099511627776 F;rw[show qI (.mk k m s j c)=0 by omega,eA] at h8;omega
   .have h8:=y q.toNat (λu S=>by have:=hq h5 u S;omega);have h10:((qI (.mk k m s j c)*q.toNat:Nat):Int)=U*q:=by
     rw[eI,hU,Int.toNat_of_nonneg O]
    omega)
  refine ny 7 H ?_;refine jD 4 ((ie.mk Y m3 s3 l3 a3).d) [0,1] [iD R false,iC] ⟨.mk Y m3 s3 l3 a3,false,rfl,rfl,.inl ⟨rfl,rfl,hX.symm,J⟩⟩
def rW(c:fB):ie->Int->Bool
 | .mk k _ s _ _,_=>decide (k=2)&&decide (s=c)
mutual
theorem Ki{nm:fB}:∀(t:ie) (d e:Int),nP (rW nm) t d=nP (rW nm) t e
 | .mk k m s ls args,d,e=>by
  simp only[nP,rW];rw[Mr args _ d e]
theorem Mr{nm:fB}:∀(l:List ie) (b:Bool) (d e:Int),rZ (rW nm) b l d=rZ (rW nm) b l e
 |[],b,d,e=>rfl
 |t::r,b,d,e=>by
  simp only[rZ];rw[Ki t _ (if (b&&r.isEmpty)=true then e+1 else e),Mr r b d e]
end
theorem uQ(q):∀(n:Nat) (k m:Int) (s:fB) (ls:List iq) (args:List ie),(ie.mk k m s ls args).size<=n->(ie.mk k m s ls args).size<=1099511627776->
 jA fC gl 150 [(ie.mk k m s ls args).d,fG q] (· =fF (nP (rW q) (.mk k m s ls args) 0)):=by
 intro n
 induction n with
 |zero=>intro k m s ls args h;simp[ie.size] at h
 |succ n z=>
  intro k m s ls args x C;have e:=x;simp only[ie.size] at e C;have F:=ir args;have G:=iJ args;refine oN Tryz.func150 31 ?_;refine xP 13 14 10 4 ?_;refine jq 2 ?_ ?_<;>intro r
  .refine od 7 ?_
   (simp only[nP,rW];rw[decide_eq_true r.1,decide_eq_true r.2];rfl)
  refine vq 9 (ι:=Nat) (λi=>[(5,int i)]) [2,1] (λi=>i<=args.length/\∀(j:Nat) t,j<i->args[j]? =some t->nP (rW q) t 0=false) (λi=>args.length-i) (0) ⟨ak _,λj t h=>absurd h (cT _)⟩ ?_;rintro i U
  try dsimp only at U
  refine j7 10 ?_ ?_<;>intro J
  .refine od 11 ?_;rw[nP,xE (λj t c=>(Ki _ _ 0).trans (U.2 j t (by have:=(aJ.1 c).1;omega) c)),Bool.or_false,rW,show(decide (k=2)&&decide (s=q))=false from(by simp only[Bool.and_eq_false_iff,decide_eq_false_iff_not];first|exact r|(by_cases h:k=2;exact .inr (r h);exact .inl h))]
  obtain⟨k2,H,s2,l2,a2,b⟩:=iZ (show i<args.length by omega);have I:=iO b;refine ni 9 iQ iY ?_ (hat:=(jr b));refine ny 2 (z k2 H s2 l2 a2 O O) ?_;refine jq 8 ?_ ?_<;>intro y
  .refine od 11 ?_;rw[nP,yz b ((Ki _ _ 0).trans y),Bool.or_true]
  refine jS 5 ?_;refine qX 2 (i+1) ?_
  .exact ⟨⟨O,λj t M c=>by
   rcases bV j i with h|h
   .exact U.2 j t h c
   .obtain rfl:j=i:=O;rw[b] at c;cases c;exact y⟩,O⟩
theorem Uw{c:List ie}{j:Nat}(h:c[c.length-1-j]? =some t)(e:j<c.length):im (c.reverse.take j)++[t.cells]=im (c.reverse.take (j+1)):=by
 have b:c.reverse[j]? =some t:=by rw[List.getElem?_reverse e];exact h
 rw[bo,b,ll];rfl
theorem oW(k m s h c)(J:zX (.mk k m s h c))(Y:(ie.mk k m s h c).size<=1099511627776):
 jA fC gl 65 [(ie.mk k m s h c).d] (· =.jj [(ig (.mk k m s h c)).1.d,.sl 5 (im (ig (.mk k m s h c)).2)]):=by
 refine oN Tryz.func65 37 ?_;refine rF 14 ?_;refine iP 39 5 rfl<|pt 0 (ι:=(Int×Int×fB×List iq×List ie)×List ie) (λ⟨⟨k1,e,s1,l1,a1⟩,b⟩=>[(4,.own 2 5 (im b))]) (λ⟨⟨k1,e,s1,l1,a1⟩,b⟩=>[.cells [fE k1,fE e,fI s1,.d (.sl 3 (iR l1)),.d (.sl 5 (im a1))] 39,.cells [fE 0,fE 0,fI .empty,fK,fK] 39,.row 39 5]) [2,1] (λ⟨⟨k1,e,s1,l1,a1⟩,b⟩=>zX (.mk k1 e s1 l1 a1)/\ig (.mk k m s h c)=((ig (.mk k1 e s1 l1 a1)).1,(ig (.mk k1 e s1 l1 a1)).2++b.reverse)/\(ie.mk k1 e s1 l1 a1).size+b.length<=(ie.mk k m s h c).size) (λ⟨⟨k1,e,s1,l1,a1⟩,b⟩=>(ie.mk k1 e s1 l1 a1).size) ((⟨k,m,s,h,c⟩,[])) ([0,1,2]) ⟨J,by simp,by simp⟩ ?_ (hM:=by exact oL (yu rfl (by(show Fit _ _ (SV.own 2 5 []);exact Fit.nil rfl)) (iU (iU rA))));rintro⟨⟨k1,e,s1,l1,a1⟩,b⟩ U
 try dsimp only at U
 refine jq 8 ?_ ?_<;>intro W
 .obtain rfl:=W;obtain⟨k2,z,s2,l2,a2,C,F,G,H,I,rfl,x⟩:=E8 U.1 rfl;have M:=ir b;have y:=U.2.2;have r:im b++[[fD C,fD F,fG G,.sl 3 (iR H),.sl 5 (im I)]]=im (b++[.mk C F G H I]):=(ll b [.mk C F G H I]).symm;refine ni 8 iQ iY ?_ (hat:=rfl);refine oR 1 mN [.tmp 14] jz ?_;refine oc (ya mN ?_);refine ni 6 iQ iY ?_ (hat:=rfl);refine rF 4 ?_;rw[r];refine ml 0 (⟨k2,z,s2,l2,a2⟩,b++[.mk C F G H I]) [0,1,2] ?_;exact⟨⟨x,by rw[U.2.1,qv];simp,by have:=U.2.2;simp only[ie.size,ij,aN,aj,aH] at this ⊢;omega⟩,by simp only[ie.size,ij];omega⟩
 have M:=ir b;have y:=U.2.2;have R:=U.2.1;refine sH 15 ?_;refine rF 4 ?_;refine iP 39 5 rfl<|pt 0 (ι:=Nat) (λj=>[(6,int ((im b).length-1-j)),(5,.own 3 5 (im (b.reverse.take j)))]) (λj=>[.cells [fE k1,fE e,fI s1,.d (.sl 3 (iR l1)),.d (.sl 5 (im a1))] 39,.cells [fE 0,fE 0,fI .empty,fK,fK] 39,.row 39 5,.row 39 5]) [4,2,1] (λj=>j<=b.length) (λj=>b.length-j) (0) ([0,1,2,3]) (ak _) ?_ (hM:=by exact oL (yu rfl (by exact Fit.of_eq (by rw[show((0:Nat):Int)=0 from rfl,Int.sub_zero];rfl)) (yu rfl (by(rw[cj];exact Fit.nil rfl)) (iU (iU (iU rA))))));rintro j U
 try dsimp only at U
 refine j7 7 ?_ ?_<;>intro h7
 .refine rF 6 ?_;rw[aS (by rw[dx];omega)];refine v8 8 (.jj [(ie.mk k1 e s1 l1 a1).d,.sl 5 (im b.reverse)]) ?_;rw[R,oE W,cf]
 obtain⟨k2,z,s2,l2,a2,q⟩:=iZ (show b.length-1-j<b.length by omega);have S:(im b)[(((im b).length:Int)-1-j).toNat]? =some [fD k2,fD z,fG s2,.sl 3 (iR l2),.sl 5 (im a2)]:=by rw[show(((im b).length:Int)-1-j).toNat=b.length-1-j by omega,rm q];rfl
 have V:im (b.reverse.take j)++[[fD k2,fD z,fG s2,.sl 3 (iR l2),.sl 5 (im a2)]]=im (b.reverse.take (j+1)):=Uw q O;have htl:=ir (b.reverse.take j);have htk:=bj (i:=j) (l:=b.reverse);have hrl:b.reverse.length=b.length:=dx;refine rF 8 ?_;refine o1 (Q4 iQ iY ?_ (he:=by exact(S)));refine oR 1 mN [.tmp 32] jz ?_;refine oc (ya mN ?_);refine sH 6 ?_;refine rF 2 ?_;rw[V];refine ml 0 (j+1) ([0,1,2,3]) ⟨O,O⟩ (hM:=by exact oL (j8 rfl (by exact Fit.of_eq (by rw[show((j+1:Nat):Int)=(j:Int)+1 by omega,show((im b).length:Int)-1-((j:Int)+1)=(im b).length-1-j-1 by omega];rfl))))
theorem ph{c:List ie}{i:Nat}(h:c[i]? =some a):iF e (c.take (i+1))=.mk 3 0 .empty [] [iF e (c.take i),a]:=by
 rw[bo,h,iF,eg];rfl
theorem yL(C m:Int)(s:fB)(j:List iq)(c:List ie)(e:List ie)(y:e.length<=1099511627776):
 jA fC gl 85 [(ie.mk C m s j c).d,.sl 5 (im e)] (· =(iF (.mk C m s j c) e).d):=by
 have x:=ir e;refine oN Tryz.func85 19 ?_;refine pt 13 (ι:=Nat×(Int×Int×fB×List iq×List ie)) (λ⟨i,⟨k1,U,s1,l1,a1⟩⟩=>[(5,int i)]) (λ⟨i,⟨k1,U,s1,l1,a1⟩⟩=>[.cells [fE k1,fE U,fI s1,.d (.sl 3 (iR l1)),.d (.sl 5 (im a1))] 39,.cells [fE 0,fE 0,fI .empty,fK,fK] 39]) [4,2,1] (λ⟨i,⟨k1,U,s1,l1,a1⟩⟩=>i<=e.length/\iF (.mk C m s j c) (e.take i)=.mk k1 U s1 l1 a1) (λ⟨i,⟨k1,U,s1,l1,a1⟩⟩=>e.length-i) ((0,⟨C,m,s,j,c⟩)) ([0,1]) ⟨ak _,rfl⟩ ?_;rintro⟨i,⟨k1,U,s1,l1,a1⟩⟩ b
 try dsimp only at b
 refine j7 9 ?_ ?_<;>intro z
 .refine v8 12 ((ie.mk k1 U s1 l1 a1).d) ?_;rw[<- b.2,aS O]
 obtain⟨k2,r,s2,l2,a2,h⟩:=iZ (show i<e.length by omega);have q:=lS (gl:=gl) k1 U s1 l1 a1 k2 r s2 l2 a2;refine ma 4 [0,1,2] mixed ?_;refine pQ 3 iQ iY ?_ (hat:=(jr h));refine ga [4] ?_;refine qB 5 q ?_;refine nO 6 ?_;refine iB<|jS 4 ?_;refine ml 2 (i+1,⟨3,0,.empty,[],[.mk k1 U s1 l1 a1,.mk k2 r s2 l2 a2]⟩) [0,1] ?_;exact⟨⟨O,by rw[ph h,b.2]⟩,show e.length-(i+1)<e.length-i by omega⟩
end
def lQ:Nat->ie->List ie
 |0,_=>[]
 |n+1,.mk _ _ _ _ [a,b]=>a::lQ n b
 |_+1,_=>[]
theorem vf(h:0<iv (.mk j m s i e)):j=5/\∃a b,e=[a,b]/\iv (.mk j m s i e)=iv b+1:=by
 match e with
 |[a,b]=>
  rw[iv] at h;split at h
  .rename_i U;exact⟨U,a,b,rfl,by rw[iv,if_pos U]⟩
  .omega
 |[]=>simp[iv] at h
 |[a]=>simp[iv] at h
 |a::b::c::r=>simp[iv] at h
theorem oX:∀(n:Nat) (t:ie),n<iv t->∃m s ls a b,jQ n t=.mk 5 m s ls [a,b]/\jQ (n+1) t=b/\lQ (n+1) t=lQ n t++[a]/\iv t=n+1+iv b:=by
 intro n
 induction n with
 |zero=>
  intro t h;obtain⟨k,m,s,ls,args,rfl⟩:=ie.case t
  obtain⟨rfl,a,b,rfl,U⟩:=vf h;exact⟨m,s,ls,a,b,rfl,rfl,rfl,O⟩
 |succ n c=>
  intro t h;obtain⟨k,m,s,ls,args,rfl⟩:=ie.case t
  obtain⟨rfl,a,b,rfl,U⟩:=vf (Nat.lt_of_le_of_lt (ak _) h);obtain⟨e,s1,l1,a1,b1,i,j,q,r⟩:=c b O;exact⟨e,s1,l1,a1,b1,i,j,by rw[lQ,q];rfl,O⟩
theorem nj:∀(n:Nat) (t:ie),(jQ n t).size+ij (lQ n t)<=t.size:=by
 intro n
 induction n with
 |zero=>intro t;simp[jQ,lQ,ij]
 |succ n U=>
  intro t
  match t with
  | .mk k m s ls [a,b]=>
   have:=U b;simp only[jQ,lQ,ie.size,ij];omega
  | .mk k m s ls []=>simp[jQ,lQ,ij]
  | .mk k m s ls [a]=>simp[jQ,lQ,ij]
  | .mk k m s ls (a::b::c::r)=>simp[jQ,lQ,ij]
theorem jx:∀(n:Nat) (t:ie),n<=iv t->(lQ n t).length=n:=by
 intro n
 induction n with
 |zero=>intro t h;rfl
 |succ n k=>
  intro t h;obtain⟨m,s,ls,a,b,c,e,U,i⟩:=oX n t O;rw[U,aN,k t O];rfl
theorem Wt.yN:∀(n:Nat) {t:ie} {c:Int},n<=iv t->Wt e j t c->Wt e j (jQ n t) (c+n)/\∀(i:Nat) x,(lQ n t)[i]? =some x->Wt e j x (c+i):=by
 intro n
 induction n with
 |zero=>intro t c h hw;exact⟨by simpa[jQ] using hw,λi x k=>by simp[lQ] at k⟩
 |succ n y=>
  intro t c h hw;obtain⟨m,s,ls,a,b,z,C,F,I⟩:=oX n t O;obtain⟨q,G⟩:=y O hw;rw[z] at q;obtain⟨J,M,U,_,_,_,ha,r⟩:=q.two (.inr (.inr rfl));cases U;rw[if_neg Z] at r;rw[C,F];refine⟨by rw[show c+((n+1:Nat):Int)=c+n+1 by omega];exact r,λi x k=>?_⟩;rw[cH] at k;split at k
  .exact G i x k
  .rename_i R;have H:=jx n t O;have:i=n:=by
    have:=(aJ.1 k).1;simp at this;omega
   subst this;rw[H,bL] at k;simp at k;subst k;exact ha
theorem Wt.xs(h:n<=iv t)(j:Wt e i t c):Wt e i (jQ n t) (c+n):=(j.yN n h).1
def o9(given:List ie):Nat->ie->ie
 |0,t=>t
 |i+1,t=>o9 given i (jJ t (lJ (given.getD i iu) i 0))
def oy:Nat->ie->ie
 |0,b=>b
 |i+1,b=>oy i (.mk 3 0 .empty [] [b,.mk 0 i .empty [] []])
def rP(c:List ie)(h:ie):ie:=c.foldr (λx h=>.mk 4 0 .empty [] [x,h]) h
def Mp(h:ie)(c:List ie)(p:Nat)(e:ie)(a:ie):ie:=
 rP (lQ (iv e) e) (.mk 3 0 .empty [] [iF (iF (lJ h (iv e) 0) (c.map λx=>lJ x (iv e) 0)) ((ig (jQ (iv e) e)).2.drop p),oy (iv e) (lJ a (iv e) 0)])
def Em(h:ie)(e:List ie)(p:Nat)(t:ie)(c:List ie)(a:ie):ie:=Mp h e p (o9 c c.length t) a
theorem It(c h):(rP c h).size=ij c+c.length+h.size:=by
 unfold rP
 induction c with
 |nil=>simp[ij]
 |cons x r b=>rw[List.foldr_cons];simp only[ie.size,iG,ij,aj,b];omega
theorem HA:∀(n:Nat) (b:ie),(oy n b).size=b.size+2*n
 |0,b=>rfl
 |n+1,b=>by rw[oy,HA n];simp only[ie.size,iG,ij];omega
theorem yA(n):∀l:List ie,ij (l.map λx=>lJ x n 0)=ij l
 |[]=>rfl
 |a::r=>by simp only[bG,ij,tt,yA n r]
theorem xG(l p):ij (l.drop p)<=ij l:=by
 induction l generalizing p with
 |nil=>simp[ij]
 |cons a r b=>
  cases p with
  |zero=>simp
  |succ p=>have:=b p;simp only[ff,ij];omega
theorem Vx(h c p e a):(Mp h c p e a).size<=8*e.size+h.size+2*ij c+a.size+8:=by
 unfold Mp;have b:=nj (iv e) e;have k:=jx (iv e) e (ae _);have U:=nE _ e (ae _);have i:=mQ _ (jQ (iv e) e) (ae _);have j:=xG (ig (jQ (iv e) e)).2 p;have q:=iJ ((ig (jQ (iv e) e)).2.drop p);have r:=iJ c;rw[It];simp only[ie.size,iG,ij,jG,HA,tt,yA,bc];omega
theorem Wt.o9{e:Sg}{i:List fB}{c:Int}(q:0<=c){given:List ie}(j:∀x∈given,Wt e i x c):∀(n:Nat) {t:ie},n<=given.length->Wt e i t (c+n)->Wt e i (o9 given n t) c:=by
 intro n
 induction n with
 |zero=>intro t _ h;simpa[Go.Proofs.YtndbnldjidciiaaGreatDoor.o9] using h
 |succ n b=>
  intro t k h;rw[Go.Proofs.YtndbnldjidciiaaGreatDoor.o9];refine b O (Wt.sub O (by rw[show c+(n:Int)+1=c+((n+1:Nat):Int) by omega];exact h) ?_);rw[ba,aZ O];exact(j _ (bS _)).Y0 O
theorem Wt.oy{e:Sg}{i:List fB}{c:Int}(j:0<=c):∀(n:Nat) {t:ie} {m:Nat},n<=m->Wt e i t (c+m)->Wt e i (oy n t) (c+m):=by
 intro n
 induction n with
 |zero=>intro t m _ h;exact h
 |succ n b=>
  intro t m k h;rw[Go.Proofs.YtndbnldjidciiaaGreatDoor.oy];exact b O (Wt.app h (Wt.var O O))
theorem AE(c x h):rP (c++[x]) h=rP c (.mk 4 0 .empty [] [x,h]):=by simp[rP]
theorem Wt.rP{j:Sg}{q:List fB}{c:Int}:∀(n:Nat) {b:List ie} {h:ie},b.length=n->(∀ (i:Nat) x,b[i]? =some x->Wt j q x (c+i))->Wt j q h (c+n)->Wt j q (rP b h) c:=by
 intro n
 induction n with
 |zero=>
  intro b h k _ hw;rw[ch k]
  simpa[Go.Proofs.YtndbnldjidciiaaGreatDoor.rP] using hw
 |succ n C=>
  intro b h k s hw;obtain⟨r,y,rfl⟩:∃r y,b=r++[y]:=⟨b.dropLast,b.getLast (by intro e;rw[e] at k;cases k),(eM _).symm⟩;have U:r.length=n:=by simp at k;exact k
  rw[AE];refine C U (λi x z=>s i x (by rw[bl (aJ.1 z).1];exact z)) ?_;refine Wt.bind (.inl rfl) (s n y (by rw[bA O,U,bL];rfl)) ?_;rw[show c+(n:Int)+1=c+((n+1:Nat):Int) by omega];exact hw
theorem Wt.Em{i:Sg}{j:List fB}{c:Int}(r:0<=c){q t a:ie}{h e:List ie}{p:Nat}(s:Wt i j q c)(z:∀x∈h,Wt i j x c)(C:∀x∈e,Wt i j x c)(F:Wt i j a c)(G:Wt i j t (c+e.length)):Wt i j (Em q h p t e a) c:=by
 have k:=Wt.o9 r C e.length (ae _) G;unfold Go.Proofs.YtndbnldjidciiaaGreatDoor.Em Mp;generalize Go.Proofs.YtndbnldjidciiaaGreatDoor.o9 e e.length t=t1 at k ⊢;obtain⟨U,H⟩:=k.yN (iv t1) (ae _);obtain⟨_,_,I,_⟩:=Wt.spine _ (ae _) U;refine Wt.rP (iv t1) (jx _ _ (ae _)) H (Wt.app (Wt.apply (Wt.apply (s.Y0 O) λx b=>?_) λx b=>I x (cF b)) (Wt.oy r _ (ae _) (F.Y0 O)));obtain⟨y,J,rfl⟩:=bD.1 b;exact(z y J).Y0 O
def qt(c:List ie):ie->Int->ie
 | .mk k n s ls args,d=>if n-d<0 then .mk k n s ls args else if n-d<c.length then lJ (c.getD (c.length-1-(n-d).toNat) iu) d 0 else .mk k (n-c.length) s ls args
def oS(t:ie)(c:List ie):ie:=if c=[] then t else ju (qt c) t 0
theorem tK(t c):oS t c=ju (qt c) t 0:=by
 unfold oS;split
 .rename_i h;subst h;refine(CU (λn s ls args j=>?_) t 0).symm;rw[qt];split
  .rfl
  .rw [if_neg (by simp;omega)];simp
 .rfl
theorem pR(h:i<c.length):(c++[v]).getD i iu=c.getD i iu:=by
 rw[ba,ba,bl h]
theorem IH:(c++[v]).getD c.length iu=v:=by
 rw[ba,bA (ae _),bL];rfl
theorem IB(G:ie->Int->ie)(m x j)(z:0<=j)(e:∀n s ls args (i:Int),0<=i->n≥i->ju G (.mk 0 (n+(j+m)) s ls args) (i+j)=.mk 0 (n+j) s ls args)(q:∀n s ls args (i:Int),0<=i->n<i->ju G (.mk 0 n s ls args) (i+j)=.mk 0 n s ls args):
 ju G (lJ x (j+m) 0) j=lJ x j 0:=by
 rw[mZ,mZ];have h:=zG (F:=mr (j+m) 0) (G:=λt i=>G t (i+j)) (H:=mr j 0) (λn s ls args i U=>by
  rw[mr,mr];split
  .rename_i h;have:=e n s ls args i U O;rw[jL] at this;rw[jL];exact this
  .rename_i h;have:=q n s ls args i U O;rw[jL] at this;rw[jL];exact this) x 0 (aP _)
 rw[<- h];have key:∀(n:Nat) (t:ie) (i:Int),t.size<=n->ju G t (i+j)=ju (λt i=>G t (i+j)) t i:=by
  intro n
  induction n with
  |zero=>intro t i h;obtain⟨k,m,s,ls,args,rfl⟩:=ie.case t;simp[ie.size] at h
  |succ n c=>
   intro t i h;obtain⟨k,m,s,ls,args,rfl⟩:=ie.case t
   rw[ju,ju];split
   .rfl
   .congr 1
    simp only[ie.size] at h;have:∀l:List ie,ij l<=n->jm G (decide (4<=k)) l (i+j)=jm (λt i=>G t (i+j)) (decide (4<=k)) l i:=by
     intro l
     induction l with
     |nil=>intro _;simp[jm]
     |cons a r b=>
      intro y;simp only[ij] at y;rw[jm,jm,b O]
      congr 1
      split
      .rw [show i+j+1=(i+1)+j by omega];exact c a _ O
      .exact c a _ O
    exact this args O
 have:=key _ (ju (mr (j+m) 0) x 0) 0 (ae _)
 rwa [dE] at this
theorem O5(c x j)(e:0<=j):ju (qt c) (lJ x (j+c.length) 0) j=lJ x j 0:=by
 refine IB _ c.length x j e (λn s ls args i b h=>?_) λn s ls args i b h=>?_
 .rw [jL,qt,if_neg O,if_neg O]
  congr 1;omega
 .rw [jL,qt,if_pos O]
theorem O6(v x j)(c:0<=j):ju (j6 v) (lJ x (j+1) 0) j=lJ x j 0:=by
 have:=IB (j6 v) 1 x j c (λn s ls args i b h=>by
  rw[jL,j6,if_neg O,if_neg O]
  congr 1;omega) λn s ls args i b h=>by rw[jL,j6,if_pos O]
 simpa using this
theorem OQ(x a i)(c:0<=a)(e:0<=i):lJ (lJ x a 0) i 0=lJ x (i+a) 0:=by
 rw[mZ,mZ,mZ];refine zG (λn s ls args j k=>?_) x 0 (aP _);rw[mr,mr];split
 .rename_i h;rw[jL,mr,if_pos O]
  congr 1;omega
 .rename_i h;rw[jL,mr,if_neg O]
theorem Mg(t v c):oS t (c++[v])=oS (jJ t (lJ v c.length 0)) c:=by
 rw[tK,tK,jJ];refine(zG (λn s ls args j b=>?_) t 0 (aP _)).symm;rw[j6,qt];have U:((c++[v]).length:Int)=c.length+1:=by simp
 split
 .rename_i h;rw[jL,qt,if_pos h]
 .rename_i h;rw[U];split
  .rename_i e;rw[if_pos O,show(n-j).toNat=0 by omega];rw[OQ _ _ _ O b,O5 c v j b];rw[show(c++[v]).length-1-0=c.length by simp,IH]
  .rename_i e;rw[jL,qt,if_neg O];by_cases k:n-1-j<c.length
   .rw [if_pos k,if_pos O];rw[show(c++[v]).length-1-(n-j).toNat=c.length-1-(n-1-j).toNat by simp;omega,pR O]
   .rw [if_neg k,if_neg O]
    congr 1;omega
theorem Mh(C v c):ju (j6 v) (ju (qt c) C 1) 0=oS C (c++[v]):=by
 rw[tK];have key:∀(n:Nat) (t:ie) (i:Int),0<=i->t.size<=n->ju (j6 v) (ju (qt c) t (i+1)) i=ju (qt (c++[v])) t i:=by
  intro n
  induction n with
  |zero=>intro t i _ h;obtain⟨k,m,s,ls,args,rfl⟩:=ie.case t;simp[ie.size] at h
  |succ n x=>
   intro t i y h;obtain⟨k,m,s,ls,args,rfl⟩:=ie.case t
   by_cases e:k=0
   .subst e;rw[jL,jL,qt,qt];have j:((c++[v]).length:Int)=c.length+1:=by simp
    rw[j];by_cases z:m-(i+1)<0
    .rw [if_pos z,jL,j6];by_cases U:m-i<0
     .rw [if_pos U,if_pos U]
     .rw [if_neg U,if_neg U,if_pos O,if_pos O,show(m-i).toNat=0 by omega,show(c++[v]).length-1-0=c.length by simp,IH]
    .rw [if_neg z,if_neg (show ¬m-i<0 by omega)];by_cases U:m-(i+1)<c.length
     .rw [if_pos U,if_pos O,O6 v _ i y];rw[show(c++[v]).length-1-(m-i).toNat=c.length-1-(m-(i+1)).toNat by simp;omega,pR O]
     .rw [if_neg U,if_neg O,jL,j6,if_neg O,if_neg O]
      congr 1;omega
   .rw [ju,if_neg e,ju,if_neg e,ju,if_neg e];simp only[ie.size] at h
    congr 1
    have:∀l:List ie,ij l<=n->jm (j6 v) (decide (4<=k)) (jm (qt c) (decide (4<=k)) l (i+1)) i=jm (qt (c++[v])) (decide (4<=k)) l i:=by
     intro l
     induction l with
     |nil=>intro _;simp[jm]
     |cons a r q=>
      intro j;simp only[ij] at j;rw[jm,jm,jm,ug,q O]
      congr 1
      split
      .exact x a _ O O
      .exact x a _ y O
    exact this args O
 have:=key _ C 0 (aP _) (ae _)
 rwa [dE] at this
theorem y0(c):∀(n:Nat) (t:ie),n<=c.length->o9 c n t=oS t (c.take n):=by
 intro n
 induction n with
 |zero=>intro t _;rw[o9,cj];rfl
 |succ n b=>
  intro t k;rw[o9,b _ O,bo,aZ O];rw[dq,Mg,ba,aZ O];rw[bj,b8 O];rfl
end Go.Proofs.YtndbnldjidciiaaGreatDoor
namespace Go.Vd
variable{σ B C F G GL H I J K M P Pn Q R S T V W X Y a args c cap ds e g g' h hi i j l l' m m' n n0 o o' ob p pl pq q q2 r s sl sl' t ti u v w w' x y z}
open Go Go.RowKit
theorem jE.Rb(h:jE GL B ⟨n,sl,ob⟩ g a w)(V:ob[i]? =some o)(hnm:∀f,o≠ .jc f)(y:g.gs[i]? =some S)
 (J:pV g.m m') (hF:Fz i q ds g ⟨m',g.gs⟩) (hsat:∀c off x,m' c off=some x->w.cell? ⟨c,off,none⟩=some x/\x.oneCell'=true) (M:∀c off,g.m c off=none->(jP o S c->False)->m' c off=none)
 (o2) (hok2:oJ ⟨m',g.gs⟩ w o2 S) (C:∀c,jP o2 S c->jP o S c) (hit2:∀k f dn F,o2≠ .ru k f dn F)
 (hsl:AK i q ds sl=some sl') (hob:AL i q ds ob=some R):jE GL B ⟨n,sl',R.set i o2⟩ ⟨m',g.gs⟩ a w:=by
 have U:=BT hob;have G:=(aJ.1 V).1;have hlen:=h.store.len;have hneb:∀(j:Nat) oj pj c,j≠i->ob[j]? =some oj->g.gs[j]? =some pj->jP oj pj c->jP o S c->False:=λj oj pj c s r z H e=>
  s (h.store.xk j i oj o pj _ c r V z y H e)
 refine⟨h.defers,h.size,λt=>BS hF hsl (h.j9 t),?_,?_⟩
 .refine h.store.step (p:=λj=>j=i) J (λ_ _ h=>h) (λ_ _ _ h=>h) hsat (by simp[U.1,hlen]) (λj o1 s r=>?_) (λj k f dn F r=>?_) (λj k f dn F s r hk=>?_)
   (λj o1 q c s r z H=>⟨rfl,λoff hn=>?_⟩) (λj o1 s r=>?_) (λj o1 q c s r z H=>?_) (λi j oi oj pi pj b hi s _ _ _ _ _ _=>hi.trans s.symm)
  .rw [bg (bd s)] at r;obtain⟨o,W,I⟩:=U.2 j o1 r;exact⟨o,W,(Ob.yh hF I).1⟩
  .by_cases s:j=i
   .subst s;rw[bz (by rw[U.1];exact G)] at r;exact absurd (dy r) (hit2 _ _ _ _)
   .rw [bg (bd s)] at r;obtain⟨o0,W,I⟩:=U.2 j _ r;have e3:=(Ob.yh hF I).2.1 _ _ _ _ rfl;subst e3;have Y:=h.store.th j k f dn F W;have hk:k≠i:=λe=>by subst e;rw[V] at Y;cases Y;exact hnm f rfl
    rw[bg (bd hk)];have hkl:=(aJ.1 Y).1;obtain⟨o5,e5,e6⟩:=U.2 k R[k] (by simp[U.1,hkl]);rw[Y] at e5;cases e5;rw[aZ (by rw[U.1];exact hkl),(Ob.yh hF e6).2.2 f rfl]
  .rw [bg (bd s)] at r;obtain⟨o0,W,I⟩:=U.2 j _ r;have e3:=(Ob.yh hF I).2.1 _ _ _ _ rfl;subst e3 hk;have Y:=h.store.th j k f dn F W;rw[V] at Y;cases Y;exact hnm f rfl
  .exact M c off hn (hneb j o1 q c s r z H)
  .subst s;rw[bz (by rw[U.1];exact G)] at r;cases r;exact⟨_,y,hok2⟩
  .subst s;rw[bz (by rw[U.1];exact G)] at r;cases r;simp only at z;rw[y] at z;cases z;exact .inl ⟨_,_,_,rfl,V,y,C _ H⟩
 .refine h.pG.step (X:=λc=>jP o S c) (Fr.refl _ w) (λc e=>h.pG.own i _ _ c V y e) J (λc off x hx hn=>?_) (λj o1 p c r z H=>?_) (λ_ _ h=>h)
  .refine .inl (dj λhc=>?_);have:=M c off hn hc;simp only at hx;rw[this] at hx;cases hx
  .by_cases s:j=i
   .subst s;rw[bz (by rw[U.1];exact G)] at r;cases r;simp only at z;rw[y] at z;cases z;exact .inl (h.pG.own _ _ _ _ V y (C _ H))
   .rw [bg (bd s)] at r;obtain⟨o0,W,I⟩:=U.2 j o1 r;refine .inl (h.pG.own j o0 p c W z ?_);cases o0<;>simp only[Ob.fz,ai,an] at I
    case cells l ty=>obtain⟨l',_,rfl⟩:=I;cases p<;>exact H
    all_goals (subst I;exact H)
theorem jE.afj(h:jE GL B ⟨n,sl,ob⟩ g a w){k:Nat}(V:ob[i]? =some (.buf e k s pq))(ht:oV t sl=some (.arr i s.length))
 (W:AK i (some (k,s)) [] sl=some H) (Y:AL i (some (k,s)) [] ob=some I):∃g',jE GL B ⟨n,(t,.own i k s)::H,I.set i (.row e k)⟩ g' a w:=by
 obtain⟨pl,U⟩:=h.store.place V;have hok:=h.store.qM _ _ _ V U;have hv:(SV.arr i s.length).Den g (a.tmps.getD t undef):=by rw[<- ou ht];exact h.j9 t
 have key:∀{m':Mem} {b:Option Nat} {c:Nat},jE GL B ⟨n,H,I.set i (.row e k)⟩ ⟨m',g.gs⟩ a w->g.gs[i]? =some (.row b c s.length)->s.length<=c->(s≠[]->∃d,b=some d/\nT m' k d 0 s)->jE GL B ⟨n,(t,.own i k s)::H,I.set i (.row e k)⟩ ⟨m',g.gs⟩ a w:=λJ G M hd=>by
  refine⟨J.defers,J.size,λt'=>?_,J.store,J.pG⟩;rw[n5];split
  .rename_i e;subst e;obtain⟨b',cap,h1,h2⟩:=hv;rw[G] at h1;cases h1;exact⟨_,_,G,h2,M,hd⟩
  .exact J.j9 t'
 cases pl with
 |loc b=>exact hok.elim
 |row b c m=>
  obtain⟨hm,hl,⟨xs,j,hdx,h1x⟩,hmn⟩:=AV h.store V U;subst hm;cases b with
  |none=>
   have hm0:s.length=0:=by
    rcases j.2 with⟨_,h2⟩|⟨g0,c0,cur,h2,_⟩
    .exact h2
    .cases h2
   have R:s=[]:=bE.1 hm0;refine⟨⟨g.m,g.gs⟩,key (h.Rb (q:=some (k,s)) (ds:=[]) V (λf e=>by cases e) U (pV.refl _) ⟨pV.refl _,λ_ _ h=>h,λb G=>trivial,λr n y J hd=>?_⟩ h.store.sat (λ_ _ h _=>h) (.row e k) ⟨⟨xs,j⟩,λc M=>by cases M⟩ (λc M=>M) (λ_ _ _ _ e=>by cases e) W Y) U O λh=>absurd R h⟩;cases J;obtain⟨b',cap,G,e⟩:=hd;rw[U] at G;cases G;exact⟨none,c,by rw[e,R];rfl,by simp[R],λh=>absurd R h⟩
  |some b=>
   have z:=zw (b:=b) j;have C:pV g.m (oQ g.m b xs):=pV.set λoff x F=>by rw[hmn b rfl] at F;cases F
   have S:nT (oQ g.m b xs) k b 0 s:=x7 hl (nk.mono C _ hdx) λi x F=>by
    show oQ _ _ _ _ _=_;unfold oQ;rw[if_pos rfl,bU];exact F
   refine⟨⟨oQ g.m b xs,g.gs⟩,key (h.Rb (q:=some (k,s)) (ds:=[]) V (λf e=>by cases e) U C ⟨C,λ_ _ h=>h,λb G=>trivial,λr n y J hd=>?_⟩ (λc' off x F=>?_) (λc' off hn M=>?_) (.row e k) ⟨⟨xs,j⟩,λd hd o hlo=>?_⟩ (λc M=>M) (λ_ _ _ _ e=>by cases e) W Y) U z.1 λ_=>⟨b,rfl,S⟩⟩
   .cases J;obtain⟨b',cap,G,e⟩:=hd;rw[U] at G;cases G;exact⟨some ⟨b,0,none⟩,c,by rw[e];rfl,z.1,λ_=>⟨b,0,rfl,S⟩⟩
   .simp only[oQ] at F;by_cases hcb:c'=b
    .subst hcb;rw[if_pos rfl] at F;exact⟨z.2 off x F,h1x x (aO F)⟩
    .rw [if_neg hcb] at F;exact h.store.sat c' off x F
   .unfold oQ;rw[if_neg (λe=>M (by rw[e];rfl))];exact hn
   .cases hd;show oQ _ _ _ _ _=_;unfold oQ;have hxl:=j.1;rw[if_pos rfl,cW O]
theorem LC(i t)(M:jo i z=some (.buf e W s J))(R:oV t y=some (.arr i s.length))(C:AK i (some (W,s)) [] y=some j)(F:AL i (some (W,s)) [] z=some q)(x:pD i (.row e W) q=some r)
 (h:iL P G H I c l Q ⟨n,(t,.own i W s)::j,r⟩):iL P G H I c l Q ⟨n,y,z⟩:=λB U a w ⟨g,S⟩=>by
 obtain⟨V,b⟩:=S.afj (iS M) R C F;rw[<- (nL x).1] at b;exact h B U a w ⟨V,b⟩
theorem AN(h:P.underlying T=some (.slice (iH P T).elem))(i:o.op=.call { callee:=.builtin .cap,args:= #[x],argTypes:= #[T] })
 (j:jb e σ.sl x=some (.d (.v (.slice none n c)))) (q:K (fE c) []):ik P e o σ K:=nG λB g a w b=>by
 have k:a.eval x=.slice none n c:=b.oe j;exact⟨fE c,.int .i64 c,λU=>by simp[execOp,i,k,resolve,invoke,builtin,Builtin.cap_,run_underlying h,goInt],rfl,q⟩
theorem Kl(s:P.underlying T=some (.slice (iH P T).elem))(z:iH P (iH P T).elem=r)(e:r.ok=true)
 (C:o.op=.slice T x none (some j) none) (F:jb h σ.sl x=some fK) (G:jb h σ.sl j=some (.d (.v (.int q 0)))) (H:K fK []):ik P h o σ K:=nG λB g a w k=>by
 have U:a.eval x=.slice none 0 0:=k.oe F;have I:a.eval j=.int q 0:=k.oe G;rw[<- z] at e;obtain⟨J,d,b,M,R,_⟩:=Be e;refine⟨fK,.slice none 0 0,λS=>?_,rfl,H⟩;simp only[execOp,C,U,I,bH,dK,Sem.run_bind];have V:=tw (P:=P) (kd:=q) (i:=0) (y:=0) (c:=.sliceAcap) O O S;simp[Instr.sliceAt,Instr.slice,run_underlying s,Instr.sliceBounds,V,sizeOf,typeInfo,b]
theorem Pq(e:wB P T=true)(h:o.op=.makeInterface T x)(i:jb c σ.sl x=some s)(j:s.p9=some r)(q:K (.d (.uU T r)) []):ik P c o σ K:=nG λB g a w b=>
 ⟨.d (.uU T r),.iface T (a.eval x),λk=>by simp only[execOp,h,Sem.run_bind,CG e,Result.andThen_ok,Sem.run_pure],⟨_,rfl,SV.Den.p9 _ (b.oe i) j⟩,q⟩
def Vr:D->Bool
 | .cp _=>true
 |_=>false
def PtD(X:D):Prop:=X=.v (.pointer none)\/∃l,X=.cp l
theorem SZ(h:P.underlying T=some (.pointer e))(i:o.op=.binOp .eql T x (.const (.pointer none)) r)(j:jb c σ.sl x=some (.d X))(s:PtD X)(q:K (fH (!Vr X)) []):ik P c o σ K:=by
 rcases s with rfl|⟨l,rfl⟩
 .exact DW h i j q
 .exact Gs h i j q
theorem Ci:Builtin.zeroCells z n=madeCells z (n*z.size):=rfl
theorem Ef(t u r e:TypeId)(i:TypeInfo)(z:Value)(s:P.underlying t=some (.slice e))(x:P.underlying u=some (.int .i64))(y:P.info? e=some i)(C:i.zero=some z)(n:Nat)(q:0<n)(c:(n:Int)<=9223372036854775807)(F:n*i.bytes<=281474976710656)(j:0<i.size)(w:World):
 (Builtin.append_ #[t,u] r #[.slice none 0 0,.int .i64 n]).run P w=
  .ok (.slice (some ⟨w.heap.size,0,none⟩) n (grownCap w n 0 e)) (w.drew.alloc (.cells (Builtin.zeroCells z.cells n++Builtin.zeroCells z.cells (grownCap w n 0 e-n)) e)):=by
 have U:n≠0:=O;have b:¬(9223372036854775807<(n:Int)):=O;have k:¬(281474976710656<Builtin.nextslicecap n 0*i.bytes):=by rw[nextslicecap_zero q];omega
 have hw:IntKind.i64.wrap (n:Int)=n:=KL O c;have G:¬(n:Int)<0:=O;have H:¬(281474976710656<(n:Int)*i.bytes):=by
  have:((n*i.bytes:Nat):Int)<=281474976710656:=O;rw[eI] at this;omega
 have I:n≠0/\i.size≠0:=⟨U,O⟩;simp[Builtin.append_,run_underlying s,run_underlying x,sizeOf,typeInfo,zeroValue,y,C,asInt,asIntOf,hw,G,H,U,b,k,I,Question.forced,run_firstCells_none,newRow,grownCap];intro h;exact absurd h (Nat.ne_of_gt (Nat.mul_pos q j))
theorem OF{ty:TypeId}(TS:rX P ty e q y)(hU:P.underlying u=some (.int .i64))(hT:iH P e=ti)(ho:o.op=.call { callee:=.builtin .append,args:= #[s,x],argTypes:= #[ty,u] })
 (hd:o.dst=some t) (ht:Nat.blt t n=true) (hs:jb GL sl s=some fK) (S:jb GL sl x=some (fE (c:Nat))) (F:ti.zero.all (·.oneCell')=true) (hl:J.length=j) (hb:0<c/\0<q/\c*y<=281474976710656/\c<=maxLen) (hob:pY J [.buf e q (List.replicate c (ti.zero.map D.v)) none]=some R)
 (h:K ⟨n,(t,.arr j c)::sl,R⟩):jI P GL n0 Pn T o ⟨n,sl,J⟩ K:=λB hB g a w V next Q hK hP=>by
 subst hl hT;obtain⟨hb0,hb1,hb2,W⟩:=hb;rw[nM hob] at h;have U:=TS.info;have k:=TS.zero;cases hi:P.info? e with
 |none=>simp[hi] at U
 |some i=>
 rw[hi] at U k;simp only[bH,an,bW,cw] at U k;cases hz:i.zero with
 |none=>simp[hz] at k
 |some z=>
 rw[hz] at k;simp only[bH,an] at k;obtain⟨q1,q2⟩:=U;have hze:(iH P e).zero=z.cells.toList:=by simp[iH,hi,hz]
 rw[hze] at h F;have hse:a.eval s=.slice none 0 0:=V.oe hs;have hxe:a.eval x=.int .i64 (c:Nat):=V.oe S;have C:=Ef (P:=P) ty u o.type e i z TS.under hU hi hz c hb0 (by simp only[maxLen] at W;omega) (by rw[q2];exact hb2) O w;have Y:=grownCap_ge w c 0 e;have hcm:grownCap w c 0 e<=maxLen:=grownCap_le_maxLen w c 0 e W;generalize hcap:grownCap w c 0 e=cap at C Y hcm;have G:(execOp a.eval o).run P w=.ok (.value (.slice (some ⟨w.heap.size,0,none⟩) c cap)) (w.drew.alloc (.cells (Builtin.zeroCells z.cells c++Builtin.zeroCells z.cells (cap-c)) e)):=by
  simp[execOp,ho,hse,hxe,resolve,invoke,builtin,C]
 unfold Oper.wp;rw[G];show next (a.put o.dst _) _
 rw[hd];have hm0:∀o,g.m w.heap.size o=none:=λo=>by
  cases S:g.m w.heap.size o with
  |none=>rfl
  |some x=>have:=V.store.rB S;omega
 have H:∀u∈z.cells.toList,u.oneCell'=true:=λu M=>List.all_eq_true.1 F u M
 have I:((List.replicate c (z.cells.toList.map D.v)).flatten)=((List.replicate c z.cells.toList).flatten).map D.v:=by
  rw[List.map_flatten,fc]
 have hdv:∀l:List Value,nk g.m (l.map D.v) l:=λl=>by
  induction l with
  |nil=>rfl
  |cons x r ih=>exact⟨x,r,rfl,rfl,ih⟩
 have hzl:(List.replicate c z.cells.toList).flatten.length=c*q:=by
  have:=congrArg List.length (CV k c);rw[<- this];simp[size_madeCells]
 have hown:(w.drew.alloc (.cells (Builtin.zeroCells z.cells c++Builtin.zeroCells z.cells (cap-c)) e)).ownsRow 0 e q (.slice (some ⟨w.heap.size,0,none⟩) c cap) c (List.replicate c z.cells.toList).flatten:=by
  refine⟨hzl,.inr ⟨w.heap.size,_,_,rfl,ak _,heap_alloc_new w.drew _,Y,hcm,?_,?_⟩⟩
  .rw [Array.size_append,Ci,Ci,size_madeCells,size_madeCells,k,<-bQ];congr 1;omega
  .rw [eD,Ci,k,CV k,<-hzl];exact cE
 obtain⟨h1,h2⟩:=V.Eh (w':=w.drew.alloc (.cells (Builtin.zeroCells z.cells c++Builtin.zeroCells z.cells (cap-c)) e)) (((Fr.refl _ w).drew).alloc _) (pV.refl _) (λb o x h1 h2=>by rw[h2] at h1;cases h1) (o':=.buf e q (List.replicate c (z.cells.toList.map D.v)) none) (pl:=.row (some w.heap.size) cap c)
  ⟨by simp,λx S=>by rw[(eJ.1 S).2];simpa using k,⟨_,hown,by rw[I];exact hdv _,λu M=>by
   obtain⟨l,hl,M⟩:=List.mem_flatten.1 M;rw[(eJ.1 hl).2] at M;exact H u M⟩,(λc hc o=>by cases hc;exact hm0 o),λr e=>by cases e⟩ (λb hb=>by simp only[jP,np,an] at hb;omega) (λi f dn cur e=>by cases e)
 refine hK _ _ _ _ (h1.wQ (s:=.arr J.length c) ht ⟨some w.heap.size,cap,?_,rfl⟩) ⟨h2.1,λi b o _=>h2.2 i b o (λx=>x)⟩ h;show(g.gs++[_])[J.length]? =_;have hl2:J.length=g.gs.length:=V.store.len;rw[hl2];simp
end Go.Vd
namespace Go.Proofs.YtndbnldjidciiaaGreatDoor
variable{ι A B B' C F G H I J L M N P R S T V W X Y a a6 args at' az c cty e es first fr g gl h h' hi i j k2 l l3 l4 m m3 m4 most n n0 o ob' p pl pq q q' q2 r rp rs rt s s3 s4 sl sx t u us v w w' x y z}
open Go Go.Vd Go.RowKit
section
attribute [local irreducible] iK iL jI ik iW jH
theorem E1:∀{C:List ie} {i:Nat} {t:ie},(im C).set i t.cells=im (C.set i t)
 |[],i,t=>by simp[im]
 |a::r,0,t=>by simp[im]
 |a::r,i+1,t=>by simp[im,E1]
def Uy(L C:List ie)(i:Nat):Prop:=C.length=L.length/\∀x,x<L.length->C[x]? =if x<i\/L.length<=x+i then L[L.length-1-x]? else L[x]?
theorem Sk(L):Uy L L 0:=⟨rfl,λx b=>by rw[if_neg O]⟩
theorem HZ(h:Uy L C i)(y:i+1<L.length-i)(z:C[i]? =some c)(F:C[L.length-1-i]? =some e):Uy L ((C.set i e).set (L.length-1-i) c) (i+1):=by
 obtain⟨U,b⟩:=h;refine⟨by simpa using U,λx G=>?_⟩;have j:=b i O;have q:=b (L.length-1-i) O;rw[if_neg O] at j q;rw[List.getElem?_set,List.getElem?_set,da,U];by_cases r:L.length-1-i=x
 .rw [if_pos r,if_pos O,if_pos O,show L.length-1-x=i by omega,<-j,z]
 .rw [if_neg r];by_cases k:i=x
  .rw [if_pos k,if_pos O,if_pos O,<-k,<-q,F]
  .rw [if_neg k,b x G];by_cases s:x<i\/L.length<=x+i
   .rw [if_pos s,if_pos O]
   .rw [if_neg s,if_neg O]
theorem Ux(h:Uy L C i)(c:¬(i:Int)<(L.length:Int)-1-i):C=L.reverse:=by
 obtain⟨e,U⟩:=h;apply eX;intro x;by_cases b:x<L.length
 .rw [U x b,List.getElem?_reverse b];by_cases k:x<i\/L.length<=x+i
  .rw [if_pos k]
  .rw [if_neg k,show L.length-1-x=x by omega]
 .rw [cW O,cW (by simp;omega)]
theorem Bq(L)(F:L.length<=1099511627776):jT fC gl 133 [.buf 39 5 (im L) pq] [.arr 0 (im L).length] λout ob'=>out=.ret (.d (.jj []))/\ob'=[.buf 39 5 (im L.reverse) pq]:=by
 have x:=ir L;refine nR Tryz.func133 28 1 ?_;refine rF 3 ?_;refine o1 (qg iQ rfl rfl ?_);refine sH 0 ?_;refine pt 5 (ι:=Nat×List ie) (λ⟨i,C⟩=>[(2,int i),(3,int ((im L).length-1-i))]) (λ⟨i,C⟩=>[.buf 39 5 (im C) pq]) [0] (λ⟨i,C⟩=>Uy L C i/\i<=L.length) (λ⟨i,C⟩=>L.length-i) ((0,L)) ([0]) ⟨Sk L,ak _⟩ ?_ (hM:=by exact oL (iU (j8 rfl (by exact Fit.of_eq (by rw[show((0:Nat):Int)=0 from rfl,Int.sub_zero];rfl)))));rintro⟨i,C⟩ b
 try dsimp only at b
 refine j7 8 ?_ ?_<;>intro G
 .refine rF 4 ?_;refine fM ?_;refine tL (l:=[]) rfl rfl ([0]) ([.buf 39 5 (im C) pq]) rfl rfl rfl ?_ ?_
  .repeat (first|exact nw|refine Nz ?_)
  .rw [Ux b.1 (by rw[<- x];omega)];exact⟨rfl,rfl⟩
 have y:=b.1.1;have z:=ir C;obtain⟨k1,e,s1,l1,a1,U⟩:=iZ (show i<C.length by omega);obtain⟨k2,k,s2,l2,a2,c⟩:=iZ (show L.length-1-i<C.length by omega);have s:(((im L).length:Int)-1-i).toNat=L.length-1-i:=O;have h:=jr U;have j:(im C)[(((im L).length:Int)-1-i).toNat]? =some [fD k2,fD k,fG s2,.sl 3 (iR l2),.sl 5 (im a2)]:=by rw[s,rm c];rfl
 have q:(im C).set i [fD k2,fD k,fG s2,.sl 3 (iR l2),.sl 5 (im a2)]=im (C.set i (.mk k2 k s2 l2 a2)):=E1 (t:=.mk k2 k s2 l2 a2);have r:(im (C.set i (.mk k2 k s2 l2 a2))).set (L.length-1-i) [fD k1,fD e,fG s1,.sl 3 (iR l1),.sl 5 (im a1)]=im ((C.set i (.mk k2 k s2 l2 a2)).set (L.length-1-i) (.mk k1 e s1 l1 a1)):=E1 (t:=.mk k1 e s1 l1 a1);refine ma 4 [0,1,2,3,4,5] mixed ?_;refine A1 6 rfl (mH iQ iY rfl rfl rfl rfl rfl rfl O ⟨_,rfl,?_⟩);refine ga [8,9] ?_;refine A1 10 rfl (mH iQ iY rfl rfl rfl rfl rfl rfl O ⟨_,rfl,?_⟩);refine ki (rs:=[7,11]) gN rfl ⟨?_,?_,trivial⟩
 .skip
  refine A4 (T:=λ_=>False) 7 rfl (tC jz rfl rfl rfl rfl rfl rfl rfl rfl rfl (j) ?_);refine A2 (T:=λ_=>False) 11 rfl (tC jz rfl rfl rfl rfl rfl rfl rfl rfl rfl (h) ?_);refine A1 12 rfl (mH iQ iY rfl rfl rfl rfl rfl rfl O ⟨_,rfl,?_⟩);refine A2 13 rfl (o6 jz rfl rfl rfl rfl rfl rfl rfl rfl rfl rfl rfl rfl ⟨rfl,O⟩ rfl ?_);refine A1 14 rfl (mH iQ iY rfl rfl rfl rfl rfl rfl O ⟨_,rfl,?_⟩);refine A2 15 rfl (o6 jz rfl rfl rfl rfl rfl rfl rfl rfl rfl rfl rfl rfl ⟨rfl,by(simp only[da,ir];omega)⟩ rfl ?_);refine iB<|jS 4 ?_;refine sH 1 ?_;refine rF 3 ?_;simp only[cb];rw[s,q,r];refine ml 0 ((i+1,(C.set i (.mk k2 k s2 l2 a2)).set (L.length-1-i) (.mk k1 e s1 l1 a1))) [0] ⟨⟨HZ b.1 O U c,O⟩,O⟩ (hM:=by exact oL (iU (j8 rfl (by exact Fit.of_eq (by rw[show((i+1:Nat):Int)=(i:Int)+1 by omega,show((im L).length:Int)-1-((i:Int)+1)=(im L).length-1-i-1 by omega];rfl)))))
 .skip
  refine A4 (T:=λ_=>False) 11 rfl (tC jz rfl rfl rfl rfl rfl rfl rfl rfl rfl (h) ?_);refine A2 (T:=λ_=>False) 7 rfl (tC jz rfl rfl rfl rfl rfl rfl rfl rfl rfl (j) ?_);refine A1 12 rfl (mH iQ iY rfl rfl rfl rfl rfl rfl O ⟨_,rfl,?_⟩);refine A2 13 rfl (o6 jz rfl rfl rfl rfl rfl rfl rfl rfl rfl rfl rfl rfl ⟨rfl,O⟩ rfl ?_);refine A1 14 rfl (mH iQ iY rfl rfl rfl rfl rfl rfl O ⟨_,rfl,?_⟩);refine A2 15 rfl (o6 jz rfl rfl rfl rfl rfl rfl rfl rfl rfl rfl rfl rfl ⟨rfl,by(simp only[da,ir];omega)⟩ rfl ?_);refine iB<|jS 4 ?_;refine sH 1 ?_;refine rF 3 ?_;simp only[cb];rw[s,q,r];refine ml 0 ((i+1,(C.set i (.mk k2 k s2 l2 a2)).set (L.length-1-i) (.mk k1 e s1 l1 a1))) [0] ⟨⟨HZ b.1 O U c,O⟩,O⟩ (hM:=by exact oL (iU (j8 rfl (by exact Fit.of_eq (by rw[show((i+1:Nat):Int)=(i:Int)+1 by omega,show((im L).length:Int)-1-((i:Int)+1)=(im L).length-1-i-1 by omega];rfl)))))
theorem uN(e c):jA fC gl 72 [fD e,.sl 5 (im c)] (· =(ie.mk e 0 .empty [] c).d):=by
 refine oN Tryz.func72 8 ?_;refine v8 14 ((ie.mk e 0 .empty [] c).d) ?_;rfl
theorem GM(C m:Int)(s:fB)(j:List iq)(c:List ie)(e:List ie)(y:e.length<=1099511627776):
 jA fC gl 69 [(ie.mk C m s j c).d,.sl 5 (im e)] (· =(iF (.mk C m s j c) e).d):=by
 have x:=ir e;refine oN Tryz.func69 19 ?_;refine pt 15 (ι:=Nat×(Int×Int×fB×List iq×List ie)) (λ⟨i,⟨k1,U,s1,l1,a1⟩⟩=>[(9,int i)]) (λ⟨i,⟨k1,U,s1,l1,a1⟩⟩=>[.cells [fE k1,fE U,fI s1,.d (.sl 3 (iR l1)),.d (.sl 5 (im a1))] 39,.cells [fE 0,fE 0,fI .empty,fK,fK] 39]) [8,7,4,2] (λ⟨i,⟨k1,U,s1,l1,a1⟩⟩=>i<=e.length/\iF (.mk C m s j c) (e.take i)=.mk k1 U s1 l1 a1) (λ⟨i,⟨k1,U,s1,l1,a1⟩⟩=>e.length-i) ((0,⟨C,m,s,j,c⟩)) ([0,1]) ⟨ak _,rfl⟩ ?_;rintro⟨i,⟨k1,U,s1,l1,a1⟩⟩ b
 try dsimp only at b
 refine j7 6 ?_ ?_<;>intro z
 .refine v8 12 ((ie.mk k1 U s1 l1 a1).d) ?_;rw[<- b.2,aS O]
 obtain⟨k2,r,s2,l2,a2,h⟩:=iZ (show i<e.length by omega);have q:=uN (gl:=gl) 3 [.mk k1 U s1 l1 a1,.mk k2 r s2 l2 a2];refine ni 6 iQ iY ?_ (hat:=(jr h));refine oR 8 mN [.tmp 13,.tmp 14] jz ?_;refine ny 0 q ?_;refine jS 5 ?_;refine ml 2 (i+1,⟨3,0,.empty,[],[.mk k1 U s1 l1 a1,.mk k2 r s2 l2 a2]⟩) [0,1] ?_;exact⟨⟨O,by rw[ph h,b.2]⟩,show e.length-(i+1)<e.length-i by omega⟩
theorem Zn(n):jA fC c 117 [fD n] (· =(ie.mk 0 n .empty [] []).d):=by
 refine oN Tryz.func117 5 ?_;refine v8 13 ((ie.mk 0 n .empty [] []).d) ?_;rfl
theorem UM{k:Int}(M:jQ i T=.mk k m s e c)(hi:i+iv (.mk k m s e c)=iv T)(R:oD B (.mk k m s e c))(z:k=5):
 ∃C F G H I U h j q r,c=[.mk C F G H I,.mk U h j q r]/\oD B (.mk U h j q r)/\i+1+iv (.mk U h j q r)=iv T/\iv (.mk k m s e c)=iv (.mk U h j q r)+1/\lQ (i+1) T=lQ i T++[.mk C F G H I]/\jQ (i+1) T=.mk U h j q r:=by
 obtain⟨k1,S,s1,l1,a1,k2,J,s2,l2,a2,rfl,V,x⟩:=Oc R (.inr (.inr z));have W:iv (.mk k m s e [.mk k1 S s1 l1 a1,.mk k2 J s2 l2 a2])=iv (.mk k2 J s2 l2 a2)+1:=by rw[iv,if_pos z]
 obtain⟨m6,s6,l6,a,b,y,Y,g3,g4⟩:=oX i T O;rw[M] at y;simp only[ie.mk.injEq,List.cons.injEq,and_true] at y;obtain⟨_,_,_,_,rfl,rfl⟩:=y;exact⟨_,_,_,_,_,_,_,_,_,_,rfl,x,O,W,g3,Y⟩
theorem zy(i:¬j=5):iv (.mk j m s h e)=0:=by
 match e with
 |[a,b]=>rw[iv,if_neg i]
 |[]=>rfl
 |[a]=>rfl
 |a::b::c::r=>rfl
theorem x9(k n s e c)(V:oD B (.mk k n s e c))(W:iv (.mk k n s e c)<=1099511627776):
 jA fC gl 137 [(ie.mk k n s e c).d,fD 5,fD (-1)] (· =.jj [.sl 5 (im (lQ (iv (.mk k n s e c)) (.mk k n s e c))),(jQ (iv (.mk k n s e c)) (.mk k n s e c)).d]):=by
 refine oN Tryz.func137 32 ?_;refine rF 14 ?_;refine iP 39 5 rfl<|pt 0 (ι:=Nat×Int×Int×fB×List iq×List ie) (λ⟨i,k1,U,s1,l1,a1⟩=>[(8,.own 2 5 (im (lQ i (.mk k n s e c))))]) (λ⟨i,k1,U,s1,l1,a1⟩=>[tO k1 U s1 l1 a1,zO,.row 39 5]) [7,3,1,2] (λ⟨i,k1,U,s1,l1,a1⟩=>i+iv (.mk k1 U s1 l1 a1)=iv (.mk k n s e c)/\jQ i (.mk k n s e c)=.mk k1 U s1 l1 a1/\oD B (.mk k1 U s1 l1 a1)) (λ⟨i,k1,U,s1,l1,a1⟩=>iv (.mk k1 U s1 l1 a1)) ((0,k,n,s,e,c)) ([0,1,2]) ⟨O,rfl,V⟩ ?_ (hM:=by exact oL (j8 rfl (by exact Fit.nil rfl)));rintro⟨i,k1,U,s1,l1,a1⟩ b
 try dsimp only at b
 refine xP 8 17 13 4 ?_;refine j7 2 ?_ ?_<;>intro h2
 .have Y:iv (.mk k1 U s1 l1 a1)=0:=zy O;obtain rfl:i=iv (.mk k n s e c):=O;have hE:=b.2.1;refine ma 6 [0,1,2] mixed ?_;refine nO 3 ?_;refine iB<|v8 2 (.jj [.sl 5 (im (lQ (iv (.mk k n s e c)) (.mk k n s e c))),(ie.mk k1 U s1 l1 a1).d]) ?_;rw[hE]
 obtain⟨H,I,J,M,R,h,j,q,r,x,rfl,y,z,hq2,C,F⟩:=UM b.2.1 b.1 b.2.2 O;have hxl:=jx i (.mk k n s e c) O;have S:=ir (lQ i (.mk k n s e c));have G:im (lQ i (.mk k n s e c))++[[fD H,fD I,fG J,.sl 3 (iR M),.sl 5 (im R)]]=im (lQ (i+1) (.mk k n s e c)):=(by rw[C,ll];rfl);refine ni 8 iQ iY ?_ (hat:=rfl);refine oR 1 mN [.tmp 23] jz ?_;refine oc (ya mN ?_);refine ni 6 iQ iY ?_ (hat:=rfl);refine rF 4 ?_;rw[G];refine ml 0 (i+1,h,j,q,r,x) [0,1,2] ?_;exact⟨⟨z,F,y⟩,show iv (ie.mk h j q r x)<iv (ie.mk k1 U s1 l1 [.mk H I J M R,.mk h j q r x]) by omega⟩
theorem TA(R n s q c e)(J:e.length<=1099511627776):
 jA fC gl 141 [fD 4,.sl 5 (im e),(ie.mk R n s q c).d] (· =(rP e (.mk R n s q c)).d):=by
 have G:=ir e;refine oN Tryz.func141 24 ?_;refine sH 11 ?_;refine pt 4 (ι:=Nat×Int×Int×fB×List iq×List ie) (λ⟨r,k1,U,s1,l1,a1⟩=>[(7,int ((r:Int)-1))]) (λ⟨r,k1,U,s1,l1,a1⟩=>[tO k1 U s1 l1 a1,zO]) [6,5,0,1] (λ⟨r,k1,U,s1,l1,a1⟩=>r<=e.length/\rP e (.mk R n s q c)=rP (e.take r) (.mk k1 U s1 l1 a1)) (λ⟨r,k1,U,s1,l1,a1⟩=>r) ((e.length,R,n,s,q,c)) ([0,1]) ⟨ae _,by rw[bT]⟩ ?_ (hM:=by exact oL (j8 rfl (by exact Fit.of_eq (by rw[G];rfl))));rintro⟨r,k1,U,s1,l1,a1⟩ b
 try dsimp only at b
 refine j7 7 ?_ ?_<;>intro M
 .obtain rfl:r=0:=O;have I:=b.2;rw[cj] at I;refine v8 12 ((ie.mk k1 U s1 l1 a1).d) ?_;rw[I];rfl
 obtain⟨x,y,z,C,F,h⟩:=iZ (show r-1<e.length by omega);have i:(im e)[((r:Int)-1).toNat]? =some [fD x,fD y,fG z,.sl 3 (iR C),.sl 5 (im F)]:=(by rw[show((r:Int)-1).toNat=r-1 by omega,rm h];rfl);have H:=uN (gl:=gl) 4 [.mk x y z C F,.mk k1 U s1 l1 a1];refine ma 4 [0,1,2] mixed ?_;refine pQ 3 iQ iY ?_ (hat:=i);refine ga [4,5] ?_;refine A2 6 rfl (CW mN [.tmp 19,.tmp 20] jz ?_);refine qB 7 H ?_;refine nO 8 ?_;refine iB<|sH 4 ?_;refine rF 2 ?_;refine bk ((r-1,4,0,.empty,[],[.mk x y z C F,.mk k1 U s1 l1 a1])) rfl ?_ ([0,1]) ?_
 .obtain ⟨j,rfl⟩:∃j,r=j+1:=⟨r-1,O⟩;refine⟨⟨O,?_⟩,show j+1-1<j+1 by omega⟩;rw[b.2,bo,show e[j]? =some (.mk x y z C F) from h];exact AE _ _ _
 .refine mo ?_ (yu rfl (by exact Fit.of_eq (by show SV.d (D.v (Value.int .i64 ((r:Int)-1-1)))=SV.d (D.v (Value.int .i64 (((r-1:Nat):Int)-1)));rw[show((r-1:Nat):Int)=(r:Int)-1 by omega])) (iU (iU (iU (iU rA)))))
  repeat (first|exact nw|refine jN ?_)
def svT:ie->SV
 | .mk k n s ls args=>.agg [.d (.v (.int .i64 k)),.d (.v (.int .i64 n)),.d (.v (.string s)),.d (.sl 3 (iR ls)),.d (.sl 5 (im args))]
theorem DA(k m s i c)(I:zX (.mk k m s i c))(V:(ig (.mk k m s i c)).2.length<=1099511627776):
 jA fC gl 107 [(ie.mk k m s i c).d] (· =.jj [(ig (.mk k m s i c)).1.d,.sl 5 (im (ig (.mk k m s i c)).2)]):=by
 refine oN Tryz.func107 23 ?_;refine rF 14 ?_;refine iP 39 5 rfl<|pt 0 (ι:=(Int×Int×fB×List iq×List ie)×List ie) (λ⟨⟨k1,h,s1,l1,a1⟩,b⟩=>[(4,.arr 2 (im b).length)]) (λ⟨⟨k1,h,s1,l1,a1⟩,b⟩=>[tO k1 h s1 l1 a1,zO,.buf 39 5 (im b) none]) [2,1] (λ⟨⟨k1,h,s1,l1,a1⟩,b⟩=>zX (.mk k1 h s1 l1 a1)/\ig (.mk k m s i c)=((ig (.mk k1 h s1 l1 a1)).1,(ig (.mk k1 h s1 l1 a1)).2++b.reverse)) (λ⟨⟨k1,h,s1,l1,a1⟩,b⟩=>(ie.mk k1 h s1 l1 a1).size) ((⟨k,m,s,i,c⟩,[])) ([0,1,2]) ?I4 ?H4 (hM:= ?M4)
 case I4=>
  exact⟨I,by simp⟩
 case M4=>
  refine mo ?_ (yu rfl (by(show Fit _ _ (SV.arr 2 0);exact Fit.Sy rfl)) (iU (iU rA)))
  repeat (first|exact nw|refine jN ?_|refine ab5 ?_)
 case H4=>
  rintro⟨⟨k1,h,s1,l1,a1⟩,b⟩ U
  try dsimp only at U
  refine j7 8 ?_ ?_<;>intro S
  .have e:=congrArg (λx=>x.2.length) U.2;simp only[aN,dx] at e;have J:=λpq=>Bq (gl:=gl) (pq:=pq) b O
   have M:=ir b;have R:=ir b.reverse;refine rF 7 ?_;refine LF 2 4 rfl rfl rfl (λr ob' q=>?_);cases q;refine rF 1 ?_;refine xL 2 19 rfl rfl rfl ?_;refine nC 0 (J _) [2] ?_;refine rF 4 ?_;refine xL 2 4 rfl rfl (by rw[R,dx,M]) ?_;refine yR 2 rfl rfl rfl rfl ?_;refine v8 7 (.jj [(ie.mk k1 h s1 l1 a1).d,.sl 5 (im b.reverse)]) ?_;rw[U.2,oE S,cf]
  obtain rfl:=S;obtain⟨k2,W,s2,l2,a2,z,C,F,G,H,rfl,y⟩:=E8 U.1 rfl;have Y:=ir b;have e:=congrArg (λx=>x.2.length) U.2;simp only[aN,dx] at e;have j:im b++[[fD z,fD C,fG F,.sl 3 (iR G),.sl 5 (im H)]]=im (b++[.mk z C F G H]):=(ll b [.mk z C F G H]).symm;refine ni 8 iQ iY ?_ (hat:=rfl);refine oR 1 mN [.tmp 12] jz ?_;refine oc (wx mN rfl rfl rfl rfl rfl rfl rfl Z (by simp) (by(simp only[maxLen,aj,aH];omega)) rfl rfl rfl ?_);refine ni 6 iQ iY ?_ (hat:=rfl);refine rF 4 ?_;rw[j];refine ml 0 (⟨k2,W,s2,l2,a2⟩,b++[.mk z C F G H]) [0,1,2] ?_;exact⟨⟨y,by rw[U.2,qv];simp⟩,by simp only[ie.size,ij];omega⟩
theorem K2(k m s i c)(M:zX (.mk k m s i c))(V:(ig (.mk k m s i c)).2.length<=1099511627776):
 jT fC gl 107 [] [.d (ie.mk k m s i c).d] λout ob'=>out=.ret (.jj [svT (ig (.mk k m s i c)).1,.own 0 5 (im (ig (.mk k m s i c)).2)])/\ob'=[.row 39 5]:=by
 refine nR Tryz.func107 23 0 ?_;refine rF 14 ?_;refine iP 39 5 rfl<|pt 0 (ι:=(Int×Int×fB×List iq×List ie)×List ie) (λ⟨⟨k1,h,s1,l1,a1⟩,b⟩=>[(4,.arr 2 (im b).length)]) (λ⟨⟨k1,h,s1,l1,a1⟩,b⟩=>[tO k1 h s1 l1 a1,zO,.buf 39 5 (im b) none]) [2,1] (λ⟨⟨k1,h,s1,l1,a1⟩,b⟩=>zX (.mk k1 h s1 l1 a1)/\ig (.mk k m s i c)=((ig (.mk k1 h s1 l1 a1)).1,(ig (.mk k1 h s1 l1 a1)).2++b.reverse)) (λ⟨⟨k1,h,s1,l1,a1⟩,b⟩=>(ie.mk k1 h s1 l1 a1).size) ((⟨k,m,s,i,c⟩,[])) ([0,1,2]) ?I5 ?H5 (hM:= ?M5)
 case I5=>
  exact⟨M,by simp⟩
 case M5=>
  refine mo ?_ (yu rfl (by(show Fit _ _ (SV.arr 2 0);exact Fit.Sy rfl)) (iU (iU rA)))
  repeat (first|exact nw|refine jN ?_|refine ab5 ?_)
 case H5=>
  rintro⟨⟨k1,h,s1,l1,a1⟩,b⟩ U
  try dsimp only at U
  refine j7 8 ?_ ?_<;>intro S
  .have e:=congrArg (λx=>x.2.length) U.2;simp only[aN,dx] at e;have R:=λpq=>Bq (gl:=gl) (pq:=pq) b O
   have q:=ir b;have y:=ir b.reverse;refine rF 7 ?_;refine LF 2 4 rfl rfl rfl (λr ob' z=>?_);cases z;refine rF 1 ?_;refine xL 2 19 rfl rfl rfl ?_;refine nC 0 (R _) [2] ?_;refine rF 4 ?_;refine xL 2 4 rfl rfl (by rw[y,dx,q]) ?_;rw[show(im b).length=(im b.reverse).length by rw[y,dx,q]];refine LC 2 4 rfl rfl rfl rfl rfl ?_;refine rF 7 ?_;refine fR<|pe ⟨_,_,rfl,(jB rfl rfl jz rfl rfl rfl rfl),⟨_,_,rfl,rfl,rfl⟩⟩ [2] (.jj [svT (ie.mk k1 h s1 l1 a1),.own 0 5 (im b.reverse)]) ([.row 39 5]) rfl rfl rfl ?_ rfl ?_ ?_
   .repeat (first|exact nw|refine oT ?_)
   .exact .refl _
   .rw [U.2,oE S,cf];exact⟨rfl,rfl⟩
  obtain rfl:=S;obtain⟨k2,W,s2,l2,a2,F,G,H,I,J,rfl,C⟩:=E8 U.1 rfl;have Y:=ir b;have e:=congrArg (λx=>x.2.length) U.2;simp only[aN,dx] at e;have j:im b++[[fD F,fD G,fG H,.sl 3 (iR I),.sl 5 (im J)]]=im (b++[.mk F G H I J]):=(ll b [.mk F G H I J]).symm;refine ni 8 iQ iY ?_ (hat:=rfl);refine oR 1 mN [.tmp 12] jz ?_;refine oc (wx mN rfl rfl rfl rfl rfl rfl rfl Z (by simp) (by(simp only[maxLen,aj,aH];omega)) rfl rfl rfl ?_);refine ni 6 iQ iY ?_ (hat:=rfl);refine rF 4 ?_;rw[j];refine ml 0 (⟨k2,W,s2,l2,a2⟩,b++[.mk F G H I J]) [0,1,2] ?_;exact⟨⟨C,by rw[U.2,qv];simp⟩,by simp only[ie.size,ij];omega⟩
theorem KX(l)(e:l.length<=1099511627776):
 jT fC c 139 [] [.d (.sl 5 (im l))] λout ob'=>out=.ret (.own 0 5 (im l))/\ob'=[.row 39 5]:=by
 have k:=ir l;refine nR Tryz.func139 8 0 ?_;refine rF 9 ?_;refine oc (T:=λ_=>False) (UQ iQ rfl rfl rfl rfl rfl (λU b=>?_));refine jq 2 ?_ ?_<;>intro h
 .refine rF 1 ?_;refine iP 39 5 rfl<|rF 6 ?_;refine fR<|pe ⟨_,_,rfl,rfl,rfl⟩ [0] (.own 0 5 (im [])) ([.row 39 5]) rfl rfl rfl ?_ rfl ?_ ?_
  .repeat (first|exact nw|refine D3 ?_)
  .exact Fit.nil rfl
  .rw [b (by assumption)];exact⟨rfl,rfl⟩
 refine rF 4 ?_;refine oc (T:=λ_=>False) (Xv mN rfl rfl rfl (by simp only[aj,aH,Nat.reduceAdd];rfl) rfl ?_);refine rF 1 ?_;refine oc (px mN rfl rfl rfl (.inl rfl) rfl rfl rfl (.inl rfl) Z (by(simp only[maxLen,aH];omega)) rfl rfl rfl ?_);refine rF 4 ?_;refine fR<|pe ⟨_,_,rfl,rfl,rfl⟩ [0] (.own 0 5 (im l)) ([.row 39 5]) rfl rfl rfl ?_ rfl ?_ ?_
 .repeat (first|exact nw|refine oT ?_)
 .exact Fit.of_eq (by rw[cf];rfl)
 .exact ⟨rfl,rfl⟩
theorem SS(n:Nat)(h:n<=1099511627776):
 jT fC e 154 [] [fK,fE n] λout ob'=>out=.ret (.arr 0 0)/\ob'=[.buf 39 5 [] none]:=by
 rcases cX n with h0|h0
 .refine nR Tryz.func154 27 0 ?_;refine jq 12 ?_ ?_<;>intro b
  .contradiction
  refine rF 7 ?_;refine o1 (AN iQ rfl rfl ?_);refine rF 1 ?_;refine o1 (le4 iQ ?_);refine sH 0 ?_;refine sH 0 ?_;refine jq 9 ?_ ?_<;>intro k
  .omega
  refine rF 3 ?_;refine iP 39 5 rfl<|rF 6 ?_;refine fR<|pe ⟨_,_,rfl,rfl,rfl⟩ [0] (.arr 0 0) ([.buf 39 5 [] none]) rfl rfl rfl ?_ rfl ?_ ?_
  .repeat (first|exact nw|refine ab5 ?_)
  .exact Fit.Sy rfl
  .exact ⟨rfl,rfl⟩
 .refine nR Tryz.func154 27 0 ?_;refine jq 12 ?_ ?_<;>intro b
  .contradiction
  refine rF 7 ?_;refine o1 (AN iQ rfl rfl ?_);refine rF 1 ?_;refine o1 (le4 iQ ?_);refine sH 0 ?_;refine sH 0 ?_;refine j7 9 ?_ ?_<;>intro k
  .omega
  obtain⟨c,U⟩:∃c:Nat,(n:Int)-(((0:Nat):Int)-((0:Nat):Int))=c:=⟨n,O⟩;rw[U];refine rF 3 ?_;refine o1 (AN iQ rfl rfl ?_);refine o1 (Kl iQ iY rfl rfl rfl rfl ?_);refine rF 1 ?_;refine oc (T:=λ_=>False) (OF mN gN jz rfl rfl rfl rfl rfl rfl (by simp only[aj,aH,Nat.reduceAdd];rfl) (by(simp only[maxLen];omega)) rfl ?_);refine rF 1 ?_;refine o1 (le4 iQ ?_);refine oc (xN iQ iY rfl rfl rfl rfl rfl rfl rfl rfl O O rfl rfl rfl ?_);refine rF 10 ?_;refine fR<|pe ⟨_,_,rfl,rfl,rfl⟩ [0] (.arr 0 0) ([.buf 39 5 [] none]) rfl rfl rfl ?_ rfl ?_ ?_
  .repeat (first|exact nw|refine Nz ?_)
  .exact .refl _
  .exact ⟨rfl,rfl⟩
end
def jV(c:mJ):List fB:=c.nm::(c.cs.map (·.1)++if c.k=3 then[c.nm++CK] else[])
def lH(es:List iI):List fB:=es.flatMap λe=>jV e.d
theorem AB(c m):lH (c++m)=lH c++lH m:=by simp[lH]
theorem AA(e):lH [e]=jV e.d:=by simp[lH]
theorem uY{nm:fB}:∀{l:List (fB×ie)},nB nm l=none↔nm∉l.map (·.1)
 |[]=>by simp[nB]
 |a::r=>by
  rw[nB];split
  .rename_i h;subst h;simp
  .rename_i h;rw[Option.map_eq_none_iff,uY (l:=r)];simp only[bG,bh,not_or];exact⟨λg=>⟨λe=>h e.symm,g⟩,λg=>g.2⟩
theorem ry{nm:fB}:∀{es:List iI},(∀ e∈es,e.d.k≠0)->((iw nm es).1=0↔nm∉lH es)
 |[],_=>by simp[iw,lH]
 |e::r,c=>by
  have j:=ry (nm:=nm) (es:=r) λe q=>c e (bB _ q)
  have s:=c e bC;rw[show lH (e::r)=jV e.d++lH r by simp[lH],bn,not_or,iw];split
  .rename_i k;refine⟨λh=>absurd h s,λh=>absurd ?_ h.1⟩;subst k;simp[jV]
  .rename_i k;split
   .rename_i i U;refine⟨λh=>absurd (show(4:Int)=0 from h) Z,λh=>?_⟩;have:=uY (nm:=nm) (l:=e.d.cs);rw[U] at this;exact absurd (this.2 λg=>h.1 (bB _ (cQ _ g))) (by simp)
   .rename_i U;have x:=uY.1 U;split
    .rename_i b;refine⟨λh=>absurd (show(5:Int)=0 from h) Z,λh=>absurd ?_ h.1⟩;unfold jV;rw[if_pos b.1];exact bB _ (fg _ (by simp[b.2]))
    .rename_i b;rw[j];refine⟨λh=>⟨λg=>?_,h⟩,λh=>h.2⟩;unfold jV at g;rcases bh.1 g with g|g
     .exact k g.symm
     .rcases bn.1 g with g|g
      .exact x g
      .split at g
       .rename_i y;simp only[bF] at g;exact b ⟨y,g.symm⟩
       .cases g
theorem kJ{c:fB}{m:List iI}:∀{es:List iI},(iw c es).1≠0->iw c (es++m)=iw c es
 |[],h=>absurd rfl h
 |e::r,h=>by
  rw[eN,iw,iw];rw[iw] at h;split
  .rfl
  .rename_i b;rw[if_neg b] at h;cases k:nB c e.d.cs with
   |some i=>rfl
   |none=>
    rw[k] at h;simp only at h ⊢;split
    .rfl
    .rename_i U;rw[if_neg U] at h;exact kJ h
theorem qh{c:fB}{m:List iI}:∀{es:List iI},(∀ e∈es,e.d.k≠0)->(iw c es).1=0->iw c (es++m)=iw c m
 |[],_,_=>rfl
 |e::r,U,h=>by
  rw[eN,iw];rw[iw] at h;split
  .rename_i b;rw[if_pos b] at h;exact absurd h (U e bC)
  .rename_i b;rw[if_neg b] at h;cases j:nB c e.d.cs with
   |some i=>rw[j] at h;exact absurd (show(4:Int)=0 from h) Z
   |none=>
    rw[j] at h;simp only at h ⊢;split
    .rename_i k;rw[if_pos k] at h;exact absurd (show(5:Int)=0 from h) Z
    .rename_i k;rw[if_neg k] at h;exact qh (λe q=>U e (bB _ q)) h
theorem JA(h:iw e i=iw e c):jY i e=jY c e:=by
 unfold jY oM;rw[h]
theorem Fh(h:jY e c=some n):(iw c e).1≠0:=by
 intro b;unfold jY oM at h;simp only[b] at h;cases h
theorem yE(c m):Hw (jY c) (jY (c++m)):=λs n h=>by
 rw[JA (kJ (Fh h))];exact h
theorem G1.mono{sg i:Sg}(j:Hw sg i){e:iI}(h:G1 sg e):G1 i e:=
 ⟨h.k,h.ps,h.nm,⟨h.ty.1.mono j (λ_ h=>h) (aP _),h.ty.2⟩,λb=>⟨(h.vl b).1.mono j (λ_ h=>h) (aP _),(h.vl b).2⟩,h.cl,h.ar,λc k=>⟨(h.cs c k).1.mono j (λ_ h=>h) (aP _),(h.cs c k).2⟩,h.rp,λb=>⟨(h.rt b).1.mono j (λ_ h=>h) (aP _),(h.rt b).2⟩⟩
theorem ko.k0(h:ko c):∀e∈c,e.d.k≠0:=λe b k=>by rcases(h.AZ e b).k with h|h|h<;>omega
theorem U0(h:e∈c):e.d.nm∈lH c:=by
 unfold lH;exact List.mem_flatMap.2 ⟨e,h,by simp[jV]⟩
theorem ko.app{c:List iI}{e:iI}(h:ko c)(i:c.length<1000000)(j:e.d.nm∉lH c)(q:G1 (jY (c++[e])) e):ko (c++[e]):=by
 refine⟨by rw[aN];exact i,?_,λx hx=>?_⟩
 .rw [bf,dt];refine⟨h.nd,by simp,λa ha b U k=>?_⟩;simp only[bG,de,bF] at U;obtain⟨y,r,rfl⟩:=bD.1 ha;subst k;exact j (U▸U0 r)
 .rcases bn.1 hx with hx|hx
  .exact (h.AZ x hx).mono (yE _ _)
  .simp only[bF] at hx;subst hx;exact q
theorem Oe(j:∀e∈c,e.d.k≠0)(h:i∉lH c)(m):jY (c++m) i=jY m i:=
 JA (qh j ((ry j).2 h))
theorem YS(c:e.d.k=1\/e.d.k=2\/e.d.k=3):jY [e] e.d.nm=some e.d.ps.length:=by
 have h:iw e.d.nm [e]=(e.d.k,e,0):=by rw[iw,if_pos rfl]
 unfold jY oM;simp only[h];rw[if_neg O,if_neg O,if_neg O];rfl
theorem PZ:∀{l:List (fB×ie)},c∈l.map (·.1)->∃i,nB c l=some i:=by
 intro l h;cases b:nB c l with
 |some i=>exact⟨i,rfl⟩
 |none=>exact absurd h (uY.1 b)
theorem Xh(j:c∈e.d.cs)(q:c.1≠e.d.nm):jY [e] c.1=some e.d.ps.length:=by
 obtain⟨i,b⟩:=PZ (dX (f:=(·.1)) j);have h:iw c.1 [e]=(4,e,i):=by rw[iw,if_neg λh=>q h.symm,b]
 obtain⟨U,k,r⟩:=vv b;unfold jY oM;simp only[h,k];rfl
def Ep(e:iI):iI:=⟨.mk 1 e.d.nm e.d.ps e.d.ty iu 0 [],[],iu⟩
theorem ko.ax(h:ko i)(q:i.length<1000000)(r:e.d.nm∉lH i)(s:e.d.ps.length<=6)(x:e.d.nm.size<=1000000)(j:Wt (jY i) e.d.ps e.d.ty 0/\e.d.ty.size<=800001):ko (i++[Ep e]):=
 h.app q r ⟨.inl rfl,s,x,⟨j.1.mono (yE _ _) (λ_ h=>h) (aP _),j.2⟩,λh=>absurd (show(1:Int)=2 from h) Z,ak _,λh=>absurd (show(1:Int)=3 from h) Z,λc b=>(by cases b),ak _,λh=>absurd (show(1:Int)=3 from h) Z⟩
def Ox(c:fB)(p:Int)(a:ie):Prop:=nP (rW c) a 0=true->∃m ls ar,(ig (jQ (iv a) a)).1=.mk 2 m c ls ar/\p<=(ig (jQ (iv a) a)).2.length
def G7(e:fB)(p:Int)(c:ie):Prop:= ∀(i:Nat) a,p<=i->(lQ (iv c) c)[i]? =some a->Ox e p a
structure nS (es:List iI):Prop where
 ok:ko es
 nd:(lH es).Nodup
 pos:∀e∈es,e.d.k=3->∀c∈e.d.cs,G7 e.d.nm e.d.ar c.2
 nc:∀e∈es,e.d.k≠3->e.d.cs=[]
 vz:∀e∈es,e.d.vl.size<=800001
theorem nS.nil:nS []:=⟨⟨by simp,by simp,λe h=>(by cases h)⟩,by simp[lH],λe h=>(by cases h),λe h=>(by cases h),λe h=>(by cases h)⟩
theorem nS.app{i:List iI}{e:iI}(h:nS i)(q:i.length<1000000)(j:∀x∈jV e.d,x∉lH i)(r:(jV e.d).Nodup)(s:G1 (jY (i++[e])) e)(y:e.d.k=3->∀c∈e.d.cs,G7 e.d.nm e.d.ar c.2)(z:e.d.k≠3->e.d.cs=[])(C:e.d.vl.size<=800001):nS (i++[e]):=by
 refine⟨h.ok.app q (j _ (by simp[jV])) s,?_,λx hx=>?_,λx hx=>?_,λx hx=>?_⟩
 .rw [AB,AA,dt];exact⟨h.nd,r,λa ha b U k=>j b U (k▸ha)⟩
 .rcases bn.1 hx with hx|hx
  .exact h.pos x hx
  .simp only[bF] at hx;subst hx;exact y
 .rcases bn.1 hx with hx|hx
  .exact h.nc x hx
  .simp only[bF] at hx;subst hx;exact z
 .rcases bn.1 hx with hx|hx
  .exact h.vz x hx
  .simp only[bF] at hx;subst hx;exact C
def Dj(w:Int)(d:mJ)(e:List fB)(h:ie)(c:Int):D:=.cp (.v (.int .i64 w)::.cp d.cells::.sl 1 (strs e)::(h.cells++[.v (.int .i64 c)]))
def zc(d:mJ):Nat->List (fB×ie)->(fB->Option D)->fB->Option D
 |_,[],f=>f
 |i,c::r,f=>zc d (i+1) r (Bb f c.1 (Dj 3 d d.ps c.2 i))
def Ks(f:fB->Option D)(d:mJ):fB->Option D:=Bb f d.nm (Dj (d.k-1) d d.ps d.ty 0)
def Fq(c:fB->Option D)(e:iI):fB->Option D:=
 if e.d.k=3 then Bb (zc e.d 0 e.d.cs (Ks c e.d)) (e.d.nm++CK) (Dj 4 e.d e.rp e.rt 0) else Ks c e.d
def o7(c:List iI):fB->Option D:=c.foldl Fq λ_=>none
def yd(e:List iI)(h:fB):Option D:=
 let f:=iw h e
 if f.1=0 then none else if f.1=4 then(f.2.1.d.cs[f.2.2]?).map λc=>Dj 3 f.2.1.d f.2.1.d.ps c.2 f.2.2 else if f.1=5 then some (Dj 4 f.2.1.d f.2.1.rp f.2.1.rt 0) else some (Dj (f.1-1) f.2.1.d f.2.1.d.ps f.2.1.d.ty 0)
theorem zm(f:fB->Option D)(s d):Bb f s d s=some d:=if_pos rfl
theorem zn(h:t≠s):Bb c s e t=c t:=if_neg h
theorem B8{d:mJ}{e:fB}:∀{l:List (fB×ie)} {i:Nat} {f:fB->Option D},e∉l.map (·.1)->zc d i l f e=f e
 |[],i,f,_=>rfl
 |c::r,i,f,h=>by
  simp only[bG,bh,not_or] at h;rw[zc,B8 h.2,zn h.1]
theorem Ry{d:mJ}{q:fB}:∀{l:List (fB×ie)} {i j:Nat} {f:fB->Option D},(l.map (·.1)).Nodup->nB q l=some j->∃c,l[j]? =some c/\zc d i l f q=some (Dj 3 d d.ps c.2 ((i+j:Nat):Int))
 |[],i,j,f,_,h=>by cases h
 |c::r,i,j,f,b,h=>by
  simp only[bG,cG] at b;rw[nB] at h;split at h
  .rename_i e;cases h;subst e;exact⟨c,rfl,by rw[zc,B8 b.1,zm,b6]⟩
  .obtain ⟨k,U,rfl⟩:=bO.1 h;obtain⟨s,x,y⟩:=Ry (d:=d) (i:=i+1) (f:=Bb f c.1 (Dj 3 d d.ps c.2 i)) b.2 U;exact⟨s,by simpa using x,by rw[zc,y,show i+1+k=i+(k+1) by omega]⟩
theorem UG(h:c∉jV e.d):Fq i e c=i c:=by
 unfold jV at h;simp only[bh,bn,not_or] at h;unfold Fq;split
 .rename_i b;rw[if_pos b] at h;rw[zn (by simpa using h.2.2),B8 h.2.1];exact zn h.1
 .exact zn h.1
theorem FY(h:iw e i=iw e c):yd i e=yd c e:=by unfold yd;rw[h]
theorem Xk(M:e.d.k=1\/e.d.k=2\/e.d.k=3)(y:e.d.k≠3->e.d.cs=[])(r:(jV e.d).Nodup)(h:q∈jV e.d):Fq R e q=yd [e] q:=by
 by_cases k:e.d.nm=q
 .have x:iw q [e]=(e.d.k,e,0):=by rw[iw,if_pos k]
  unfold yd;simp only[x];rw[if_neg O,if_neg O,if_neg O];subst k;unfold Fq;unfold jV at r;have U:=cG.1 r;split
  .rename_i b;rw[if_pos b] at U;simp only[bn,not_or] at U;rw[zn (by simpa using U.1.2),B8 U.1.1];exact zm _ _ _
  .exact zm _ _ _
 .by_cases b:e.d.k=3
  .unfold jV at r h;rw[if_pos b] at r h;have U:=cG.1 r;have F:=dt.1 U.2;unfold Fq;rw[if_pos b];cases s:nB q e.d.cs with
   |some j=>
    have x:iw q [e]=(4,e,j):=by rw[iw,if_neg k,s]
    have z:q∈e.d.cs.map (·.1):=dj λg=>by rw[uY.2 g] at s;cases s
    have C:q≠e.d.nm++CK:=λH=>F.2.2 q z _ (by simp) H
    obtain⟨c,I,J⟩:=Ry (d:=e.d) (i:=0) (f:=Ks R e.d) F.1 s;unfold yd;simp only[x];rw[zn C,J,if_neg Z,if_pos trivial,I,bU];rfl
   |none=>
    have z:=uY.1 s;have G:q=e.d.nm++CK:=by
     rcases bh.1 h with h|h
     .exact absurd h.symm k
     .rcases bn.1 h with h|h
      .exact absurd h z
      .simpa using h
    have x:iw q [e]=(5,e,0):=by rw[iw,if_neg k,s];exact if_pos ⟨b,G.symm⟩
    unfold yd;simp only[x];rw[if_neg Z,if_neg Z,if_pos trivial,G,zm]
  .exfalso
   unfold jV at h;rw[if_neg b,y b] at h;simp at h;exact k h.symm
theorem LZ(c e):o7 (c++[e])=Fq (o7 c) e:=by simp[o7]
theorem SD(s:∀e∈c,e.d.k=1\/e.d.k=2\/e.d.k=3)(j:∀e∈c,e.d.k≠3->e.d.cs=[])(q:(lH c).Nodup)(i):o7 c i=yd c i:=by
 have key:∀(n:Nat) (c:List iI),c.length=n->(∀ e∈c,e.d.k=1\/e.d.k=2\/e.d.k=3)->(∀ e∈c,e.d.k≠3->e.d.cs=[])->(lH c).Nodup->o7 c i=yd c i:=by
  intro n
  induction n with
  |zero=>intro c U _ _ _;rw[bE.1 U];rfl
  |succ n H=>
   intro c U s j q;obtain⟨r,e,rfl⟩:∃r e,c=r++[e]:=by
    rcases List.eq_nil_or_concat c with h|⟨r,e,h⟩
    .subst h;simp at U
    .exact ⟨r,e,by simpa using h⟩
   rw[aN] at U;rw[AB,AA] at q;have C:=dt.1 q;have y:∀x∈r,x.d.k=1\/x.d.k=2\/x.d.k=3:=λx b=>s x (cQ _ b)
   have k:∀x∈r,x.d.k≠0:=λx b=>by rcases y x b with h|h|h<;>omega
   rw[LZ];by_cases z:i∈jV e.d
   .have I:i∉lH r:=λh=>C.2.2 i h i z rfl
    rw[Xk (s e (by simp)) (j e (by simp)) C.2.1 z];exact(FY (qh k ((ry k).2 I))).symm
   .rw [UG z,H r (by simpa using U) y (λx b=>j x (cQ _ b)) C.1];by_cases F:(iw i r).1=0
    .have G:∀x∈[e],x.d.k≠0:=λx b=>by rcases s x (fg _ b) with h|h|h<;>omega
     have J:(iw i [e]).1=0:=(ry G).2 (by rw[AA];exact z);have M:=qh (m:=[e]) k F;unfold yd;simp only[M,F,J,if_true]
    .exact (FY (kJ F)).symm
 exact key _ c rfl s j q
theorem nS.look(h:nS c)(i):o7 c i=yd c i:=SD (λe b=>(h.ok.AZ e b).k) h.nc h.nd i
section
attribute [local irreducible] iK iL jI ik iW jH
theorem Mo(es:List iI)(w:Bool){sg:Sg}{ps:List fB}(hc:0<=c/\c<=1099511627776)(kr nr:Int)(C:fB)(lr:List iq)(ar:List ie)(y:List ie)(p:Nat)(kt nt:Int)(st:fB)(lt:List iq)(at':List ie)(z:List ie)(ka na:Int)(sa:fB)(la:List iq)(aa:List ie)
 (hr:Wt sg ps (.mk kr nr C lr ar) c) (hf:∀x∈y,Wt sg ps x c) (hg:∀x∈z,Wt sg ps x c) (ha:Wt sg ps (.mk ka na sa la aa) c) (ht:Wt sg ps (.mk kt nt st lt at') (c+z.length))
 (zr:(ie.mk kr nr C lr ar).size<=1099511627776) (zf:ij y<=1099511627776) (zg:z.length<=1000000) (zgs:∀x∈z,x.size<=1099511627776) (za:(ie.mk ka na sa la aa).size<=1099511627776) (zt:(ie.mk kt nt st lt at').size<=1000000) (zp:p<=1000000):
 jT fC gl 124 [iD es w,iC] [.jk 0 0,.d (ie.mk kr nr C lr ar).d,.d (.sl 5 (im y)),fE p,.d (ie.mk kt nt st lt at').d,.d (.sl 5 (im z)),.d (ie.mk ka na sa la aa).d] λout ob'=> ∃(u:ie) (w':Bool),out=.ret (.d u.d)/\ob'=[iD es w',iC]/\u.size<=8796093022208/\
  (w'=false->w=false/\u=Em (.mk kr nr C lr ar) y p (.mk kt nt st lt at') z (.mk ka na sa la aa)):=by
 have hfl:=ir y;have hgl:=ir z;have hfs:=iJ y;refine nR Tryz.func124 130 2 ?_;refine sH 13 ?_;refine pt 4 (ι:=Nat×Bool×Int×Int×fB×List iq×List ie) (λ⟨i,S,k1,U,s1,l1,a1⟩=>[(15,int ((i:Int)-1))]) (λ⟨i,S,k1,U,s1,l1,a1⟩=>[iD es S,iC,tO kr nr C lr ar,tO k1 U s1 l1 a1,tO ka na sa la aa,zO]) [14,13,11,8,0,2,3,5] (λ⟨i,S,k1,U,s1,l1,a1⟩=>i<=z.length/\(S=false->w=false/\o9 z z.length (.mk kt nt st lt at')=o9 z i (.mk k1 U s1 l1 a1))/\Wt sg ps (.mk k1 U s1 l1 a1) (c+i)/\(ie.mk k1 U s1 l1 a1).size<=1000000) (λ⟨i,S,k1,U,s1,l1,a1⟩=>i) ((z.length,w,kt,nt,st,lt,at')) ([0,1,2,3,4,5]) ⟨ae _,λh=>⟨h,rfl⟩,ht,zt⟩ ?_ (hM:=by exact oL (j8 rfl (by exact Fit.of_eq (by simp only[int,hgl];rfl))));rintro⟨i,S,k1,U,s1,l1,a1⟩ b
 try dsimp only at b
 refine jq 7 ?_ ?_<;>intro h2
 .have hig:i-1<z.length:=O;obtain⟨k2,m2,s2,l2,a2,k⟩:=iZ hig;have hgi:(ie.mk k2 m2 s2 l2 a2)=z.getD (i-1) iu:=(by rw[ba,k];rfl);have hgm:=hg _ (aO k);have hgz:=zgs _ (aO k);have hidx:(im z)[((i:Int)-1).toNat]? =some [fD k2,fD m2,fG s2,.sl 3 (iR l2),.sl 5 (im a2)]:=(by rw[show((i:Int)-1).toNat=i-1 by omega,rm k];rfl);have hlf:=rE (gl:=gl) (n0:=(i:Int)-1) (B:=4398046511104) O O _ k2 m2 s2 l2 a2 0 (ae _) (hgm.sh O) (aP _) O;have hlw:=hgm.Y0 (m:=(i:Int)-1) (fr:=0) O;have hlz:=tt (.mk k2 m2 s2 l2 a2) ((i:Int)-1) 0;rw[<- mZ] at hlf;obtain⟨k4,m4,s4,l4,a4,hY⟩:=ie.case (lJ (.mk k2 m2 s2 l2 a2) ((i:Int)-1) 0)
  rw[hY] at hlf hlw hlz;have hes:=xi (gl:=gl) es S (B:=4398046511104) (B':=4398046511104) O O k1 U s1 l1 a1 k4 m4 s4 l4 a4 (by have:=b.2.2.2;omega) O (b.2.2.1.sh (by have:=b.2.2.2;omega)) (hlw.sh O);refine ma 4 [0,1,2,3] mixed ?_;refine pQ 4 iQ iY ?_ (hat:=hidx);refine ga [5,6] ?_;refine qB 7 hlf ?_;refine MZ 8 hes [0,1] ?_;rintro s ob' ⟨⟨k3,m3,s3,l3,a3⟩,w2,⟨⟩,rfl,hw2⟩;have hsz3:(ie.mk k3 m3 s3 l3 a3).size<=1000000:=(by rcases hw2 with⟨_,_,_,e⟩|⟨_,e⟩;omega;rw[e];decide);have hwt:Wt sg ps (.mk k3 m3 s3 l3 a3) (c+((i-1:Nat):Int)):=(by
   rcases hw2 with⟨_,_,e,_⟩|⟨_,e⟩
   .rw [e];refine Wt.sub O ?_ ?_
    .have:=b.2.2.1;rwa [show c+((i-1:Nat):Int)+1=c+(i:Int) by omega]
    .rw [show c+((i-1:Nat):Int)=c+((i:Int)-1) by omega];exact hlw
   .rw [e];exact EU)
  refine Lg ?_;refine nO 9 ?_;refine iB<|sH 4 ?_;refine rF 2 ?_;refine bk ((i-1,w2,k3,m3,s3,l3,a3)) rfl ?_ ([0,1,2,3,4,5]) ?_
  .obtain ⟨j,rfl⟩:∃j,i=j+1:=⟨i-1,O⟩;refine⟨⟨O,λh=>?_,?_,?_⟩,show j+1-1<j+1 by omega⟩
   .rcases hw2 with⟨e1,e2,e3,e4⟩|⟨e1,_⟩
    .obtain ⟨h5,h6⟩:=b.2.1 e2;refine⟨h5,?_⟩;rw[h6,o9,show z.getD j iu=.mk k2 m2 s2 l2 a2 from hgi.symm,show lJ (.mk k2 m2 s2 l2 a2) (j:Int) 0=.mk k4 m4 s4 l4 a4 from(by rw[<- hY];congr 1;omega),<-e3];rfl
    .rw [e1] at h;cases h
   .exact hwt
   .exact hsz3
  .refine mo ?_ (yu rfl (by exact Fit.of_eq (by show SV.d (D.v (Value.int .i64 ((i:Int)-1-1)))=SV.d (D.v (Value.int .i64 (((i-1:Nat):Int)-1)));rw[show((i-1:Nat):Int)=(i:Int)-1 by omega])) (iU (iU (iU (iU (iU (iU (iU (iU rA)))))))))
   repeat (first|exact nw|refine jN ?_|refine oT ?_)
 obtain rfl:i=0:=O;have hW:Wt sg ps (.mk k1 U s1 l1 a1) c:=(by have:=b.2.2.1;rwa [Int.natCast_zero,dW] at this);have hz1:=b.2.2.2;have hI:=b.2.1;rw[o9] at hI;have hpz:=nE _ (.mk k1 U s1 l1 a1) (ae _);have hps:=se (gl:=gl) (B:=4398046511104) k1 U s1 l1 a1 (hW.sh O) O;have hhz:=Vx (.mk kr nr C lr ar) y p (.mk k1 U s1 l1 a1) (.mk ka na sa la aa);have hxl:=jx _ (.mk k1 U s1 l1 a1) (ae _);have hez:=nj (iv (.mk k1 U s1 l1 a1)) (.mk k1 U s1 l1 a1);have hEW:=hW.xs (ae _);have hstep:=λj=>oX j (.mk k1 U s1 l1 a1)
 have F:Mp (.mk kr nr C lr ar) y p (.mk k1 U s1 l1 a1) (.mk ka na sa la aa)=rP (lQ (iv (.mk k1 U s1 l1 a1)) (.mk k1 U s1 l1 a1)) (.mk 3 0 .empty [] [iF (iF (lJ (.mk kr nr C lr ar) (iv (.mk k1 U s1 l1 a1)) 0) (y.map λx=>lJ x (iv (.mk k1 U s1 l1 a1)) 0)) ((ig (jQ (iv (.mk k1 U s1 l1 a1)) (.mk k1 U s1 l1 a1))).2.drop p),oy (iv (.mk k1 U s1 l1 a1)) (lJ (.mk ka na sa la aa) (iv (.mk k1 U s1 l1 a1)) 0)]):=rfl;generalize hnn:iv (.mk k1 U s1 l1 a1)=n at hps hpz hxl hez hEW hstep F;have hxz:=ir (lQ n (.mk k1 U s1 l1 a1));refine ny 8 hps ?_;refine rF 15 ?_;refine iP 39 5 rfl<|pt 0 (ι:=Nat×Int×Int×fB×List iq×List ie) (λ⟨j,k5,m5,s5,l5,a5⟩=>[(18,int j),(17,.own 6 5 (im (lQ j (.mk k1 U s1 l1 a1))))]) (λ⟨j,k5,m5,s5,l5,a5⟩=>[iD es S,iC,tO kr nr C lr ar,tO k5 m5 s5 l5 a5,tO ka na sa la aa,zO,tR]) [16,14,13,11,8,0,2,3] (λ⟨j,k5,m5,s5,l5,a5⟩=>j<=n/\jQ j (.mk k1 U s1 l1 a1)=.mk k5 m5 s5 l5 a5) (λ⟨j,k5,m5,s5,l5,a5⟩=>n-j) ((0,k1,U,s1,l1,a1)) ([0,1,2,3,4,5,6]) ⟨ak _,rfl⟩ ?_ (hM:=by exact oL (iU (j8 rfl (by exact Fit.nil rfl))));rintro⟨j,k5,m5,s5,l5,a5⟩ b
 try dsimp only at b
 refine jq 8 ?_ ?_<;>intro h8
 .obtain ⟨m6,s6,l6,⟨k7,m7,s7,l7,a7⟩,⟨kb,mb,sb,lb,ab⟩,he1,he2,he3,he4⟩:=hstep j O;rw[b.2] at he1;simp only[ie.mk.injEq] at he1;obtain⟨rfl,rfl,rfl,rfl,rfl⟩:=he1;have hnx:im (lQ j (.mk k1 U s1 l1 a1))++[[fD k7,fD m7,fG s7,.sl 3 (iR l7),.sl 5 (im a7)]]=im (lQ (j+1) (.mk k1 U s1 l1 a1)):=(by rw[he3,ll];rfl);have hxj:=jx j (.mk k1 U s1 l1 a1) O;have hxj2:=ir (lQ j (.mk k1 U s1 l1 a1));refine ni 9 iQ iY ?_ (hat:=rfl);refine oR 1 mN [.tmp 54] jz ?_;refine oc (ya mN ?_);refine ni 6 iQ iY ?_ (hat:=rfl);refine jS 7 ?_;refine rF 2 ?_;rw[hnx];refine ml 0 (j+1,kb,mb,sb,lb,ab) [0,1,2,3,4,5,6] ?_;exact⟨⟨O,he2⟩,show n-(j+1)<n-j by omega⟩
 obtain rfl:j=n:=O;have hE:=b.2;rw[hE] at hEW hez F;obtain⟨hok,_,_,_⟩:=Wt.spine _ (ae _) hEW;have hspn:=oW (gl:=gl) k5 m5 s5 l5 a5 hok O;have hss:=mQ _ (.mk k5 m5 s5 l5 a5) (ae _);rcases hS:ig (.mk k5 m5 s5 l5 a5) with⟨⟨kh,mh,sh,lh,ah⟩,G⟩;rw[hS] at hspn hss F;refine rF 6 ?_;simp only at hspn hss F;have has:=iJ G;have hat2:=ir G;refine ny 2 hspn ?_;refine jq 17 ?_ ?_<;>intro h13
 .refine jD 8 ((ie.mk k5 m5 s5 l5 a5).d) [0,1] [iD es S,iC] ?_
  .exact ⟨.mk k5 m5 s5 l5 a5,S,rfl,rfl,O,λh=>by rw[h] at h13;cases h13⟩
 have hw1:S=false:=(by cases S with|false=>rfl|true=>first|cases h13|exact absurd rfl h13);obtain⟨hw0,hI⟩:=hI hw1;have hl1:=rE (gl:=gl) (n0:=(j:Int)) (B:=4398046511104) O O _ kr nr C lr ar 0 (ae _) (hr.sh O) (aP _) O;rw[<- mZ] at hl1;obtain⟨kx,mx,sx,lx,ax,hX⟩:=ie.case (lJ (.mk kr nr C lr ar) (j:Int) 0)
 rw[hX] at hl1 F;refine ny 6 hl1 ?_;refine pt 11 (ι:=Nat×Int×Int×fB×List iq×List ie) (λ⟨q,k6,m6,s6,l6,a6⟩=>[(22,int q)]) (λ⟨q,k6,m6,s6,l6,a6⟩=>[iD es S,iC,tO kr nr C lr ar,tO k5 m5 s5 l5 a5,tO ka na sa la aa,zO,tR,tO kh mh sh lh ah,tO k6 m6 s6 l6 a6]) [21,20,17,16,14,13,2,3] (λ⟨q,k6,m6,s6,l6,a6⟩=>q<=y.length/\iF (.mk kx mx sx lx ax) ((y.map λx=>lJ x (j:Int) 0).take q)=.mk k6 m6 s6 l6 a6) (λ⟨q,k6,m6,s6,l6,a6⟩=>y.length-q) ((0,kx,mx,sx,lx,ax)) ([0,1,2,3,4,5,6,7,8]) ⟨ak _,rfl⟩ ?_;rintro⟨q,k6,m6,s6,l6,a6⟩ b
 try dsimp only at b
 refine jq 9 ?_ ?_<;>intro h17
 .obtain ⟨H,I,J,M,R,k⟩:=iZ (show q<y.length by omega);have hgm0:=hf _ (aO k);have hgz:=iO k;have hl8:=rE (gl:=gl) (n0:=(j:Int)) (B:=4398046511104) O O _ H I J M R 0 (ae _) (hgm0.sh O) (aP _) O;rw[<- mZ] at hl8;obtain⟨V,W,Y,l9,a9,hY⟩:=ie.case (lJ (.mk H I J M R) (j:Int) 0)
  have hgm:(y.map λx=>lJ x (j:Int) 0)[q]? =some (.mk V W Y l9 a9):=(by rw[bt,k,bH,hY]);rw[hY] at hl8;have hap:=lS (gl:=gl) k6 m6 s6 l6 a6 V W Y l9 a9;refine ma 4 [0,1,2] mixed ?_;refine pQ 3 iQ iY ?_ (hat:=(jr k));refine ga [4,5] ?_;refine qB 6 hl8 ?_;refine qB 7 hap ?_;refine nO 8 ?_;refine iB<|jS 4 ?_;refine ml 2 (q+1,3,0,.empty,[],[.mk k6 m6 s6 l6 a6,.mk V W Y l9 a9]) [0,1,2,3,4,5,6,7,8] ?_;exact⟨⟨O,by rw[ph hgm,b.2]⟩,show y.length-(q+1)<y.length-q by omega⟩
 obtain rfl:q=y.length:=O;have hH:=b.2;rw[aS (by rw[bc];exact ae _)] at hH;rw[hH] at F;have hdl:(G.drop p).length=G.length-p:=bK;refine pt 13 (ι:=Nat×Int×Int×fB×List iq×List ie) (λ⟨q,k7,m7,s7,l7,a7⟩=>[(23,int ((p+q:Nat):Int))]) (λ⟨q,k7,m7,s7,l7,a7⟩=>[iD es S,iC,tO kr nr C lr ar,tO k5 m5 s5 l5 a5,tO ka na sa la aa,zO,tR,tO kh mh sh lh ah,tO k7 m7 s7 l7 a7]) [21,20,17,16,14,13] (λ⟨q,k7,m7,s7,l7,a7⟩=>q<=G.length-p/\iF (.mk k6 m6 s6 l6 a6) ((G.drop p).take q)=.mk k7 m7 s7 l7 a7) (λ⟨q,k7,m7,s7,l7,a7⟩=>G.length-p-q) ((0,k6,m6,s6,l6,a6)) ([0,1,2,3,4,5,6,7,8]) ⟨ak _,rfl⟩ ?_ (hM:=by exact oL (j8 rfl (by exact Fit.of_eq (by rfl))));rintro⟨q,k7,m7,s7,l7,a7⟩ b
 try dsimp only at b
 refine jq 9 ?_ ?_<;>intro h21
 .obtain ⟨H,I,J,M,R,k⟩:=iZ (show p+q<G.length by omega);have hgm:(G.drop p)[q]? =some (.mk H I J M R):=(by rw[bX];exact k);have hap:=lS (gl:=gl) k7 m7 s7 l7 a7 H I J M R;refine ma 4 [0,1,2] mixed ?_;refine pQ 3 iQ iY ?_ (hat:=(jr k));refine ga [4] ?_;refine qB 5 hap ?_;refine nO 6 ?_;refine iB<|jS 4 ?_;refine ml 2 ((q+1,3,0,.empty,[],[.mk k7 m7 s7 l7 a7,.mk H I J M R])) ([0,1,2,3,4,5,6,7,8]) ⟨⟨O,by rw[ph hgm,b.2]⟩,show G.length-p-(q+1)<G.length-p-q by omega⟩ (hM:=by exact oL (j8 rfl (by exact Fit.of_eq (by first|rfl|(congr 3;omega)))))
 have hG:=b.2;rw[aS O] at hG;rw[hG] at F;have hla:=rE (gl:=gl) (n0:=(j:Int)) (B:=4398046511104) O O _ ka na sa la aa 0 (ae _) (ha.sh O) (aP _) O;rw[<- mZ] at hla;obtain⟨kV,mV,sV,lV,aV,hV⟩:=ie.case (lJ (.mk ka na sa la aa) (j:Int) 0)
 rw[hV] at hla F;refine ny 9 hla ?_;refine sH 8 ?_;refine pt 4 (ι:=Nat×Int×Int×fB×List iq×List ie) (λ⟨r,H,I,J,M,R⟩=>[(25,int ((r:Int)-1))]) (λ⟨r,H,I,J,M,R⟩=>[iD es S,iC,tO kr nr C lr ar,tO k5 m5 s5 l5 a5,tO ka na sa la aa,zO,tR,tO kh mh sh lh ah,tO k7 m7 s7 l7 a7,tO H I J M R]) [24,21,17,16,14] (λ⟨r,H,I,J,M,R⟩=>r<=j/\oy j (.mk kV mV sV lV aV)=oy r (.mk H I J M R)) (λ⟨r,H,I,J,M,R⟩=>r) ((j,kV,mV,sV,lV,aV)) ([0,1,2,3,4,5,6,7,8,9]) ⟨ae _,rfl⟩ ?_;rintro⟨r,H,I,J,M,R⟩ b
 try dsimp only at b
 refine jq 7 ?_ ?_<;>intro h26
 .refine ma 4 [0,1] mixed ?_;refine qB 2 (zJ ((r:Int)-1)) ?_;refine qB 3 (lS H I J M R 0 ((r:Int)-1) .empty [] []) ?_;refine nO 4 ?_;refine iB<|sH 4 ?_;refine rF 2 ?_;refine bk ((r-1,3,0,.empty,[],[.mk H I J M R,.mk 0 ((r:Int)-1) .empty [] []])) rfl ?_ ([0,1,2,3,4,5,6,7,8,9]) ?_
  .obtain ⟨r',rfl⟩:∃r',r=r'+1:=⟨r-1,O⟩;refine⟨⟨O,?_⟩,show r'+1-1<r'+1 by omega⟩;rw[b.2,oy,show(((r'+1:Nat):Int)-1)=(r':Int) by omega];rfl
  .refine mo ?_ (yu rfl (by exact Fit.of_eq (by show SV.d (D.v (Value.int .i64 ((r:Int)-1-1)))=SV.d (D.v (Value.int .i64 (((r-1:Nat):Int)-1)));rw[show((r-1:Nat):Int)=(r:Int)-1 by omega])) (iU (iU (iU (iU (iU rA))))))
   repeat (first|exact nw|refine jN ?_|refine oT ?_)
 obtain rfl:r=0:=O;have hA:=b.2;rw[oy] at hA;rw[hA] at F;refine ny 9 (lS k7 m7 s7 l7 a7 H I J M R) ?_;refine sH 7 ?_;refine pt 4 (ι:=Nat×Int×Int×fB×List iq×List ie) (λ⟨r,V,W,Y,l9,a9⟩=>[(26,int ((r:Int)-1))]) (λ⟨r,V,W,Y,l9,a9⟩=>[iD es S,iC,tO kr nr C lr ar,tO k5 m5 s5 l5 a5,tO ka na sa la aa,zO,tR,tO kh mh sh lh ah,tO V W Y l9 a9,tO H I J M R]) [21,17,14] (λ⟨r,V,W,Y,l9,a9⟩=>r<=j/\rP (lQ j (.mk k1 U s1 l1 a1)) (.mk 3 0 .empty [] [.mk k7 m7 s7 l7 a7,.mk H I J M R])=rP ((lQ j (.mk k1 U s1 l1 a1)).take r) (.mk V W Y l9 a9)) (λ⟨r,V,W,Y,l9,a9⟩=>r) ((j,3,0,.empty,[],[.mk k7 m7 s7 l7 a7,.mk H I J M R])) ([0,1,2,3,4,5,6,7,8,9]) ⟨ae _,by rw[aS O]⟩ ?_;rintro⟨r,V,W,Y,l9,a9⟩ b
 try dsimp only at b
 refine j7 7 ?_ ?_<;>intro h31
 .obtain rfl:r=0:=O;have hfin:=b.2;rw[cj] at hfin;rw[hfin] at F;have hfin2:rP [] (.mk V W Y l9 a9)=.mk V W Y l9 a9:=rfl;rw[hfin2] at F;rw[F] at hhz;refine jD 12 ((ie.mk V W Y l9 a9).d) [0,1] [iD es S,iC] ?_
  .exact ⟨.mk V W Y l9 a9,S,rfl,rfl,O,λ_=>⟨hw0,by unfold Em;rw[hI,F]⟩⟩
 obtain⟨kb,mb,sb,lb,ab,k⟩:=iZ (show r-1<(lQ j (.mk k1 U s1 l1 a1)).length by omega);have hidx:(im (lQ j (.mk k1 U s1 l1 a1)))[((r:Int)-1).toNat]? =some [fD kb,fD mb,fG sb,.sl 3 (iR lb),.sl 5 (im ab)]:=(by rw[show((r:Int)-1).toNat=r-1 by omega,rm k];rfl);have hlm:=SI (gl:=gl) kb mb sb lb ab V W Y l9 a9;refine ma 4 [0,1] mixed ?_;refine A1 2 rfl (Q4 iQ iY ⟨_,rfl,?_⟩ (he:=by exact(hidx)));refine ga [3,4] ?_;refine qB 5 hlm ?_;refine nO 6 ?_;refine iB<|sH 4 ?_;refine rF 2 ?_;refine bk ((r-1,4,0,.empty,[],[.mk kb mb sb lb ab,.mk V W Y l9 a9])) rfl ?_ ([0,1,2,3,4,5,6,7,8,9]) ?_
 .obtain ⟨r',rfl⟩:∃r',r=r'+1:=⟨r-1,O⟩;refine⟨⟨O,?_⟩,show r'+1-1<r'+1 by omega⟩;rw[b.2,bo,show(lQ j (.mk k1 U s1 l1 a1))[r']? =some (.mk kb mb sb lb ab) from k];exact AE _ _ _
 .refine mo ?_ (yu rfl (by exact Fit.of_eq (by show SV.d (D.v (Value.int .i64 ((r:Int)-1-1)))=SV.d (D.v (Value.int .i64 (((r-1:Nat):Int)-1)));rw[show((r-1:Nat):Int)=(r:Int)-1 by omega])) (iU (iU (iU rA))))
  repeat (first|exact nw|refine jN ?_|refine oT ?_)
end
def ie.kd:ie->Int| .mk k _ _ _ _=>k
inductive qZ where
 |ok (u:ie) (d:Nat)
 |ja
inductive Qo where
 |step (u:ie) (d:Nat)
 |stuck (d:Nat)
 |ja
def ym(e:iI):Nat:=e.d.ar.toNat+1+e.d.cs.length+(iv e.d.ty-e.d.ar.toNat)
def DS(i:fB)(h:ie)(c:List ie)(p:Nat)(e X cs:List ie):Nat->List ie
 |0=>[]
 |j+1=>DS i h c p e X cs j++(if p<=j/\nP (rW i) (X.getD j iu) 0=true then[Em h c p (X.getD j iu) (e++(cs.drop p).take (j-p)) (cs.getD j iu)] else[])
def rb(e:iI)(h:ie)(c j:List ie)(i:Nat)(q:ie)(r:List iq):ie:=
 iF (iF (iF (c.getD (e.d.ar.toNat+1+i) iu) (j.drop e.d.ar.toNat))
  (DS e.d.nm h (c.take (e.d.ar.toNat+1+e.d.cs.length)) e.d.ar.toNat (c.take e.d.ar.toNat) (lQ j.length (ld e.d.ps r q)) j j.length)) (c.drop (ym e+1))
def qQ(j:List iI)(e:iI)(h:ie)(q:List ie)(i:Nat)(c:ie)(r:List iq):Prop:=
 ∃s b nm,h=.mk 2 0 s r []/\iw s j=(4,b,i)/\b.d.nm=e.d.nm/\e.d.cs[i]? =some (nm,c)/\q.length=iv c
def RI (q : List iI) (c : Nat) (R : ie -> Nat -> qZ -> Prop) (e : iI) (h : ie) (j : List ie) (r : Nat) (o : Qo) : Prop :=
  (j.length <= ym e /\ o = .stuck r) \/
  ∃ x, j[ym e]? = some x /\ ((R x r .ja /\ o = .ja) \/ ∃ k d1, R x r (.ok k d1) /\
    (((∀ i b us, ¬ qQ q e (ig k).1 (ig k).2 i b us) /\ o = .stuck d1) \/
     ∃ i b us, qQ q e (ig k).1 (ig k).2 i b us /\ ((c <= d1 /\ o = .ja) \/
      (d1 < c /\ (ld e.d.ps us b).size <= 20000 /\ (rb e h j (ig k).2 i b us).size <= 20000 /\ o = .step (rb e h j (ig k).2 i b us) (d1 + 1)))))
def Bh(c e:Nat)(R:ie->Nat->qZ->Prop)(u v:ie)(o:qZ):Prop:=(c<=e/\o=.ja)\/(e<c/\v.size<=20000/\R u (e+1) o)
def wk(c:List iI)(h:ie)(e:List ie):Prop:=
 ¬(ie.kd h=4/\e≠[])/\¬ie.kd h=6/\∀s us,h=.mk 2 0 s us []->¬((iw s c).1=2/\(iw s c).2.1.d.ps.length=us.length)/\¬((iw s c).1=5/\(iw s c).2.1.rp.length=us.length)
def Tb(R:ie->Nat->qZ->Prop)(t:ie)(o:qZ):Qo->Prop
 | .step u d=>R u d o
 | .stuck d=>o=.ok t d
 | .ja=>o=.ja
def RW(c:List iI)(most:Nat):Nat->ie->Nat->qZ->Prop
 |0,_,_,_=>False
 |n+1,t,d,o=>
  (∃ A b a r,(ig t).1=.mk 4 0 .empty [] [A,b]/\(ig t).2=a::r/\Bh most d (RW c most n) (iF (jJ b a) r) (jJ b a) o)\/
  (∃ A v b,(ig t).1=.mk 6 0 .empty [] [A,v,b]/\Bh most d (RW c most n) (iF (jJ b v) (ig t).2) (jJ b v) o)\/
  (∃ s us e j,(ig t).1=.mk 2 0 s us []/\iw s c=(2,e,j)/\e.d.ps.length=us.length/\Bh most d (RW c most n) (iF (ld e.d.ps us e.d.vl) (ig t).2) (ld e.d.ps us e.d.vl) o)\/
  (∃ s us e j io,(ig t).1=.mk 2 0 s us []/\iw s c=(5,e,j)/\e.rp.length=us.length/\RI c most (RW c most n) e (.mk 2 0 s us []) (ig t).2 d io/\Tb (RW c most n) t o io)\/
  (wk c (ig t).1 (ig t).2/\o=.ok t d)
theorem By(e i t):iv (ld e i t)=iv t:=by
 suffices h:∀(n:Nat) (t:ie),t.size<=n->iv (ld e i t)=iv t from h _ t (ae _)
 intro n
 induction n with
 |zero=>intro t h;obtain⟨k,m,s,ls,args,rfl⟩:=ie.case t;simp[ie.size] at h
 |succ n U=>
  intro t h
  match t with
  | .mk k m s ls [a,b]=>
   simp only[ie.size,ij] at h;simp only[ld,lZ,iv];rw[U b O]
  | .mk k m s ls []=>simp[ld,lZ,iv]
  | .mk k m s ls [a]=>simp[ld,lZ,iv]
  | .mk k m s ls (a::b::c::r)=>simp[ld,lZ,iv]
theorem Z7(F:0<=c)(H:Wt r s h c)(I:∀x∈e,Wt r s x c)(J:∀x∈i,Wt r s x c)(z:i.length=p)(M:∀(j:Nat) x,X[j]? =some x->Wt r s x (c+j))(C:∀x∈q,Wt r s x c)(V:X.length=q.length):
 ∀j,j<=q.length->∀x∈DS G h e p i X q j,Wt r s x c:=by
 intro j
 induction j with
 |zero=>intro _ x hx;cases hx
 |succ j k=>
  intro W x hx;rw[DS] at hx;rcases bn.1 hx with hx|hx
  .exact k O x hx
  .split at hx
   .rename_i b;simp only[bF] at hx;subst hx;have U:X.getD j iu=X[j]'O:=by rw[ba,aZ O];rfl
    have R:q.getD j iu=q[j]'O:=by rw[ba,aZ O];rfl
    rw[U,R];refine Wt.Em F H I (λy hy=>?_) (C _ (bS _)) ?_
    .rcases bn.1 hy with hy|hy
     .exact J y hy
     .exact C y (cF (bJ hy))
    .have S:(i++(q.drop p).take (j-p)).length=j:=by
      rw[aN,bj,bK,z];omega
     rw[S];exact M j _ (aZ O)
   .cases hx
theorem Kb{es:List iI}(S:0<=c)(he:G1 r e)(hk:e.d.k=3)(V:Wt r y h c)(C:∀x∈F,Wt r y x c)(M:∀x∈s,Wt r y x c)(W:∀u∈z,qV y u)(G:e.d.ps.length<=z.length)(H:Wt r e.d.ps q 0)(R:s.length=iv q)(I:ym e<F.length)(hi:i<e.d.cs.length):
 Wt r y (rb e h F s i q z) c:=by
 have Y:=H.Ny G W;have k:=By e.d.ps z q;have U:=Y.yN s.length (by rw[k,R];exact ae _);have J:=jx s.length (ld e.d.ps z q) (by rw[k,R];exact ae _);unfold ym at I;refine Wt.apply (Wt.apply (Wt.apply ?_ λx b=>M x (cF b)) ?_) λx b=>C x (cF b)
 .rw [ba,aZ O];exact C _ (bS _)
 .exact Z7 S V (λx b=>C x (bJ b)) (λx b=>C x (bJ b)) (by rw[bj];omega) (λj x b=>(U.2 j x b).up O) M J s.length (ae _)
theorem nY{nm:fB}:∀{es:List iI} {k:Int} {e:iI} {j:Nat},iw nm es=(k,e,j)->k≠0->(k=e.d.k\/k=4\/(k=5/\e.d.k=3))
 |[],k,e,j,h,b=>by rw[iw] at h;cases h;exact absurd rfl b
 |x::r,k,e,j,h,b=>by
  rw[iw] at h;split at h
  .cases h;exact .inl rfl
  .split at h
   .cases h;exact .inr (.inl rfl)
   .split at h
    .rename_i U;cases h;exact .inr (.inr ⟨rfl,U.1⟩)
    .exact nY h b
theorem n9{nm:fB}(h:iw nm es=(i,e,j))(c:i≠0):e∈es:=by
 have:=zN (nm:=nm) (es:=es) (by rw[h];exact c);rw[h] at this;exact this
theorem yF(q:ko c)(e:a∈c)(i:y∈c)(h:a.d.nm=y.d.nm):a=y:=by
 have k:=q.nd;generalize c=l at e i k
 induction l with
 |nil=>cases e
 |cons x r s=>
  rw[bG,cG] at k;rcases bh.1 e with j|ha'
  .rcases bh.1 i with U|hb'
   .rw [j,U]
   .rw [<- j] at k;exact absurd (bD.2 ⟨y,hb',h.symm⟩) k.1
  .rcases bh.1 i with U|hb'
   .rw [<- U] at k;exact absurd (bD.2 ⟨a,ha',h⟩) k.1
   .exact s ha' hb' k.2
theorem xl(x:ko es)(z:e∈es)(F:Wt (jY es) y h c)(H:qQ es e h C i j q):
 i<e.d.cs.length/\(∀ u∈q,qV y u)/\e.d.ps.length=q.length/\Wt (jY es) e.d.ps j 0/\j.size<=800001/\C.length=iv j/\e.d.ar<=iv j:=by
 obtain⟨s,I,nm,rfl,G,J,b,M⟩:=H;have U:I=e:=yF x (n9 G Z) z J;subst U;have R:=(aJ.1 b).1;have r:=(x.AZ _ z).cs _ (aO b);refine⟨R,F.1,?_,r.1,r.2.1,M,r.2.2⟩;rcases F.2.2 with h2|h2|h2|h2|h2
 .omega
 .omega
 .obtain ⟨_,_,k,_⟩:=h2;unfold jY at k;rw[NP G rfl b] at k;simp only[bH,an] at k;exact k
 .omega
 .omega
theorem qa(h:Wt e i t c):t.size=(ig t).1.size+ij (ig t).2+(ig t).2.length:=by
 obtain⟨_,_,_,b⟩:=Wt.spine _ (ae _) h;have:=jG (ig t).1 (ig t).2;rw[b] at this;exact this
theorem vB(S:ko y)(W:0<=c):∀(n:Nat) {t:ie} {d:Nat} {u:ie} {q:Nat},RW y most n t d (.ok u q)->d<=most->Wt (jY y) V t c->
 Wt (jY y) V u c/\d<=q/\q<=most/\u.size+30000*(most-q)<=t.size+30000*(most-d):=by
 intro n
 induction n with
 |zero=>intro t d u q h;exact h.elim
 |succ n Y=>
  intro t d u q h hd hw;obtain⟨_,F,G,_⟩:=Wt.spine _ (ae _) hw;have hz:=qa hw;have k:∀{v x:ie},Bh most d (RW y most n) x v (.ok u q)->Wt (jY y) V x c->(v.size<=20000->x.size<=t.size+20000)->Wt (jY y) V u c/\d<=q/\q<=most/\u.size+30000*(most-q)<=t.size+30000*(most-d):=by
   intro v x hs hx hsz;rcases hs with⟨_,U⟩|⟨H,U,z⟩
   .cases U
   .obtain ⟨J,g2,g3,g4⟩:=Y z O hx;have:=hsz U;exact⟨J,O,g3,O⟩
  rcases h with⟨A,b,a,r,H,U,z⟩|⟨A,v,b,H,z⟩|⟨s,us,e,j,H,U,h4,z⟩|⟨s,us,e,j,io,H,U,h4,h5,M⟩|⟨_,z⟩
  .rw [H] at F hz;obtain⟨a',b',I,_,_,_,hA1,C⟩:=F.two (.inr (.inl rfl));cases I;rw[if_neg Z] at C;rw[U] at G hz;refine k z (Wt.apply (Wt.sub W C (G a bC)) λx hx=>G x (bB _ hx)) λhv=>?_
   rw[jG];simp only[ij,aj] at hz;omega
  .rw [H] at F hz;obtain⟨A',v',b',I,_,_,_,hA1,hV1,C⟩:=F.three rfl;cases I;refine k z (Wt.apply (Wt.sub W C hV1) G) λhv=>?_
   rw[jG];omega
  .rw [H] at F hz;have R:=n9 U Z;have hk:e.d.k=2:=by
    rcases nY U Z with h|h|h
    .exact h.symm
    .omega
    .omega
   have hv:=((S.AZ _ R).vl hk).1.Ny (us:=us) O F.1;refine k z (Wt.apply (hv.up W) G) λhv=>?_
   rw[jG];omega
  .rw [H] at F hz;have R:=n9 U Z;have hk:e.d.k=3:=by
    rcases nY U Z with h|h|h
    .rcases (S.AZ _ R).k with h'|h'|h'<;>omega
    .omega
    .exact h.2
   rcases h5 with⟨J,rfl⟩|⟨x,J,⟨_,rfl⟩|⟨mj,d1,g2,⟨_,rfl⟩|⟨i,cty,us2,g3,⟨_,rfl⟩|⟨g4,g5,g6,rfl⟩⟩⟩⟩
   .cases M;exact⟨hw,ae _,hd,ae _⟩
   .cases M
   .cases M;obtain⟨_,q2,q3,_⟩:=Y g2 hd (G x (aO J));exact⟨hw,q2,q3,O⟩
   .cases M
   .obtain ⟨q1,q2,q3,q4⟩:=Y g2 hd (G x (aO J));obtain⟨_,qH,qA,_⟩:=Wt.spine _ (ae _) q1;obtain⟨w1,w2,w3,w4,w5,w6,w7⟩:=xl S R qH g3;have hI:=Kb (es:=y) W (S.AZ _ R) hk F G qA w2 O w4 w6 (aJ.1 J).1 w1;obtain⟨p1,p2,p3,p4⟩:=Y M O hI;exact⟨p1,O,p3,O⟩
  .cases z;exact⟨hw,ae _,hd,ae _⟩
section
attribute [local irreducible] iK iL jI ik iW jH
def Ws(e:List iI)(c n:Nat)(t:ie)(q:Nat)(j:Int)(h:Out)(i:List Ob):Prop:=
 ∃(u:ie) (b:Nat) (k U:Bool),h=.ret (.d u.d)/\i=[iD e U,iC,tf b c k j]/\q<=b/\b<=c/\(U=false->(k=true/\RW e c n t q .ja)\/(k=false/\RW e c n t q (.ok u b)))
def RO(i:Nat->List D)(h:List iI)(j:List fB)(c:Int)(e n:Nat):Prop:=
 ∀(k m:Int) (s:fB) (ls:List iq) (args:List ie) (d:Nat) (b:Int),d<=e->(ie.mk k m s ls args).size+30000*(e-d)<n->(ie.mk k m s ls args).size+30000*(e-d)<=1000000000000->Wt (jY h) j (.mk k m s ls args) c->
  jT fC i 51 [iD h false,iC,tf d e false b] [.jk 0 0,.d (ie.mk k m s ls args).d,.jk 2 0] (Ws h e n (.mk k m s ls args) d b)
def aeg(i:List iI)(c n:Nat)(e:iI)(h:ie)(j:List ie)(y:Nat)(x:Int)(q:Out)(r:List Ob):Prop:=
 ∃(u:ie) (b:Bool) (k:Nat) (U s:Bool),q=.ret (.d (.jj [u.d,.v (.bool b)]))/\r=[iD i s,iC,tf k c U x]/\y<=k/\k<=c/\
  (s=false->(U=true/\b=false/\RI i c (RW i c n) e h j y .ja)\/(U=false/\b=false/\RI i c (RW i c n) e h j y (.stuck k))\/(U=false/\b=true/\RI i c (RW i c n) e h j y (.step u k)))
theorem xA(j c:Nat)(t:Bool)(p:Int)(i:j<=1099511627776):
 jT fC e 84 [tf j c t p] [.jk 0 0] λout ob'=> ∃(ok:Bool) (d2:Nat) (t2:Bool),out=.ret (fH ok)/\ob'=[tf d2 c t2 p]/\((ok=false/\c<=j/\d2=j/\t2=true)\/(ok=true/\j<c/\d2=j+1/\t2=t)):=
 (Sb j c t p ⟨O,O⟩).mono λo b h=>by
  rcases h with⟨k,rfl,rfl⟩|⟨k,rfl,rfl⟩
  .exact ⟨false,j,true,rfl,rfl,.inl ⟨rfl,O,rfl,rfl⟩⟩
  .exact ⟨true,j+1,t,rfl,rfl,.inr ⟨rfl,O,rfl,rfl⟩⟩
theorem Iu(h j m s e c)(i:(ie.mk j m s e c).size<=1099511627776):
 jA fC gl 123 [(ie.mk j m s e c).d,fG h] (· =fF (nP (rW h) (.mk j m s e c) 0)):=by
 refine oN Tryz.func123 8 ?_;refine ny 10 (uQ h _ j m s e c (ae _) i) ?_;refine od 4 ?_;rfl
theorem DC(l i):ij (l.take i)<=ij l:=by
 induction l generalizing i with
 |nil=>simp[ij]
 |cons a r b=>
  cases i with
  |zero=>simp[ij]
  |succ i=>have:=b i;simp only[du,ij];omega
theorem qR(c l x):iF c (l++[x])=.mk 3 0 .empty [] [iF c l,x]:=by
 unfold iF;rw[eg];rfl
theorem qG(l p):(im l).take ((p:Nat):Int).toNat=im (l.take p):=by
 rw[cb]
 induction l generalizing p with
 |nil=>simp[im]
 |cons a r b=>cases p with
  |zero=>simp[im]
  |succ p=>simp only[im,du,b]
def dO(G:Int)(s:fB)(c:List fB)(e h:Int)(i:fB)(j:List iq)(q:List ie)(r x:Int)(y:fB)(z:List iq)(C:List ie)(a:Int)(F:List (fB×ie)):Ob:=
 .cells [.d (.v (.int .i64 G)),.d (.v (.string s)),.d (.sl 1 (strs c)),.d (.v (.int .i64 e)),.d (.v (.int .i64 h)),.d (.v (.string i)),.d (.sl 3 (iR j)),.d (.sl 5 (im q)),.d (.v (.int .i64 r)),.d (.v (.int .i64 x)),.d (.v (.string y)),.d (.sl 3 (iR z)),.d (.sl 5 (im C)),.d (.v (.int .i64 a)),.d (.sl 6 (qW F))] 61
def eO(S:Int)(s:fB)(c:List fB)(e h:Int)(i:fB)(j:List iq)(q:List ie)(r x:Int)(y:fB)(z:List iq)(C:List ie)(a:Int)(F:List (fB×ie))(G:List fB)(H I:Int)(J:fB)(M:List iq)(R:List ie):Ob:=
 .cells [.d (.v (.int .i64 S)),.d (.v (.string s)),.d (.sl 1 (strs c)),.d (.v (.int .i64 e)),.d (.v (.int .i64 h)),.d (.v (.string i)),.d (.sl 3 (iR j)),.d (.sl 5 (im q)),.d (.v (.int .i64 r)),.d (.v (.int .i64 x)),.d (.v (.string y)),.d (.sl 3 (iR z)),.d (.sl 5 (im C)),.d (.v (.int .i64 a)),.d (.sl 6 (qW F)),.d (.sl 1 (strs G)),.d (.v (.int .i64 H)),.d (.v (.int .i64 I)),.d (.v (.string J)),.d (.sl 3 (iR M)),.d (.sl 5 (im R))] 63
theorem TT:∀(n:Nat) (t:ie) (j:Nat),j<n->n<=iv t->∀{m:Int} {s:fB} {ls:List iq} {a b:ie},jQ j t=.mk 5 m s ls [a,b]->(lQ n t)[j]? =some a:=by
 intro n
 induction n with
 |zero=>intro t j h;omega
 |succ n e=>
  intro t j r x m s ls a b U;obtain⟨y,s1,l1,a1,b1,c,z,i,C⟩:=oX n t O;have q:=jx n t O;rw[i];by_cases k:j<n
  .rw [bl O];exact e t j k O U
  .obtain rfl:j=n:=O;rw[bA O,q,bL];rw[U] at c;cases c;rfl
theorem Ke{nm:fB}{f:List ie}{pre cs:List ie}(e:p<=j)(i:X.getD j iu=a)(q:cs.getD j iu=c)(r:nP (rW nm) a 0=true):
 DS nm h f p pre X cs (j+1)=DS nm h f p pre X cs j++[Em h f p a (pre++(cs.drop p).take (j-p)) c]:=by
 rw[DS,i,q,if_pos ⟨e,r⟩]
theorem O9(q:X.getD j iu=a)(r:¬(p<=j/\nP (rW e) a 0=true)):
 DS e h s p c X i (j+1)=DS e h s p c X i j:=by
 rw[DS,q,if_neg r,bR]
theorem HK(a c):(ie.mk 3 0 .empty [] [a,c]).size=1+(a.size+(c.size+0)):=by
 simp only[ie.size,iG,ij]
set_option maxHeartbeats 1600000 in
theorem SK(hE:ko G){ps:List fB}(hcc:0<=c/\c<=1099511627776)(hm:y<=1000000)(hW:RO gl G ps c y n)
 (kd:Int) (R:fB) (pd:List fB) (k1 n1:Int) (s1:fB) (l1:List iq) (a1:List ie) (k2 n2:Int) (s2:fB) (l2:List iq) (a2:List ie) (ad:Int) (C:List (fB×ie)) (rp:List fB) (k3 n3:Int) (s3:fB) (l3:List iq) (a3:List ie)
 (hem:(⟨.mk kd R pd (.mk k1 n1 s1 l1 a1) (.mk k2 n2 s2 l2 a2) ad C,rp,.mk k3 n3 s3 l3 a3⟩:iI)∈G) (hk:kd=3) (hn:fB) (F:List iq) (z:List ie) (d:Nat) (pr:Int) (hdm:d<=y)
 (hh:Wt (jY G) ps (.mk 2 0 hn F []) c) (hzh:(ie.mk 2 0 hn F []).size<=1000000000000) (ha:∀x∈z,Wt (jY G) ps x c) (hza:ij z<=1000000000000) (hgas:∀x∈z,x.size+30000*(y-d)<n/\x.size+30000*(y-d)<=1000000000000):
 jT fC gl 86 [iD G false,iC,tf d y false pr] [.jk 0 0,.d (ie.mk 2 0 hn F []).d,.d (.sl 5 (im z)),.d (iI.dd ⟨.mk kd R pd (.mk k1 n1 s1 l1 a1) (.mk k2 n2 s2 l2 a2) ad C,rp,.mk k3 n3 s3 l3 a3⟩),.jk 2 0]
  (aeg G y n ⟨.mk kd R pd (.mk k1 n1 s1 l1 a1) (.mk k2 n2 s2 l2 a2) ad C,rp,.mk k3 n3 s3 l3 a3⟩ (.mk 2 0 hn F []) z d pr):=by
 have hent:=hE.AZ _ hem;obtain⟨har0,har1⟩:=hent.ar hk;obtain⟨hty,htz⟩:=hent.ty;have hcl0:=hent.cl;have hpd:=hent.ps;simp only[mJ.ar,mJ.ty,mJ.cs,mJ.ps] at har0 har1 hty htz hcl0 hpd;obtain⟨P,rfl⟩:∃P:Nat,ad=P:=⟨ad.toNat,O⟩;have hpz:=nE _ (.mk k1 n1 s1 l1 a1) (ae _);have hpt:=se (gl:=gl) (B:=1099511627776) k1 n1 s1 l1 a1 (hty.sh O) O;have hccl:=sZ C;have hal:=ir z;have hsa:=iJ z;generalize hE':(⟨.mk kd R pd (.mk k1 n1 s1 l1 a1) (.mk k2 n2 s2 l2 a2) (P:Int) C,rp,.mk k3 n3 s3 l3 a3⟩:iI)=e;have hdd:e.dd=iI.dd ⟨.mk kd R pd (.mk k1 n1 s1 l1 a1) (.mk k2 n2 s2 l2 a2) (P:Int) C,rp,.mk k3 n3 s3 l3 a3⟩:=by rw[hE']
 rw[hdd];have heA:ym e=P+1+C.length+(iv (.mk k1 n1 s1 l1 a1)-P):=by rw[<- hE'];unfold ym;simp only[mJ.ar,mJ.ty,mJ.cs,cb]
 have heP:e.d.ar.toNat=P:=by rw[<- hE'];simp only[mJ.ar,cb]
 have heC:e.d.cs=C:=by rw[<- hE'];rfl
 have heN:e.d.nm=R:=by rw[<- hE'];rfl
 have hePs:e.d.ps=pd:=by rw[<- hE'];rfl
 have hem':e∈G:=by rw[<- hE'];exact hem
 have hent':=hE.AZ _ hem';generalize hA:ym e=A at heA;have hAt:(P:Int)+1+((qW C).length:Int)+((iv (.mk k1 n1 s1 l1 a1):Int)-P)=(A:Int):=O;refine nR Tryz.func86 242 3 ?_;refine ny 35 hpt ?_;refine sH 1 ?_;refine jS 6 ?_;refine jS 1 ?_;refine jS 1 ?_;refine rF 5 ?_;rw[hAt];refine jq 7 ?_ ?_<;>intro h6
 .refine jD 9 (.jj [iu.d,fF false]) [0,1,2] [iD G false,iC,tf d y false pr] ⟨iu,false,d,false,false,rfl,rfl,ae _,hdm,λ_=>.inr (.inl ⟨rfl,rfl,.inl ⟨O,rfl⟩⟩)⟩
 obtain⟨kx,mx,sx,lx,ax,hgx⟩:=iZ (show A<z.length by omega);have hwx:=ha _ (aO hgx);have hgg:=hgas _ (aO hgx);have hWx:=hW kx mx sx lx ax d pr hdm hgg.1 hgg.2 hwx;refine ni 7 iQ iY ?_ (hat:=(jr hgx));refine uo 2 hWx [0,1,2] ?_;rintro s ob' ⟨⟨kq,mq,sq,lq,aq⟩,d1,t1,w1,⟨⟩,rfl,hd1,hd2,hres⟩;refine uv ?_;refine rV 12 70 66 4 ?_;refine jq 2 ?_ ?_<;>intro h9
 .refine jD 9 (.jj [iu.d,fF false]) [0,1,2] [iD G w1,iC,tf d1 y t1 pr] ?_
  .refine ⟨iu,false,d1,t1,w1,rfl,rfl,hd1,hd2,λhw=>?_⟩;rcases hres hw with⟨h1,h2⟩|⟨h1,h2⟩
   .exact .inl ⟨h1,rfl,.inr ⟨_,by rw[hA];exact hgx,.inl ⟨h2,rfl⟩⟩⟩
   .rcases h9 with h3|h3
    .rw [h1] at h3;cases h3
    .rw [hw] at h3;cases h3
 have ht1:t1=false:=(by rcases h9 with⟨h3,k⟩;first|exact h3|simpa using h3);have hw1:w1=false:=(by rcases h9 with⟨h3,k⟩;first|exact k|simpa using k);subst ht1 hw1;have hr:RW G y n (.mk kx mx sx lx ax) d (.ok (.mk kq mq sq lq aq) d1):=(by rcases hres rfl with⟨h3,_⟩|⟨_,k⟩;cases h3;exact k);obtain⟨hj1,hj2,hj3,hj4⟩:=vB hE hcc.1 n hr hdm hwx;obtain⟨hqok,hqH,hqA,_⟩:=Wt.spine _ (ae _) hj1;have hspn:=oW (gl:=gl) kq mq sq lq aq hqok O;have hss:=mQ _ (.mk kq mq sq lq aq) (ae _);rcases hS:ig (.mk kq mq sq lq aq) with⟨⟨kh,mh,sh,lh,ah⟩,cs⟩;rw[hS] at hspn hss hqH hqA;refine rF 3 ?_;simp only at hspn hss hqH hqA;have hcsl:=ir cs;have hcss:=iJ cs;have hRIs:(∀ i cty us,¬qQ G e (.mk kh mh sh lh ah) cs i cty us)->RI G y (RW G y n) e (.mk 2 0 hn F []) z d (.stuck d1):=λh=>.inr ⟨_,by rw[hA];exact hgx,.inr ⟨_,d1,hr,.inl ⟨by rw[hS];exact h,rfl⟩⟩⟩
 refine ny 2 hspn ?_;refine jq 16 ?_ ?_<;>intro h12
 .refine jD 9 (.jj [iu.d,fF false]) [0,1,2] [iD G false,iC,tf d1 y false pr] ?_
  .refine ⟨iu,false,d1,false,false,rfl,rfl,hd1,hd2,λ_=>.inr (.inl ⟨rfl,rfl,hRIs λi cty us h=>?_⟩)⟩;obtain⟨_,_,_,h3,_⟩:=h;cases h3;exact h12 rfl
 have hkh:kh=2:=(by first|exact h12|omega);subst hkh;obtain⟨rfl,rfl⟩:mh=0/\ah=[]:=(by
  rcases hqH.2.2 with h3|h3|h3|h3|h3
  .omega
  .omega
  .exact ⟨h3.2.1,ch h3.2.2.2⟩
  .omega
  .omega)
 have hfs:=find_spec (gl:=gl) G false sh hE.b;rcases hF:iw sh G with⟨kf,⟨⟨kg,sg',pg,⟨u1,v1,x1,y1,z1⟩,⟨u2,v2,x2,y2,z2⟩,ag,cg⟩,rg,⟨u3,v3,x3,y3,z3⟩⟩,jf⟩;rw[hF] at hfs;dsimp only at hfs;obtain⟨kK,mK,sK,lK,aK,hCT⟩:=ie.case (C.getD jf (.empty,iu)).2
 have hCTok:oD 1099511627776 (.mk kK mK sK lK aK)/\(ie.mk kK mK sK lK aK).size<=800001:=(by
  rw[<- hCT,ba];cases hg:C[jf]? with
  |none=>exact⟨⟨λl hl=>(by cases hl),trivial,.inl ⟨rfl,⟨Z,Z⟩,rfl,rfl,rfl⟩⟩,Z⟩
  |some x=>
   have h3:=hent'.cs x (by rw[heC];exact aO hg);exact⟨h3.1.sh (show(0:Int)+(x.2.size:Int)<=1099511627776+1 by have:=h3.2.1;omega),h3.2.1⟩)
 have hpc:=se (gl:=gl) (B:=1099511627776) kK mK sK lK aK hCTok.1 (by have:=hCTok.2;omega);have hgc:kf=4->sg'=R->C[jf]? =some ((C.getD jf (.empty,iu)).1,.mk kK mK sK lK aK):=(λh3 k=>by
  subst h3;have h5:=yF hE (n9 hF Z) hem' (by rw[heN];exact k);obtain⟨x,hx,_⟩:=vt (nm:=sh) hE.k4 (by rw[hF]);rw[hF] at hx;have h6:e.d.cs[jf]? =some x:=(by rw[<- h5];exact hx);rw[heC] at h6;rw[<- hCT,ba,h6];rfl)
 have hgl:kf=4->sg'=R->jf<C.length:=(λh3 k=>(aJ.1 (hgc h3 k)).1);have hno:∀i cty us,qQ G e (.mk 2 0 sh lh []) cs i cty us->kf=4/\sg'=R/\i=jf/\cty=.mk kK mK sK lK aK/\us=lh/\cs.length=iv (.mk kK mK sK lK aK):=(λi cty us h=>by
  obtain⟨s',e2,nm',h3,k,h5,h6,h7⟩:=h;simp only[ie.mk.injEq] at h3;obtain⟨_,_,rfl,rfl,_⟩:=h3;rw[hF] at k;simp only[bW] at k;obtain⟨rfl,rfl,rfl⟩:=k;rw[heN] at h5;have h8:=hgc rfl h5;rw[heC] at h6;rw[h6] at h8;simp only[an,bW] at h8;exact⟨rfl,h5,rfl,h8.2,rfl,by rw[<- h8.2];exact h7⟩)
 refine nC 7 hfs [0,1] ?_;refine rV 16 98 92 6 ?_;refine' Cg 1 110 100 10 ?a3 ?_
 case a3=>
  intro hc hK;refine ni 5 G4 Jt ?_ (hat:=(x8 (hgc hc.1 hc.2)));refine ny 2 hpc ?_;refine rF 1 ?_;exact hK [_,_,_,_,_,_,_,_,_,_] rfl rfl
 refine jq 2 ?_ ?_<;>intro h15
 .refine jD 9 (.jj [iu.d,fF false]) [0,1,2] [iD G false,iC,tf d1 y false pr] ?_
  .refine ⟨iu,false,d1,false,false,rfl,rfl,hd1,hd2,λ_=>.inr (.inl ⟨rfl,rfl,hRIs λi cty us h=>?_⟩)⟩;obtain⟨h3,k,_,_,_,h5⟩:=hno i cty us h;rcases h15 with(h6|h6)|h6
   .exact h6 h3
   .exact h6 k
   .omega
 have hk4:kf=4:=(by first|exact h15.1.1|omega);have hsn:sg'=R:=(by first|exact h15.1.2|exact(h15.1).2);have hpl:cs.length=iv (.mk kK mK sK lK aK):=(by have h3:=h15.2;omega);subst hk4;have hci:=hgc rfl hsn;have hct:qQ G e (.mk 2 0 sh lh []) cs jf (.mk kK mK sK lK aK) lh:=⟨sh,_,_,rfl,hF,by rw[heN];exact hsn,by rw[heC];exact hci,hpl⟩;obtain⟨hi1,hi2,hi3,hi4,hi5,_,hi7⟩:=xl hE hem' hqH hct;rw[heC] at hi1;rw[hePs] at hi3 hi4;have hPc:P<=cs.length:=(by have h3:e.d.ar=(P:Int):=(by rw[<- hE'];rfl);omega);refine uo 5 (xA d1 y false pr O) [2] ?_;rintro s ob' ⟨ok,d2,t2,⟨⟩,rfl,hst⟩;refine uv ?_;refine jq 10 ?_ ?_<;>intro h18
 .refine jD 9 (.jj [iu.d,fF false]) [0,1,2] [iD G false,iC,tf d2 y t2 pr] ?_
  .rcases hst with⟨h3,k,h5,h6⟩|⟨h3,_⟩
   .refine ⟨iu,false,d2,t2,false,rfl,rfl,O,O,λ_=>.inl ⟨h6,rfl,.inr ⟨_,by rw[hA];exact hgx,.inr ⟨_,d1,hr,.inr ⟨jf,.mk kK mK sK lK aK,lh,?_,.inl ⟨k,rfl⟩⟩⟩⟩⟩⟩;rw[hS];exact hct
   .rw [h3] at h18;simp at h18
 have hst':d1<y/\d2=d1+1/\t2=false:=(by
  rcases hst with⟨h3,_⟩|⟨_,k,h5,h6⟩
  .rw [h3] at h18;simp at h18
  .exact ⟨k,h5,h6⟩)
 obtain⟨hlt,rfl,rfl⟩:=hst';obtain⟨km,mm,sm,lm,am,hgm⟩:=iZ (show P+1+jf<z.length by omega);have hidx20:(im z)[((P:Int)+1+(jf:Int)).toNat]? =some [fD km,fD mm,fG sm,.sl 3 (iR lm),.sl 5 (im am)]:=(by rw[show((P:Int)+1+(jf:Int)).toNat=P+1+jf by omega,rm hgm];rfl);have hmz:=iO hgm;refine jS 6 ?_;refine jS 1 ?_;refine ni 0 iQ iY ?_ (hat:=hidx20);refine pt 13 (ι:=Nat×Int×Int×fB×List iq×List ie) (λ⟨q,k7,m7,s7,l7,a7⟩=>[(25,int ((P+q:Nat):Int))]) (λ⟨q,k7,m7,s7,l7,a7⟩=>[iD G false,iC,tf ((d1+1:Nat):Int) y false pr,tO 2 0 hn F [],eO kd R pd k1 n1 s1 l1 a1 k2 n2 s2 l2 a2 (P:Int) C rp k3 n3 s3 l3 a3,zO,dO kd R pd k1 n1 s1 l1 a1 k2 n2 s2 l2 a2 (P:Int) C,tO kq mq sq lq aq,tO 2 0 sh lh [],eO kg sg' pg u1 v1 x1 y1 z1 u2 v2 x2 y2 z2 ag cg rg u3 v3 x3 y3 z3,tO k7 m7 s7 l7 a7]) [24,22,19,18,16,14,13,12,10,6,0,2] (λ⟨q,k7,m7,s7,l7,a7⟩=>q<=cs.length-P/\iF (.mk km mm sm lm am) ((cs.drop P).take q)=.mk k7 m7 s7 l7 a7) (λ⟨q,k7,m7,s7,l7,a7⟩=>cs.length-P-q) ((0,km,mm,sm,lm,am)) ([0,1,2,3,4,5,6,7,8,9,10]) ⟨ak _,rfl⟩ ?_ (hM:=by exact oL (j8 rfl (by exact Fit.of_eq (by rfl))));rintro⟨q,k7,m7,s7,l7,a7⟩ b
 try dsimp only at b
 refine jq 9 ?_ ?_<;>intro h22
 .obtain ⟨U,H,I,J,M,hget⟩:=iZ (show P+q<cs.length by omega);have hgd:(cs.drop P)[q]? =some (.mk U H I J M):=(by rw[bX];exact hget);have hap:=lS (gl:=gl) k7 m7 s7 l7 a7 U H I J M;refine ma 4 [0,1,2] mixed ?_;refine pQ 3 iQ iY ?_ (hat:=(jr hget));refine ga [4] ?_;refine qB 5 hap ?_;refine nO 6 ?_;refine iB<|jS 4 ?_;refine ml 2 ((q+1,3,0,.empty,[],[.mk k7 m7 s7 l7 a7,.mk U H I J M])) ([0,1,2,3,4,5,6,7,8,9,10]) ⟨⟨O,by rw[ph hgd,b.2]⟩,show cs.length-P-(q+1)<cs.length-P-q by omega⟩ (hM:=by exact oL (j8 rfl (by exact Fit.of_eq (by first|rfl|(congr 3;omega)))))
 obtain rfl:q=cs.length-P:=O;have hO:=b.2;rw[aS (by rw[bK];exact ae _)] at hO;have hOz:=jG (.mk km mm sm lm am) (cs.drop P);rw[hO] at hOz;have hdz:=xG cs P;have hdl:(cs.drop P).length=cs.length-P:=bK;have htk:=ir (z.take P);have htl:(z.take P).length=P:=(by rw[bj];omega);have hlsz:∀u∈lh,u.size<=1099511627776:=(λu hu=>by
  obtain⟨i,hi⟩:=b7 hu;have h3:=oA hi;have hqz:(ie.mk kq mq sq lq aq).size<=1000000000000:=O;have k:(ie.mk 2 0 sh lh []).size<=1000000000000:=O;simp only[ie.size] at k;omega)
 refine rF 15 ?_;refine o1 (pa iQ iY rfl rfl rfl rfl rfl rfl O (qG z P) ?_);refine oc (T:=λ_=>False) (qL mN rfl rfl rfl rfl rfl rfl (by simp only[aj,aH,Nat.reduceAdd];rfl) rfl rfl Z (by(simp only[maxLen];omega)) rfl rfl rfl ?_);refine ma 4 [0,1,2,3] mixed ?_;refine pQ 4 G4 Jt ?_ (hat:=(x8 hci));refine ga [5,6,7,8,9,10] ?_;refine ki (rs:=[11,12]) gN rfl ⟨?_,?_,trivial⟩
 .skip
  refine A4 11 rfl (iX agh rfl rfl rfl rfl (zR G false pd lh O O hlsz kK mK sK lK aK O) [0,1] (jN (oT .nil)) rfl rfl rfl rfl (jw (oq (jw (jw .nil)))) (λs ob' hq=>?_) (λs ob' hq=>?_));rotate_left
  .obtain ⟨_,_,hq1,_⟩:=hq;cases hq1
  obtain⟨⟨S,V,W,Y,a5⟩,w2,hq1,rfl,hw2⟩:=hq;cases hq1;refine⟨_,_,_,_,_,rfl,rfl,rfl,rfl,rfl,?_⟩;refine A2 12 rfl (AW jz ?_);refine nO 13 ?_;refine iB<|jq 10 ?_ ?_<;>intro h28
  .refine jD 9 (.jj [iu.d,fF false]) [0,1,2] [iD G w2,iC,tf ((d1+1:Nat):Int) y false pr] ?_
   .exact ⟨iu,false,d1+1,false,w2,rfl,rfl,O,O,λh=>by rw[h] at h28;cases h28⟩
  have hw2':w2=false/\(ie.mk S V W Y a5)=ld pd lh (.mk kK mK sK lK aK)/\(ie.mk S V W Y a5).size<=20000:=(by
   rcases hw2 with⟨h3,_,k,h5⟩|⟨h3,_⟩
   .exact ⟨h3,k,h5⟩
   .rw [h3] at h28;simp at h28)
  obtain⟨rfl,hTY,hTz⟩:=hw2';have hpTY:iv (.mk S V W Y a5)=cs.length:=(by rw[hTY,By];omega);have hc20:cs.length<20001:=(by have h3:=nE _ (.mk S V W Y a5) (ae _);omega);have hTW:Wt (jY G) ps (.mk S V W Y a5) 0:=(by rw[hTY];exact hi4.Ny O hi2);have hXW:=hTW.yN cs.length O;have hXl:=jx cs.length (.mk S V W Y a5) O;have hcsz:=iJ cs;refine pt 9 (ι:=Nat×Bool×(Int×Int×fB×List iq×List ie)×Int×Int×fB×List iq×List ie) (λ⟨j,w3,⟨k6,m6,s6,l6,a6⟩,U,H,I,J,M⟩=>[(28,int j),(26,.own 11 5 (im (z.take P++(cs.drop P).take (j-P))))]) (λ⟨j,w3,⟨k6,m6,s6,l6,a6⟩,U,H,I,J,M⟩=>[iD G w3,iC,tf ((d1+1:Nat):Int) y false pr,tO 2 0 hn F [],eO kd R pd k1 n1 s1 l1 a1 k2 n2 s2 l2 a2 (P:Int) C rp k3 n3 s3 l3 a3,zO,dO kd R pd k1 n1 s1 l1 a1 k2 n2 s2 l2 a2 (P:Int) C,tO kq mq sq lq aq,tO 2 0 sh lh [],eO kg sg' pg u1 v1 x1 y1 z1 u2 v2 x2 y2 z2 ag cg rg u3 v3 x3 y3 z3,tO U H I J M,tR,tO k6 m6 s6 l6 a6]) [27,24,19,16,14,13,12,10,6,0,2] (λ⟨j,w3,⟨k6,m6,s6,l6,a6⟩,U,H,I,J,M⟩=>j<=cs.length/\jQ j (.mk S V W Y a5)=.mk k6 m6 s6 l6 a6/\(ie.mk U H I J M).size<=4000000000000+j*8796093022209/\(w3=false->(ie.mk U H I J M)=iF (.mk k7 m7 s7 l7 a7) (DS R (.mk 2 0 hn F []) (z.take (P+1+C.length)) P (z.take P) (lQ cs.length (.mk S V W Y a5)) cs j))) (λ⟨j,w3,⟨k6,m6,s6,l6,a6⟩,U,H,I,J,M⟩=>cs.length-j) ((0,false,⟨S,V,W,Y,a5⟩,k7,m7,s7,l7,a7)) ([0,1,2,3,4,5,6,7,8,9,10,11,12]) ⟨ak _,rfl,O,λ_=>rfl⟩ ?_ (hM:=by exact oL (iU (j8 rfl (by exact Fit.of_eq (by rw[Nat.zero_sub,cj,bR];rfl)))));rintro⟨j,w3,⟨k6,m6,s6,l6,a6⟩,U,H,I,J,M⟩ b
  try dsimp only at b
  refine j7 9 ?_ ?_<;>intro h31
  .obtain rfl:j=cs.length:=O;have hOut:=b.2.2.2;have hOutz:=b.2.2.1;refine jS 9 ?_;refine pt 4 (ι:=Nat×Int×Int×fB×List iq×List ie) (λ⟨q,k9,m9,s9,l9,a9⟩=>[(30,int ((A+1+q:Nat):Int))]) (λ⟨q,k9,m9,s9,l9,a9⟩=>[iD G w3,iC,tf ((d1+1:Nat):Int) y false pr,tO 2 0 hn F [],eO kd R pd k1 n1 s1 l1 a1 k2 n2 s2 l2 a2 (P:Int) C rp k3 n3 s3 l3 a3,zO,dO kd R pd k1 n1 s1 l1 a1 k2 n2 s2 l2 a2 (P:Int) C,tO kq mq sq lq aq,tO 2 0 sh lh [],eO kg sg' pg u1 v1 x1 y1 z1 u2 v2 x2 y2 z2 ag cg rg u3 v3 x3 y3 z3,tO k9 m9 s9 l9 a9]) [24,10,0,2] (λ⟨q,k9,m9,s9,l9,a9⟩=>q<=z.length-(A+1)/\iF (.mk U H I J M) ((z.drop (A+1)).take q)=.mk k9 m9 s9 l9 a9) (λ⟨q,k9,m9,s9,l9,a9⟩=>z.length-(A+1)-q) ((0,U,H,I,J,M)) ([0,1,2,3,4,5,6,7,8,9,10]) ⟨ak _,rfl⟩ ?_ (hM:=by exact oL (j8 rfl (by exact Fit.of_eq (by rfl))));rintro⟨q,k9,m9,s9,l9,a9⟩ b
   try dsimp only at b
   refine jq 9 ?_ ?_<;>intro h40
   .obtain ⟨kA,mA,sA,lA,aA,hget⟩:=iZ (show A+1+q<z.length by omega);have hgd:(z.drop (A+1))[q]? =some (.mk kA mA sA lA aA):=(by rw[bX];exact hget);have hap:=lS (gl:=gl) k9 m9 s9 l9 a9 kA mA sA lA aA;refine ma 4 [0,1,2] mixed ?_;refine pQ 3 iQ iY ?_ (hat:=(jr hget));refine ga [4] ?_;refine qB 5 hap ?_;refine nO 6 ?_;refine iB<|jS 4 ?_;refine ml 2 ((q+1,3,0,.empty,[],[.mk k9 m9 s9 l9 a9,.mk kA mA sA lA aA])) ([0,1,2,3,4,5,6,7,8,9,10]) ⟨⟨O,by rw[ph hgd,b.2]⟩,show z.length-(A+1)-(q+1)<z.length-(A+1)-q by omega⟩ (hM:=by exact oL (j8 rfl (by exact Fit.of_eq (by first|rfl|(congr 3;omega)))))
   obtain rfl:q=z.length-(A+1):=O;have hV:=b.2;rw[aS (by rw[bK];exact ae _)] at hV;have hVz:=jG (.mk U H I J M) (z.drop (A+1));rw[hV] at hVz;have hdz2:=xG z (A+1);have hdl2:(z.drop (A+1)).length=z.length-(A+1):=bK;refine wE 8 (vi _ k9 m9 s9 l9 a9 20000 (ae _) O O O) λd hd=>?_
   obtain⟨r,rfl,hr1,hr2,hr3⟩:=hd;refine rV 11 237 235 2 ?_;refine jD 13 (.jj [(ie.mk k9 m9 s9 l9 a9).d,fF true]) [0,1,2] [iD G (w3||decide (20000<r)),iC,tf ((d1+1:Nat):Int) y false pr] ?_
   .refine ⟨.mk k9 m9 s9 l9 a9,true,d1+1,false,_,rfl,rfl,O,O,λhw=>.inr (.inr ⟨rfl,rfl,?_⟩)⟩;simp only[ef,decide_eq_false_iff_not,dJ] at hw;have hrr:=hr3 hw.2;have hIT:rb e (.mk 2 0 hn F []) z cs jf (.mk kK mK sK lK aK) lh=.mk k9 m9 s9 l9 a9:=(by
     unfold rb;rw[heP,heN,heC,hePs,hA,<-hTY,ba,hgm,cY,hO,<-hOut hw.1,hV])
    refine .inr ⟨_,by rw[hA];exact hgx,.inr ⟨_,d1,hr,.inr ⟨jf,.mk kK mK sK lK aK,lh,by rw[hS];exact hct,.inr ⟨hlt,by rw[hePs,<-hTY];exact hTz,?_,?_⟩⟩⟩⟩
    .rw [hS];simp only;rw[hIT];omega
    .rw [hS];simp only;rw[hIT]
  obtain⟨m9,s9,l9,⟨kA,mA,sA,lA,aA⟩,⟨kB,mB,sB,lB,aB⟩,he1,he2,he3,he4⟩:=oX j (.mk S V W Y a5) O;have hxg:=TT cs.length (.mk S V W Y a5) j O O he1;have hez:=nj j (.mk S V W Y a5);rw[he1] at hez;simp only[ie.size,ij] at hez hTz;rw[b.2.1] at he1;simp only[ie.mk.injEq] at he1;obtain⟨rfl,rfl,rfl,rfl,rfl⟩:=he1;have hXj:(lQ cs.length (.mk S V W Y a5)).getD j iu=.mk kA mA sA lA aA:=(by rw[ba,hxg];rfl);have hAW:=hXW.2 j _ hxg;obtain⟨kC,mC,sC,lC,aC,hgC⟩:=iZ (show j<cs.length by omega);have hCj:cs.getD j iu=.mk kC mC sC lC aC:=(by rw[ba,hgC];rfl);have hCz:=iO hgC;have hgv:(z.take P++(cs.drop P).take (j-P)).length=P+min (j-P) (cs.length-P):=(by rw[aN,htl,bj,hdl]);have hkr:=Iu (gl:=gl) R kA mA sA lA aA (by simp only[ie.size];omega);have hg1:P<=j->im (z.take P++(cs.drop P).take (j+1-P))=im (z.take P++(cs.drop P).take (j-P))++[[fD kC,fD mC,fG sC,.sl 3 (iR lC),.sl 5 (im aC)]]:=(λh=>by
   rw[show j+1-P=(j-P)+1 by omega,bo,bX,show P+(j-P)=j by omega,hgC,<-bq,ll];rfl)
  have hg2:¬P<=j->j+1-P=0/\j-P=0:=(λh=>O);have htgl:=ir (z.take P++(cs.drop P).take (j-P));refine ma 5 [0,1] mixed ?_;refine pQ 2 iQ iY ?_ (hat:=rfl);refine ga [3,4,5] ?_;refine qB 6 hkr ?_;refine ga [7] ?_;refine iB<|xP 8 177 176 1 ?_;refine rF 2 ?_;refine xo (ι:=Bool×Int×Int×fB×List iq×List ie) (λ⟨w4,kE,mE,sE,lE,aE⟩=>[]) (λ⟨w4,kE,mE,sE,lE,aE⟩=>[iD G w4,iC,tf ((d1+1:Nat):Int) y false pr,tO 2 0 hn F [],eO kd R pd k1 n1 s1 l1 a1 k2 n2 s2 l2 a2 (P:Int) C rp k3 n3 s3 l3 a3,zO,dO kd R pd k1 n1 s1 l1 a1 k2 n2 s2 l2 a2 (P:Int) C,tO kq mq sq lq aq,tO 2 0 sh lh [],eO kg sg' pg u1 v1 x1 y1 z1 u2 v2 x2 y2 z2 ag cg rg u3 v3 x3 y3 z3,tO kE mE sE lE aE,tR,tO 5 m6 s6 l6 [.mk kA mA sA lA aA,.mk kB mB sB lB aB]]) [28,26,27,24,19,16,14,13,12,10,6,0,2] (λ⟨w4,kE,mE,sE,lE,aE⟩=>(ie.mk kE mE sE lE aE).size<=4000000000000+(j+1)*8796093022209/\(w4=false->(ie.mk kE mE sE lE aE)=iF (.mk k7 m7 s7 l7 a7) (DS R (.mk 2 0 hn F []) (z.take (P+1+C.length)) P (z.take P) (lQ cs.length (.mk S V W Y a5)) cs (j+1)))) rfl ?_ ?_
  .refine j7 0 ?_ ?_<;>intro h34
   .refine ml 1 (w3,U,H,I,J,M) [0,1,2,3,4,5,6,7,8,9,10,11,12] ?_
    .refine ⟨aQ b.2.2.1 (fh (dT _ (Nat.le_succ j)) _),λh=>?_⟩;rw[O9 hXj (by rintro⟨h3,k⟩;rcases h34 with h5|h5;omega;rw[k] at h5;simp at h5)];exact b.2.2.2 h
   have hglen:(z.take P++(cs.drop P).take (j-P)).length=j:=O;have hhy:=Mo (gl:=gl) G w3 (sg:=jY G) (ps:=ps) (c:=c) hcc 2 0 hn F [] (z.take (P+1+C.length)) P kA mA sA lA aA (z.take P++(cs.drop P).take (j-P)) kC mC sC lC aC hh (λx hx=>ha x (bJ hx)) (λx hx=>(bn.1 hx).elim (λh=>ha x (bJ h)) (λh=>hqA x (cF (bJ h)))) (hqA _ (aO hgC)) (hAW.up O) O (by have:=DC z (P+1+C.length);omega) O (λx hx=>(bn.1 hx).elim (λh=>by obtain⟨i,hi⟩:=b7 (bJ h);have:=iO hi;omega) (λh=>by obtain⟨i,hi⟩:=b7 (cF (bJ h));have:=iO hi;omega)) O (by simp only[ie.size];omega) O;have hsl:(im z).take ((P:Int)+1+((qW C).length:Int)).toNat=im (z.take (P+1+C.length)):=(by rw[show(P:Int)+1+((qW C).length:Int)=((P+1+C.length:Nat):Int) by omega,qG]);refine ma 0 [0,1,2,3,4] mixed ?_;refine A1 5 rfl (Mm ⟨_,rfl,?_⟩);refine ga [6] ?_;refine A1 7 rfl (Mm ⟨_,rfl,?_⟩);refine A1 8 rfl (pa iQ iY rfl rfl rfl rfl rfl rfl O (hsl) ⟨_,rfl,?_⟩);refine ga [9,10,11] ?_;refine pQ 12 iQ iY ?_ (hat:=rfl);refine ga [13,14,15,16] ?_;refine pQ 17 iQ iY ?_ (hat:=(jr hgC));refine ga [18] ?_;refine MZ 19 hhy [0,1] ?_;rintro s ob' ⟨⟨kG,mG,sG,lG,aG⟩,w5,⟨⟩,rfl,hGz,hGw⟩;refine Lg ?_;refine qB 20 (lS U H I J M kG mG sG lG aG) ?_;refine nO 21 ?_;refine iB<|ml 0 (w5,3,0,.empty,[],[.mk U H I J M,.mk kG mG sG lG aG]) [0,1,2,3,4,5,6,7,8,9,10,11,12] ?_
   .refine ⟨by have h3:=b.2.2.1;rw[HK];omega,λh=>?_⟩;obtain⟨h3,k⟩:=hGw h;rw[Ke O hXj hCj (by first|exact h34.2|omega),qR,<-b.2.2.2 h3,k]
  .rintro ⟨w4,kE,mE,sE,lE,aE⟩ hcut
   try dsimp only at hcut
   have hcut0:=hcut;refine rF 8 ?_;refine xc (ι:=Unit) (λ_=>[(26,.own 11 5 (im (z.take P++(cs.drop P).take (j+1-P))))]) [28,27,24,19,16,14,13,12,10,6,0,2] (λ_=>True) rfl ?_ ?_
   .refine j7 0 ?_ ?_<;>intro h36
    .refine qX 1 (()) (by trivial) (hM:=by exact oL (j8 rfl (by exact Fit.of_eq (by first|(rw[hg1 O];rfl)|(rw[(hg2 O).1,(hg2 O).2];rfl)))))
    refine ni 4 iQ iY ?_ (hat:=(jr hgC));refine oR 1 mN [.tmp 207] jz ?_;refine oc (ya mN ?_);refine qX 2 (()) (by trivial) (hM:=by exact oL (j8 rfl (by exact Fit.of_eq (by first|(rw[hg1 O];rfl)|(rw[(hg2 O).1,(hg2 O).2];rfl)))))
   .rintro _ hcut
    try dsimp only at hcut
    refine ni 3 iQ iY ?_ (hat:=rfl);refine jS 7 ?_;refine ml 2 (j+1,w4,⟨kB,mB,sB,lB,aB⟩,kE,mE,sE,lE,aE) [0,1,2,3,4,5,6,7,8,9,10,11,12] ?_;exact⟨⟨O,he2,hcut0.1,hcut0.2⟩,show cs.length-(j+1)<cs.length-j by omega⟩
 .skip
  refine A4 12 rfl (AW jz ?_);refine MZ 11 (zR G false pd lh O O hlsz kK mK sK lK aK O) [0,1] ?_;rintro s ob' ⟨⟨S,V,W,Y,a5⟩,w2,⟨⟩,rfl,hw2⟩;refine Lg ?_;refine nO 13 ?_;refine iB<|jq 10 ?_ ?_<;>intro h28
  .refine jD 9 (.jj [iu.d,fF false]) [0,1,2] [iD G w2,iC,tf ((d1+1:Nat):Int) y false pr] ?_
   .exact ⟨iu,false,d1+1,false,w2,rfl,rfl,O,O,λh=>by rw[h] at h28;cases h28⟩
  have hw2':w2=false/\(ie.mk S V W Y a5)=ld pd lh (.mk kK mK sK lK aK)/\(ie.mk S V W Y a5).size<=20000:=(by
   rcases hw2 with⟨h3,_,k,h5⟩|⟨h3,_⟩
   .exact ⟨h3,k,h5⟩
   .rw [h3] at h28;simp at h28)
  obtain⟨rfl,hTY,hTz⟩:=hw2';have hpTY:iv (.mk S V W Y a5)=cs.length:=(by rw[hTY,By];omega);have hc20:cs.length<20001:=(by have h3:=nE _ (.mk S V W Y a5) (ae _);omega);have hTW:Wt (jY G) ps (.mk S V W Y a5) 0:=(by rw[hTY];exact hi4.Ny O hi2);have hXW:=hTW.yN cs.length O;have hXl:=jx cs.length (.mk S V W Y a5) O;have hcsz:=iJ cs;refine pt 9 (ι:=Nat×Bool×(Int×Int×fB×List iq×List ie)×Int×Int×fB×List iq×List ie) (λ⟨j,w3,⟨k6,m6,s6,l6,a6⟩,U,H,I,J,M⟩=>[(28,int j),(26,.own 11 5 (im (z.take P++(cs.drop P).take (j-P))))]) (λ⟨j,w3,⟨k6,m6,s6,l6,a6⟩,U,H,I,J,M⟩=>[iD G w3,iC,tf ((d1+1:Nat):Int) y false pr,tO 2 0 hn F [],eO kd R pd k1 n1 s1 l1 a1 k2 n2 s2 l2 a2 (P:Int) C rp k3 n3 s3 l3 a3,zO,dO kd R pd k1 n1 s1 l1 a1 k2 n2 s2 l2 a2 (P:Int) C,tO kq mq sq lq aq,tO 2 0 sh lh [],eO kg sg' pg u1 v1 x1 y1 z1 u2 v2 x2 y2 z2 ag cg rg u3 v3 x3 y3 z3,tO U H I J M,tR,tO k6 m6 s6 l6 a6]) [27,24,19,16,14,13,12,10,6,0,2] (λ⟨j,w3,⟨k6,m6,s6,l6,a6⟩,U,H,I,J,M⟩=>j<=cs.length/\jQ j (.mk S V W Y a5)=.mk k6 m6 s6 l6 a6/\(ie.mk U H I J M).size<=4000000000000+j*8796093022209/\(w3=false->(ie.mk U H I J M)=iF (.mk k7 m7 s7 l7 a7) (DS R (.mk 2 0 hn F []) (z.take (P+1+C.length)) P (z.take P) (lQ cs.length (.mk S V W Y a5)) cs j))) (λ⟨j,w3,⟨k6,m6,s6,l6,a6⟩,U,H,I,J,M⟩=>cs.length-j) ((0,false,⟨S,V,W,Y,a5⟩,k7,m7,s7,l7,a7)) ([0,1,2,3,4,5,6,7,8,9,10,11,12]) ⟨ak _,rfl,O,λ_=>rfl⟩ ?_ (hM:=by exact oL (iU (j8 rfl (by exact Fit.of_eq (by rw[Nat.zero_sub,cj,bR];rfl)))));rintro⟨j,w3,⟨k6,m6,s6,l6,a6⟩,U,H,I,J,M⟩ b
  try dsimp only at b
  refine j7 9 ?_ ?_<;>intro h31
  .obtain rfl:j=cs.length:=O;have hOut:=b.2.2.2;have hOutz:=b.2.2.1;refine jS 9 ?_;refine pt 4 (ι:=Nat×Int×Int×fB×List iq×List ie) (λ⟨q,k9,m9,s9,l9,a9⟩=>[(30,int ((A+1+q:Nat):Int))]) (λ⟨q,k9,m9,s9,l9,a9⟩=>[iD G w3,iC,tf ((d1+1:Nat):Int) y false pr,tO 2 0 hn F [],eO kd R pd k1 n1 s1 l1 a1 k2 n2 s2 l2 a2 (P:Int) C rp k3 n3 s3 l3 a3,zO,dO kd R pd k1 n1 s1 l1 a1 k2 n2 s2 l2 a2 (P:Int) C,tO kq mq sq lq aq,tO 2 0 sh lh [],eO kg sg' pg u1 v1 x1 y1 z1 u2 v2 x2 y2 z2 ag cg rg u3 v3 x3 y3 z3,tO k9 m9 s9 l9 a9]) [24,10,0,2] (λ⟨q,k9,m9,s9,l9,a9⟩=>q<=z.length-(A+1)/\iF (.mk U H I J M) ((z.drop (A+1)).take q)=.mk k9 m9 s9 l9 a9) (λ⟨q,k9,m9,s9,l9,a9⟩=>z.length-(A+1)-q) ((0,U,H,I,J,M)) ([0,1,2,3,4,5,6,7,8,9,10]) ⟨ak _,rfl⟩ ?_ (hM:=by exact oL (j8 rfl (by exact Fit.of_eq (by rfl))));rintro⟨q,k9,m9,s9,l9,a9⟩ b
   try dsimp only at b
   refine jq 9 ?_ ?_<;>intro h40
   .obtain ⟨kA,mA,sA,lA,aA,hget⟩:=iZ (show A+1+q<z.length by omega);have hgd:(z.drop (A+1))[q]? =some (.mk kA mA sA lA aA):=(by rw[bX];exact hget);have hap:=lS (gl:=gl) k9 m9 s9 l9 a9 kA mA sA lA aA;refine ma 4 [0,1,2] mixed ?_;refine pQ 3 iQ iY ?_ (hat:=(jr hget));refine ga [4] ?_;refine qB 5 hap ?_;refine nO 6 ?_;refine iB<|jS 4 ?_;refine ml 2 ((q+1,3,0,.empty,[],[.mk k9 m9 s9 l9 a9,.mk kA mA sA lA aA])) ([0,1,2,3,4,5,6,7,8,9,10]) ⟨⟨O,by rw[ph hgd,b.2]⟩,show z.length-(A+1)-(q+1)<z.length-(A+1)-q by omega⟩ (hM:=by exact oL (j8 rfl (by exact Fit.of_eq (by first|rfl|(congr 3;omega)))))
   obtain rfl:q=z.length-(A+1):=O;have hV:=b.2;rw[aS (by rw[bK];exact ae _)] at hV;have hVz:=jG (.mk U H I J M) (z.drop (A+1));rw[hV] at hVz;have hdz2:=xG z (A+1);have hdl2:(z.drop (A+1)).length=z.length-(A+1):=bK;refine wE 8 (vi _ k9 m9 s9 l9 a9 20000 (ae _) O O O) λd hd=>?_
   obtain⟨r,rfl,hr1,hr2,hr3⟩:=hd;refine rV 11 237 235 2 ?_;refine jD 13 (.jj [(ie.mk k9 m9 s9 l9 a9).d,fF true]) [0,1,2] [iD G (w3||decide (20000<r)),iC,tf ((d1+1:Nat):Int) y false pr] ?_
   .refine ⟨.mk k9 m9 s9 l9 a9,true,d1+1,false,_,rfl,rfl,O,O,λhw=>.inr (.inr ⟨rfl,rfl,?_⟩)⟩;simp only[ef,decide_eq_false_iff_not,dJ] at hw;have hrr:=hr3 hw.2;have hIT:rb e (.mk 2 0 hn F []) z cs jf (.mk kK mK sK lK aK) lh=.mk k9 m9 s9 l9 a9:=(by
     unfold rb;rw[heP,heN,heC,hePs,hA,<-hTY,ba,hgm,cY,hO,<-hOut hw.1,hV])
    refine .inr ⟨_,by rw[hA];exact hgx,.inr ⟨_,d1,hr,.inr ⟨jf,.mk kK mK sK lK aK,lh,by rw[hS];exact hct,.inr ⟨hlt,by rw[hePs,<-hTY];exact hTz,?_,?_⟩⟩⟩⟩
    .rw [hS];simp only;rw[hIT];omega
    .rw [hS];simp only;rw[hIT]
  obtain⟨m9,s9,l9,⟨kA,mA,sA,lA,aA⟩,⟨kB,mB,sB,lB,aB⟩,he1,he2,he3,he4⟩:=oX j (.mk S V W Y a5) O;have hxg:=TT cs.length (.mk S V W Y a5) j O O he1;have hez:=nj j (.mk S V W Y a5);rw[he1] at hez;simp only[ie.size,ij] at hez hTz;rw[b.2.1] at he1;simp only[ie.mk.injEq] at he1;obtain⟨rfl,rfl,rfl,rfl,rfl⟩:=he1;have hXj:(lQ cs.length (.mk S V W Y a5)).getD j iu=.mk kA mA sA lA aA:=(by rw[ba,hxg];rfl);have hAW:=hXW.2 j _ hxg;obtain⟨kC,mC,sC,lC,aC,hgC⟩:=iZ (show j<cs.length by omega);have hCj:cs.getD j iu=.mk kC mC sC lC aC:=(by rw[ba,hgC];rfl);have hCz:=iO hgC;have hgv:(z.take P++(cs.drop P).take (j-P)).length=P+min (j-P) (cs.length-P):=(by rw[aN,htl,bj,hdl]);have hkr:=Iu (gl:=gl) R kA mA sA lA aA (by simp only[ie.size];omega);have hg1:P<=j->im (z.take P++(cs.drop P).take (j+1-P))=im (z.take P++(cs.drop P).take (j-P))++[[fD kC,fD mC,fG sC,.sl 3 (iR lC),.sl 5 (im aC)]]:=(λh=>by
   rw[show j+1-P=(j-P)+1 by omega,bo,bX,show P+(j-P)=j by omega,hgC,<-bq,ll];rfl)
  have hg2:¬P<=j->j+1-P=0/\j-P=0:=(λh=>O);have htgl:=ir (z.take P++(cs.drop P).take (j-P));refine ma 5 [0,1] mixed ?_;refine pQ 2 iQ iY ?_ (hat:=rfl);refine ga [3,4,5] ?_;refine qB 6 hkr ?_;refine ga [7] ?_;refine iB<|xP 8 177 176 1 ?_;refine rF 2 ?_;refine xo (ι:=Bool×Int×Int×fB×List iq×List ie) (λ⟨w4,kE,mE,sE,lE,aE⟩=>[]) (λ⟨w4,kE,mE,sE,lE,aE⟩=>[iD G w4,iC,tf ((d1+1:Nat):Int) y false pr,tO 2 0 hn F [],eO kd R pd k1 n1 s1 l1 a1 k2 n2 s2 l2 a2 (P:Int) C rp k3 n3 s3 l3 a3,zO,dO kd R pd k1 n1 s1 l1 a1 k2 n2 s2 l2 a2 (P:Int) C,tO kq mq sq lq aq,tO 2 0 sh lh [],eO kg sg' pg u1 v1 x1 y1 z1 u2 v2 x2 y2 z2 ag cg rg u3 v3 x3 y3 z3,tO kE mE sE lE aE,tR,tO 5 m6 s6 l6 [.mk kA mA sA lA aA,.mk kB mB sB lB aB]]) [28,26,27,24,19,16,14,13,12,10,6,0,2] (λ⟨w4,kE,mE,sE,lE,aE⟩=>(ie.mk kE mE sE lE aE).size<=4000000000000+(j+1)*8796093022209/\(w4=false->(ie.mk kE mE sE lE aE)=iF (.mk k7 m7 s7 l7 a7) (DS R (.mk 2 0 hn F []) (z.take (P+1+C.length)) P (z.take P) (lQ cs.length (.mk S V W Y a5)) cs (j+1)))) rfl ?_ ?_
  .refine j7 0 ?_ ?_<;>intro h34
   .refine ml 1 (w3,U,H,I,J,M) [0,1,2,3,4,5,6,7,8,9,10,11,12] ?_
    .refine ⟨aQ b.2.2.1 (fh (dT _ (Nat.le_succ j)) _),λh=>?_⟩;rw[O9 hXj (by rintro⟨h3,k⟩;rcases h34 with h5|h5;omega;rw[k] at h5;simp at h5)];exact b.2.2.2 h
   have hglen:(z.take P++(cs.drop P).take (j-P)).length=j:=O;have hhy:=Mo (gl:=gl) G w3 (sg:=jY G) (ps:=ps) (c:=c) hcc 2 0 hn F [] (z.take (P+1+C.length)) P kA mA sA lA aA (z.take P++(cs.drop P).take (j-P)) kC mC sC lC aC hh (λx hx=>ha x (bJ hx)) (λx hx=>(bn.1 hx).elim (λh=>ha x (bJ h)) (λh=>hqA x (cF (bJ h)))) (hqA _ (aO hgC)) (hAW.up O) O (by have:=DC z (P+1+C.length);omega) O (λx hx=>(bn.1 hx).elim (λh=>by obtain⟨i,hi⟩:=b7 (bJ h);have:=iO hi;omega) (λh=>by obtain⟨i,hi⟩:=b7 (cF (bJ h));have:=iO hi;omega)) O (by simp only[ie.size];omega) O;have hsl:(im z).take ((P:Int)+1+((qW C).length:Int)).toNat=im (z.take (P+1+C.length)):=(by rw[show(P:Int)+1+((qW C).length:Int)=((P+1+C.length:Nat):Int) by omega,qG]);refine ma 0 [0,1,2,3,4] mixed ?_;refine A1 5 rfl (Mm ⟨_,rfl,?_⟩);refine ga [6] ?_;refine A1 7 rfl (Mm ⟨_,rfl,?_⟩);refine A1 8 rfl (pa iQ iY rfl rfl rfl rfl rfl rfl O (hsl) ⟨_,rfl,?_⟩);refine ga [9,10,11] ?_;refine pQ 12 iQ iY ?_ (hat:=rfl);refine ga [13,14,15,16] ?_;refine pQ 17 iQ iY ?_ (hat:=(jr hgC));refine ga [18] ?_;refine MZ 19 hhy [0,1] ?_;rintro s ob' ⟨⟨kG,mG,sG,lG,aG⟩,w5,⟨⟩,rfl,hGz,hGw⟩;refine Lg ?_;refine qB 20 (lS U H I J M kG mG sG lG aG) ?_;refine nO 21 ?_;refine iB<|ml 0 (w5,3,0,.empty,[],[.mk U H I J M,.mk kG mG sG lG aG]) [0,1,2,3,4,5,6,7,8,9,10,11,12] ?_
   .refine ⟨by have h3:=b.2.2.1;rw[HK];omega,λh=>?_⟩;obtain⟨h3,k⟩:=hGw h;rw[Ke O hXj hCj (by first|exact h34.2|omega),qR,<-b.2.2.2 h3,k]
  .rintro ⟨w4,kE,mE,sE,lE,aE⟩ hcut
   try dsimp only at hcut
   have hcut0:=hcut;refine rF 8 ?_;refine xc (ι:=Unit) (λ_=>[(26,.own 11 5 (im (z.take P++(cs.drop P).take (j+1-P))))]) [28,27,24,19,16,14,13,12,10,6,0,2] (λ_=>True) rfl ?_ ?_
   .refine j7 0 ?_ ?_<;>intro h36
    .refine qX 1 (()) (by trivial) (hM:=by exact oL (j8 rfl (by exact Fit.of_eq (by first|(rw[hg1 O];rfl)|(rw[(hg2 O).1,(hg2 O).2];rfl)))))
    refine ni 4 iQ iY ?_ (hat:=(jr hgC));refine oR 1 mN [.tmp 207] jz ?_;refine oc (ya mN ?_);refine qX 2 (()) (by trivial) (hM:=by exact oL (j8 rfl (by exact Fit.of_eq (by first|(rw[hg1 O];rfl)|(rw[(hg2 O).1,(hg2 O).2];rfl)))))
   .rintro _ hcut
    try dsimp only at hcut
    refine ni 3 iQ iY ?_ (hat:=rfl);refine jS 7 ?_;refine ml 2 (j+1,w4,⟨kB,mB,sB,lB,aB⟩,kE,mE,sE,lE,aE) [0,1,2,3,4,5,6,7,8,9,10,11,12] ?_;exact⟨⟨O,he2,hcut0.1,hcut0.2⟩,show cs.length-(j+1)<cs.length-j by omega⟩
theorem WD(r:ko q)(z:0<=c)(C:e∈q)(H:e.d.k=3){d:Nat}(I:Wt (jY q) s h c)(G:∀x∈F,Wt (jY q) s x c)(J:d<=j)(M:RI q j (RW q j n) e h F d (.step u y)):
 Wt (jY q) s u c/\d<y/\y<=j/\u.size<=20000:=by
 rcases M with⟨_,b⟩|⟨x,k,⟨_,b⟩|⟨mj,d1,U,⟨_,b⟩|⟨i,R,S,V,⟨_,b⟩|⟨g4,g5,W,b⟩⟩⟩⟩
 .cases b
 .cases b
 .cases b
 .cases b
 .cases b;obtain⟨Y,q2,q3,q4⟩:=vB r z n U J (G x (aO k));obtain⟨_,qH,qA,_⟩:=Wt.spine _ (ae _) Y;obtain⟨w1,w2,w3,w4,w5,w6,w7⟩:=xl r C qH V;have hI:=Kb (es:=q) z (r.AZ _ C) H I G qA w2 O w4 w6 (aJ.1 k).1 w1;exact⟨hI,O,O,W⟩
structure KH (es:List iI) (ps:List fB) (c:Int) (most N:Nat) (t0:ie) (d0 q:Nat) (w t:Bool) (d:Nat) (cur:ie):Prop where
 qn:q<=N
 dl:d0<=d
 dm:d<=most
 ok:w=false->t=false/\Wt (jY es) ps cur c/\cur.size+30000*(most-d)<q/\cur.size+30000*(most-d)<=1000000000000/\∀o,RW es most q cur d o->RW es most N t0 d0 o
theorem KH.step(h:KH s x c i N z C (q+1) false false Y j)(G:Y<r\/y=true)(R:Y<=r)(H:r<=i)
 (I:y=false->F=false/\Wt (jY s) x u c/\u.size<=j.size+20000/\∀o,RW s i q u r o->RW s i (q+1) j Y o):KH s x c i N z C q y F r u:=by
 obtain⟨_,hw,S,V,b⟩:=h.ok rfl;have:=h.qn;have:=h.dl;have:=h.dm;refine⟨O,O,H,λe=>?_⟩;obtain⟨k,U,W,J⟩:=I e;have G:Y<r:=G.resolve_right (by rw[e];decide);exact⟨k,U,O,O,λo M=>b o (J o M)⟩
set_option maxHeartbeats 1600000 in
theorem R0(hE:ko y){ps:List fB}(hcc:0<=c/\c<=1099511627776)(hm:e<=1000000)(ih:∀n,n<N->RO Y y ps c e n):RO Y y ps c e N:=by
 intro k m s ls args d0 pr hdm0 hz0 hz1 hw0;obtain⟨T0,hT0⟩:∃x,x=ie.mk k m s ls args:=⟨_,rfl⟩;rw[<- hT0] at hz0 hz1 hw0;rw[show Ws y e N (.mk k m s ls args) d0 pr=Ws y e N T0 d0 pr by rw[hT0]];refine nR Tryz.func51 141 3 ?_;refine pt 8 (ι:=Nat×Bool×Bool×Nat×Int×Int×fB×List iq×List ie) (λ⟨q,w1,t1,d1,k1,z,s1,l1,a1⟩=>[]) (λ⟨q,w1,t1,d1,k1,z,s1,l1,a1⟩=>[iD y w1,iC,tf d1 e t1 pr,tO k1 z s1 l1 a1,zO]) [6,4,0,2] (λ⟨q,w1,t1,d1,k1,z,s1,l1,a1⟩=>KH y ps c e N T0 d0 q w1 t1 d1 (.mk k1 z s1 l1 a1)) (λ⟨q,w1,t1,d1,k1,z,s1,l1,a1⟩=>q) ((N,false,false,d0,k,m,s,ls,args)) ([0,1,2,3,4]) ?I4 ?H4 (hM:= ?M4)
 case I4=>
  show KH y ps c e N T0 d0 N false false d0 (ie.mk k m s ls args);rw[<- hT0];exact⟨ae _,ae _,hdm0,λ_=>⟨rfl,hw0,hz0,hz1,λ_ h=>h⟩⟩
 case M4=>
  exact mz
 case H4=>
  rintro⟨q,w1,t1,d1,k1,z,s1,l1,a1⟩ j
  try dsimp only at j
  refine xP 9 27 22 5 ?_;refine j7 2 ?_ ?_<;>intro h1
  .refine jD 12 ((ie.mk k1 z s1 l1 a1).d) [0,1,2] [iD y w1,iC,tf d1 e t1 pr] ?_
   .refine ⟨.mk k1 z s1 l1 a1,d1,t1,w1,rfl,rfl,j.dl,j.dm,λh=>?_⟩;have h3:=(j.ok h).1;rw[h,h3] at h1;simp at h1
  have ht1:t1=false:=(by cases t1<;>first|rfl|simp at h1);have hw1:w1=false:=(by cases w1<;>first|rfl|simp at h1);subst ht1 hw1;obtain⟨_,hWt,hg1,hg2,S⟩:=j.ok rfl;have hd1:=j.dl;have hdm:=j.dm;have hqn:=j.qn;obtain⟨q,rfl⟩:∃q',q=q'+1:=⟨q-1,O⟩;obtain⟨hok,hH,hA,hsp⟩:=Wt.spine _ (ae _) hWt;have G:=oW (gl:=Y) k1 z s1 l1 a1 hok O;have hz:=qa hWt;obtain⟨H,hcur⟩:∃x,x=ie.mk k1 z s1 l1 a1:=⟨_,rfl⟩;rw[<- hcur] at G hok hH hA hz hsp hWt hg1 hg2 S j;rcases hS:ig H with⟨⟨kh,mh,sh,V,ah⟩,az⟩;rw[hS] at G hH hA hz hsp;dsimp only at G hH hA hz hsp;rw[hcur] at G;have hal:=ir az;have has:=iJ az;have hll:=jn V;have F:wk y (.mk kh mh sh V ah) az->RW y e (q+1) H d1 (.ok H d1):=λh=>.inr (.inr (.inr (.inr ⟨by rw[hS];exact h,rfl⟩)))
  refine ny 6 G ?_;refine rF 15 ?_;refine xo (ι:=Bool×Bool×Nat) (λ⟨w3,t3,d3⟩=>[]) (λ⟨w3,t3,d3⟩=>[iD y w3,iC,tf d3 e t3 pr,tO k1 z s1 l1 a1,zO]) [6,4] (λ⟨w3,t3,d3⟩=>d1<=d3/\d3<=e/\(w3=false->(t3=true/\RW y e (q+1) H d1 .ja)\/(t3=false/\RW y e (q+1) H d1 (.ok H d3)))) rfl ?_ ?_
  .refine jq 7 ?_ ?_<;>intro h4
   .refine jq 8 ?_ ?_<;>intro h5
    .refine jD 14 ((ie.mk k1 z s1 l1 a1).d) [0,1,2] [iD y false,iC,tf d1 e false pr] ?_
     .refine ⟨.mk k1 z s1 l1 a1,d1,false,false,rfl,rfl,hd1,hdm,λ_=>.inr ⟨rfl,?_⟩⟩;obtain rfl:az=[]:=ch O;rw[<- hcur];refine S _ (F ⟨λh=>h.2 rfl,λh=>?_,λs us h=>?_⟩)
      .have h3:kh=6:=h;omega
      .cases h;omega
    refine uo 5 (xA d1 e false pr O) [2] ?_;rintro s ob' ⟨ok,d2,t2,⟨⟩,rfl,I⟩;refine uv ?_;refine jq 10 ?_ ?_<;>intro h8
    .refine jD 14 ((ie.mk k1 z s1 l1 a1).d) [0,1,2] [iD y false,iC,tf d2 e t2 pr] ?_
     .obtain rfl:kh=4:=O;obtain⟨A,b,rfl,rfl,rfl,rfl,_,_⟩:=hH.two (.inr (.inl rfl));obtain⟨x,r,rfl⟩:∃x r,az=x::r:=(by cases az with|nil=>exact absurd rfl h5|cons x r=>exact⟨x,r,rfl⟩);rcases I with⟨h3,U,C,h6⟩|⟨h3,_⟩
      .exact ⟨.mk k1 z s1 l1 a1,d2,t2,false,rfl,rfl,O,O,λ_=>.inl ⟨h6,S _ (.inl ⟨A,b,x,r,by rw[hS],by rw[hS],.inl ⟨U,rfl⟩⟩)⟩⟩
      .rw [h3] at h8;simp at h8
    have J:d1<e/\d2=d1+1/\t2=false:=(by
     rcases I with⟨h3,_⟩|⟨_,U,C,h6⟩
     .rw [h3] at h8;simp at h8
     .exact ⟨U,C,h6⟩)
    obtain⟨hlt,hd2,ht2⟩:=J;obtain rfl:kh=4:=O;obtain⟨⟨kA,mA,sA,lA,aA⟩,⟨kb,mb,sb,lb,ab⟩,rfl,rfl,rfl,rfl,hA1,hB1⟩:=hH.two (.inr (.inl rfl));rw[if_neg Z] at hB1;obtain⟨⟨kx,mx,sx,lx,ax⟩,r,rfl⟩:∃x r,az=x::r:=(by cases az with|nil=>exact absurd rfl h5|cons x r=>exact⟨x,r,rfl⟩);have hX1:=hA _ bC;have hzz:=hz;rw[show(ie.mk 4 0 .empty [] [.mk kA mA sA lA aA,.mk kb mb sb lb ab]).size=1+0+((ie.mk kA mA sA lA aA).size+((ie.mk kb mb sb lb ab).size+0)) from rfl,show ij (.mk kx mx sx lx ax::r)=(ie.mk kx mx sx lx ax).size+ij r from rfl,aj] at hzz;have hrl:=iJ r;refine ma 3 [0,1,2] mixed ?_;refine pQ 3 iQ iY ?_ (hat:=rfl);refine ga [4,5] ?_;refine pQ 6 iQ iY ?_ (hat:=rfl);refine ga [7,9] ?_;refine A1 10 rfl (sJ iQ iY rfl rfl rfl rfl rfl rfl O (rfl) ⟨_,rfl,?_⟩);refine MZ 8 (xi y false (B:=4398046511104) (B':=4398046511104) O O kb mb sb lb ab kx mx sx lx ax O O (hB1.sh O) (hX1.sh O)) [0,1] ?_;rintro s ob' ⟨⟨k2,m2,s2,l2,a2⟩,w2,⟨⟩,rfl,hw2⟩;obtain⟨kU,mU,sU,lU,aU,hU⟩:=ie.case (iF (.mk k2 m2 s2 l2 a2) r)
    have M:=yL (gl:=Y) k2 m2 s2 l2 a2 r O;rw[hU] at M;have W:KH y ps c e N T0 d0 q w2 t2 d2 (.mk kU mU sU lU aU):=(by
     rw[<- hU];refine j.step (.inl O) O O λhw=>?_
     rcases hw2 with⟨_,_,R,e2⟩|⟨R,_⟩
     .refine ⟨ht2,Wt.apply (by rw[R];exact Wt.sub hcc.1 hB1 hX1) λx hx=>hA x (bB _ hx),by rw[jG];omega,λo ho=>?_⟩;exact .inl ⟨.mk kA mA sA lA aA,.mk kb mb sb lb ab,.mk kx mx sx lx ax,r,by rw[hS],by rw[hS],.inr ⟨hlt,by rw[<- R];exact e2,by rw[<- R,<-hd2];exact ho⟩⟩
     .rw [R] at hw;cases hw)
    refine Lg ?_;refine qB 11 M ?_;refine nO 12 ?_;refine iB<|rF 5 ?_;refine bk (q,w2,t2,d2,kU,mU,sU,lU,aU) rfl ?_ [0,1,2,3,4] mz;exact⟨W,show q<q+1 by omega⟩
   refine jq 6 ?_ ?_<;>intro h11
   .refine uo 3 (xA d1 e false pr O) [2] ?_;rintro s ob' ⟨ok,d2,t2,⟨⟩,rfl,I⟩;refine uv ?_;refine jq 10 ?_ ?_<;>intro h13
    .refine jD 14 ((ie.mk k1 z s1 l1 a1).d) [0,1,2] [iD y false,iC,tf d2 e t2 pr] ?_
     .obtain rfl:kh=6:=O;obtain⟨A,v,b,rfl,rfl,rfl,rfl,_,_,_⟩:=hH.three rfl;rcases I with⟨h3,U,C,h6⟩|⟨h3,_⟩
      .exact ⟨.mk k1 z s1 l1 a1,d2,t2,false,rfl,rfl,O,O,λ_=>.inl ⟨h6,S _ (.inr (.inl ⟨A,v,b,by rw[hS],.inl ⟨U,rfl⟩⟩))⟩⟩
      .rw [h3] at h13;simp at h13
    have J:d1<e/\d2=d1+1/\t2=false:=(by
     rcases I with⟨h3,_⟩|⟨_,U,C,h6⟩
     .rw [h3] at h13;simp at h13
     .exact ⟨U,C,h6⟩)
    obtain⟨hlt,hd2,ht2⟩:=J;obtain rfl:kh=6:=O;obtain⟨⟨kA,mA,sA,lA,aA⟩,⟨kx,mx,sx,lx,ax⟩,⟨kb,mb,sb,lb,ab⟩,rfl,rfl,rfl,rfl,hA1,hX1,hB1⟩:=hH.three rfl;have hzz:=hz;rw[show(ie.mk 6 0 .empty [] [.mk kA mA sA lA aA,.mk kx mx sx lx ax,.mk kb mb sb lb ab]).size=1+0+((ie.mk kA mA sA lA aA).size+((ie.mk kx mx sx lx ax).size+((ie.mk kb mb sb lb ab).size+0))) from rfl] at hzz;refine ma 3 [0,1,2] mixed ?_;refine pQ 3 iQ iY ?_ (hat:=rfl);refine ga [4,5,6] ?_;refine pQ 7 iQ iY ?_ (hat:=rfl);refine ga [8,10] ?_;refine MZ 9 (xi y false (B:=4398046511104) (B':=4398046511104) O O kb mb sb lb ab kx mx sx lx ax O O (hB1.sh O) (hX1.sh O)) [0,1] ?_;rintro s ob' ⟨⟨k2,m2,s2,l2,a2⟩,w2,⟨⟩,rfl,hw2⟩;obtain⟨kU,mU,sU,lU,aU,hU⟩:=ie.case (iF (.mk k2 m2 s2 l2 a2) az)
    have M:=yL (gl:=Y) k2 m2 s2 l2 a2 az O;rw[hU] at M;have W:KH y ps c e N T0 d0 q w2 t2 d2 (.mk kU mU sU lU aU):=(by
     rw[<- hU];refine j.step (.inl O) O O λhw=>?_
     rcases hw2 with⟨_,_,R,e2⟩|⟨R,_⟩
     .refine ⟨ht2,Wt.apply (by rw[R];exact Wt.sub hcc.1 hB1 hX1) hA,by rw[jG];omega,λo ho=>?_⟩;exact .inr (.inl ⟨.mk kA mA sA lA aA,.mk kx mx sx lx ax,.mk kb mb sb lb ab,by rw[hS],.inr ⟨hlt,by rw[<- R];exact e2,by rw[hS,<-R,<-hd2];exact ho⟩⟩)
     .rw [R] at hw;cases hw)
    refine Lg ?_;refine qB 11 M ?_;refine nO 12 ?_;refine iB<|rF 5 ?_;refine bk (q,w2,t2,d2,kU,mU,sU,lU,aU) rfl ?_ [0,1,2,3,4] mz;exact⟨W,show q<q+1 by omega⟩
   refine j7 6 ?_ ?_<;>intro h16
   .refine rF 2 ?_;refine bk (false,false,d1) rfl ?_ [0,1,2,3,4] mz;exact⟨ae _,hdm,λ_=>.inr ⟨rfl,F ⟨λh=>(by have h3:kh=4:=h.1;omega),λh=>(by have h3:kh=6:=h;omega),λs us h=>by cases h;omega⟩⟩⟩
   obtain rfl:kh=2:=O;obtain⟨rfl,rfl⟩:mh=0/\ah=[]:=(by
    rcases hH.2.2 with h3|h3|h3|h3|h3
    .omega
    .omega
    .exact ⟨h3.2.1,ch h3.2.2.2⟩
    .omega
    .omega)
   have hfs:=find_spec (gl:=Y) y false sh hE.b;rcases hF:iw sh y with⟨kf,⟨⟨kg,sg',pg,⟨u1,v1,x1,y1,z1⟩,⟨u2,v2,x2,y2,z2⟩,ag,cg⟩,rg,⟨u3,v3,x3,y3,z3⟩⟩,jf⟩;rw[hF] at hfs;dsimp only at hfs;have hzz:=hz;rw[show(ie.mk 2 0 sh V []).size=1+iG V+0 from rfl] at hzz;have hplen:=jU pg;have hrlen:=jU rg;have hlsz:∀u∈V,u.size<=1099511627776:=(λu hu=>by
    obtain⟨i,hi⟩:=b7 hu;have h3:=oA hi;omega)
   refine nC 5 hfs [0,1] ?_;refine xP 16 98 90 8 ?_;refine jq 2 ?_ ?_<;>intro h18
   .refine uo 3 (xA d1 e false pr O) [2] ?_;rintro s ob' ⟨ok,d2,t2,⟨⟩,rfl,I⟩;refine uv ?_;refine jq 10 ?_ ?_<;>intro h20
    .refine jD 15 ((ie.mk k1 z s1 l1 a1).d) [0,1,2] [iD y false,iC,tf d2 e t2 pr] ?_
     .have h18':kf=2/\pg.length=V.length:=(by refine⟨?_,?_⟩<;>omega);obtain⟨rfl,hpl⟩:=h18';rcases I with⟨h3,U,C,h6⟩|⟨h3,_⟩
      .exact ⟨.mk k1 z s1 l1 a1,d2,t2,false,rfl,rfl,O,O,λ_=>.inl ⟨h6,S _ (.inr (.inr (.inl ⟨sh,V,_,jf,by rw[hS],hF,hpl,.inl ⟨U,rfl⟩⟩)))⟩⟩
      .rw [h3] at h20;simp at h20
    have J:d1<e/\d2=d1+1/\t2=false:=(by
     rcases I with⟨h3,_⟩|⟨_,U,C,h6⟩
     .rw [h3] at h20;simp at h20
     .exact ⟨U,C,h6⟩)
    obtain⟨hlt,hd2,ht2⟩:=J;have h18':kf=2/\pg.length=V.length:=(by refine⟨?_,?_⟩<;>omega);obtain⟨rfl,hpl⟩:=h18';have hin:=n9 hF Z;have hkk:=(by
     rcases nY hF Z with h|h|h
     .exact h.symm
     .omega
     .omega:(⟨⟨kg,sg',pg,⟨u1,v1,x1,y1,z1⟩,⟨u2,v2,x2,y2,z2⟩,ag,cg⟩,rg,⟨u3,v3,x3,y3,z3⟩⟩:iI).d.k=2)
    have hent:=hE.AZ _ hin;obtain⟨hvw,hvz⟩:=hent.vl hkk;have hp6:=hent.ps;simp only[mJ.vl,mJ.ps] at hvw hvz hp6;have hvW:=(hvw.Ny (us:=V) O hH.1).up hcc.1;refine uo 13 (zR y false pg V O O hlsz u2 v2 x2 y2 z2 O) [0,1] ?_;rintro s ob' ⟨⟨k2,m2,s2,l2,a2⟩,w2,⟨⟩,rfl,hw2⟩;obtain⟨kU,mU,sU,lU,aU,hU⟩:=ie.case (iF (.mk k2 m2 s2 l2 a2) az)
    have M:=yL (gl:=Y) k2 m2 s2 l2 a2 az O;rw[hU] at M;have W:KH y ps c e N T0 d0 q w2 t2 d2 (.mk kU mU sU lU aU):=(by
     rw[<- hU];refine j.step (.inl O) O O λhw=>?_
     rcases hw2 with⟨_,_,R,e2⟩|⟨R,_⟩
     .refine ⟨ht2,Wt.apply (by rw[R];exact hvW) hA,by rw[jG];omega,λo ho=>?_⟩;exact .inr (.inr (.inl ⟨sh,V,_,jf,by rw[hS],hF,hpl,.inr ⟨hlt,by simp only[mJ.ps,mJ.vl];rw[<- R];exact e2,by simp only[mJ.ps,mJ.vl];rw[hS,<-R,<-hd2];exact ho⟩⟩))
     .rw [R] at hw;cases hw)
    refine uv ?_;refine ny 1 M ?_;refine rF 8 ?_;refine bk (q,w2,t2,d2,kU,mU,sU,lU,aU) rfl ?_ [0,1,2,3,4] mz;exact⟨W,show q<q+1 by omega⟩
   refine xP 7 126 119 7 ?_;refine j7 2 ?_ ?_<;>intro h23
   .refine rF 2 ?_;refine bk (false,false,d1) rfl ?_ [0,1,2,3,4] mz
    .refine ⟨ae _,hdm,λ_=>.inr ⟨rfl,F ⟨λh=>(by have h3:(2:Int)=4:=h.1;omega),λh=>(by have h3:(2:Int)=6:=h;omega),λs us h=>?_⟩⟩⟩;cases h;rw[hF];refine⟨λh=>?_,λh=>?_⟩<;>(obtain⟨h3,U⟩:=h;simp only[mJ.ps] at h3 U;omega)
   have h23':kf=5/\rg.length=V.length:=(by refine⟨?_,?_⟩<;>omega);obtain⟨rfl,hpl⟩:=h23';have hin:=n9 hF Z;have hkk:=(by
    rcases nY hF Z with h|h|h
    .rcases (hE.AZ _ hin).k with h'|h'|h'<;>omega
    .omega
    .exact h.2:(⟨⟨kg,sg',pg,⟨u1,v1,x1,y1,z1⟩,⟨u2,v2,x2,y2,z2⟩,ag,cg⟩,rg,⟨u3,v3,x3,y3,z3⟩⟩:iI).d.k=3)
   have hio:=SK (gl:=Y) hE (ps:=ps) (c:=c) hcc hm (ih q O) kg sg' pg u1 v1 x1 y1 z1 u2 v2 x2 y2 z2 ag cg rg u3 v3 x3 y3 z3 hin hkk sh V az d1 pr hdm hH O hA O (λx hx=>by
    obtain⟨i,hi⟩:=b7 hx;have h3:=iO hi;omega)
   refine uo 7 hio [0,1,2] ?_;rintro s ob' ⟨⟨kU,mU,sU,lU,aU⟩,ok,d2,t2,w2,⟨⟩,rfl,hq3,hq4,hres⟩;have hio2:∀io,RI y e (RW y e q) _ (.mk 2 0 sh V []) az d1 io->∀o,Tb (RW y e q) H o io->RW y e (q+1) H d1 o:=(λio h3 o U=>.inr (.inr (.inr (.inl ⟨sh,V,_,jf,io,by rw[hS],hF,hpl,by rw[hS];exact h3,U⟩))));refine uv ?_;refine j7 13 ?_ ?_<;>intro h25
   .refine rF 2 ?_;refine bk (w2,t2,d2) rfl ?_ [0,1,2,3,4] mz
    .refine ⟨hq3,hq4,λhw=>?_⟩;rcases hres hw with⟨h3,_,U⟩|⟨h3,_,U⟩|⟨_,h3,_⟩
     .exact .inl ⟨h3,hio2 _ U _ rfl⟩
     .exact .inr ⟨h3,hio2 _ U _ rfl⟩
     .rw [h3] at h25;simp at h25
   have hok:ok=true:=(by first|exact h25|simpa using h25);subst hok;have W:KH y ps c e N T0 d0 q w2 t2 d2 (.mk kU mU sU lU aU):=(by
    refine j.step ?_ hq3 hq4 λhw=>?_
    .cases w2 with
     |true=>exact .inr rfl
     |false=>
      rcases hres rfl with⟨_,U,_⟩|⟨_,U,_⟩|⟨_,_,U⟩
      .cases U
      .cases U
      .exact .inl (WD hE hcc.1 hin hkk hH hA hdm U).2.1
    .rcases hres hw with⟨_,U,_⟩|⟨_,U,_⟩|⟨C,_,U⟩
     .cases U
     .cases U
     .obtain ⟨g1,g2,g3,g4⟩:=WD hE hcc.1 hin hkk hH hA hdm U;exact⟨C,g1,O,λo ho=>hio2 _ U o ho⟩)
   refine rF 10 ?_;refine bk (q,w2,t2,d2,kU,mU,sU,lU,aU) rfl ?_ [0,1,2,3,4] mz;exact⟨W,show q<q+1 by omega⟩
  .rintro ⟨w3,t3,d3⟩ hcut
   try dsimp only at hcut
   refine jD 11 ((ie.mk k1 z s1 l1 a1).d) [0,1,2] [iD y w3,iC,tf d3 e t3 pr] ?_
   .refine ⟨.mk k1 z s1 l1 a1,d3,t3,w3,rfl,rfl,by have h3:=hcut.1;omega,hcut.2.1,λh=>?_⟩;rw[<- hcur];rcases hcut.2.2 h with⟨h3,U⟩|⟨h3,U⟩
    .exact .inl ⟨h3,S _ U⟩
    .exact .inr ⟨h3,S _ U⟩
theorem R1(q:ko i)(h:0<=c/\c<=1099511627776)(s:e<=1000000)(N):RO j i r c e N:=
 Nat.strongRecOn N λ_ b=>R0 q h s b
theorem RZ(i w t)(h:w=true\/t=true)(x m s j c y e q):
 jT fC r 51 [iD i w,iC,tf y e t q] [.jk 0 0,.d (ie.mk x m s j c).d,.jk 2 0] λout ob'=>out=.ret (.d (ie.mk x m s j c).d)/\ob'=[iD i w,iC,tf y e t q]:=by
 refine nR Tryz.func51 141 3 ?_;refine pt 8 (ι:=Unit) (λ_=>[]) (λ_=>[iD i w,iC,tf y e t q,tO x m s j c,zO]) [6,4,0,2] (λ_=>True) (λ_=>0) (()) ([0,1,2,3,4]) (by trivial) ?_;rintro _ b
 try dsimp only at b
 refine xP 9 27 22 5 ?_;refine jq 2 ?_ ?_<;>intro U
 .exfalso;(exfalso;rcases h with h|h<;>(rw[h] at U;simp at U))
 refine jD 12 ((ie.mk x m s j c).d) [0,1,2] [iD i w,iC,tf y e t q] ⟨rfl,rfl⟩
def GS(e:List iI)(c n:Nat)(t:ie)(r:Nat)(q:Int)(w j:Bool)(h:Out)(i:List Ob):Prop:=
 ∃(u:ie) (b:Nat) (k U:Bool),h=.ret (.d u.d)/\i=[iD e U,iC,tf b c k q]/\r<=b/\b<=c/\(U=false->w=false/\((k=true/\(j=true\/RW e c n t r .ja))\/(k=false/\j=false/\RW e c n t r (.ok u b))))
theorem KO(H:ko r){ps:List fB}(z:0<=c/\c<=1099511627776)(I:e<=1000000)(n w j k m s q i d y)(G:d<=e)(J:(ie.mk k m s q i).size+30000*(e-d)<n)(M:(ie.mk k m s q i).size+30000*(e-d)<=1000000000000)(x:Wt (jY r) ps (.mk k m s q i) c):
 jT fC gl 51 [iD r w,iC,tf d e j y] [.jk 0 0,.d (ie.mk k m s q i).d,.jk 2 0] (GS r e n (.mk k m s q i) d y w j):=by
 by_cases h:w=true\/j=true
 .refine (RZ r w j h k m s q i d e y).mono λo b U=>?_
  obtain⟨rfl,rfl⟩:=U;refine⟨_,d,j,w,rfl,rfl,ae _,G,λx=>?_⟩;rcases h with h|h
  .rw [h] at x;cases x
  .exact ⟨x,.inl ⟨h,.inl h⟩⟩
 .obtain ⟨rfl,rfl⟩:w=false/\j=false:=by cases w<;>cases j<;>simp_all
  refine(R1 H z I n k m s q i d y G J M x).mono λo b U=>?_
  obtain⟨u,R,S,V,W,Y,e3,e4,e5⟩:=U;refine⟨u,R,S,V,W,Y,e3,e4,λh=>⟨rfl,?_⟩⟩;rcases e5 h with⟨C,F⟩|⟨C,F⟩
  .exact .inl ⟨C,.inr F⟩
  .exact .inr ⟨C,rfl,F⟩
def ie.ars:ie->List ie| .mk _ _ _ _ a=>a
def ie.wa:ie->List ie->ie| .mk k m s ls _,l=>.mk k m s ls l
inductive tQ where
 |ok (u:ie) (d:Nat) (p:Int)
 |ja
inductive xr where
 |ok (l:List ie) (d:Nat) (p:Int)
 |ja
def xr.to(c:List ie->ie):xr->tQ
 | .ok l d p=>.ok (c l) d p
 | .ja=>.ja
def xr.cons(y:ie):xr->xr
 | .ok l d p=>.ok (y::l) d p
 | .ja=>.ja
def Ch(R:ie->Nat->Int->tQ->Prop):List ie->Nat->Int->xr->Prop
 |[],d,p,o=>o=.ok [] d p
 |x::r,d,p,o=>(R x d p .ja/\o=.ja)\/∃y d1 b k,R x d p (.ok y d1 b)/\Ch R r d1 b k/\o=k.cons y
def RN(c:List iI)(most:Nat):Nat->ie->Nat->Int->tQ->Prop
 |0,_,_,_,_=>False
 |n+1,t,d,p,o=>(∃ m,RW c most m t d .ja/\o=.ja)\/∃m u d1 b,RW c most m t d (.ok u d1)/\p+1<=20000/\
  ((ie.kd u=3/\Ch (RN c most n) (ig u).2 d1 (p+1) b/\o=b.to (iF (ig u).1))\/(ie.kd u≠3/\Ch (RN c most n) (ie.ars u) d1 (p+1) b/\o=b.to (ie.wa u)))
theorem Ch.snoc{R:ie->Nat->Int->tQ->Prop}:∀{l:List ie} {d:Nat} {p:Int} {U:List ie} {d1:Nat} {k:Int} {x:ie},Ch R l d p (.ok U d1 k)->(∀ {y d2 c},R x d1 k (.ok y d2 c)->Ch R (l++[x]) d p (.ok (U++[y]) d2 c))/\(R x d1 k .ja->∀r,Ch R (l++x::r) d p .ja)
 |[],d,p,U,d1,k,x,h=>by
  cases h;exact⟨λb=>.inr ⟨_,_,_,_,b,rfl,rfl⟩,λb r=>.inl ⟨b,rfl⟩⟩
 |a::l,d,p,U,d1,k,x,h=>by
  rcases h with⟨_,b⟩|⟨y,d2,c,j,b,q,i⟩
  .cases b
  .cases j with
   |ja=>cases i
   |ok l2 d3 p3=>
    cases i;obtain⟨s,z⟩:=Ch.snoc (x:=x) q;exact⟨λe=>.inr ⟨_,_,_,_,b,s e,rfl⟩,λe r=>.inr ⟨_,_,_,_,b,z e r,rfl⟩⟩
theorem qF.flat{e:Sg}{i:List fB}{c:Int}:∀{l:List ie},(∀ x∈l,Wt e i x c)->qF e i false l c
 |[],_=>trivial
 |a::r,h=>⟨by rw[Bool.false_and];exact h a bC,qF.flat λx b=>h x (bB _ b)⟩
theorem qF.T1{e:Sg}{i:List fB}{c:Int}:∀{l:List ie},qF e i false l c->∀x∈l,Wt e i x c
 |a::r,h,x,hx=>by
  rcases bh.1 hx with rfl|hx
  .have:=h.1;rw[Bool.false_and] at this;exact this
  .exact qF.T1 h.2 x hx
theorem Qi{q:Sg}{r:List fB}{i:Nat}{R:ie->Nat->Int->tQ->Prop}{b:Bool}
 (x:∀{t u:ie} {d k:Nat} {p U c:Int},R t d p (.ok u k U)->d<=i->0<=c->Wt q r t c->Wt q r u c/\d<=k/\k<=i/\p<U/\U<=20000/\u.size+30000*(i-k)<=t.size+30000*(i-d)):
 ∀{l j:List ie} {d k:Nat} {p U c:Int},Ch R l d p (.ok j k U)->d<=i->0<=c->p<=20000->qF q r b l c->qF q r b j c/\j.length=l.length/\d<=k/\k<=i/\p<=U/\U<=20000/\ij j+30000*(i-k)<=ij l+30000*(i-d)
 |[],j,d,k,p,U,c,h,hd,z,C,hw=>by
  cases h;exact⟨trivial,rfl,ae _,hd,aP _,C,ae _⟩
 |a::l,j,d,k,p,U,c,h,hd,z,C,hw=>by
  rcases h with⟨_,s⟩|⟨y,d2,W,G,s,H,F⟩
  .cases s
  .cases G with
   |ja=>cases F
   |ok l2 d3 p3=>
    cases F;obtain⟨I,Y,J,g4,M,g6⟩:=x s hd (by split<;>omega) hw.1;obtain⟨k1,k2,k3,S,k5,V,k7⟩:=Qi x H J z M hw.2;refine⟨⟨?_,k1⟩,by simp only[aj,k2],O,S,O,V,by simp only[ij];omega⟩;have e:l2.isEmpty=l.isEmpty:=by cases l2<;>cases l<;>simp_all
    rw[e];exact I
theorem D7(J:ko r):∀(n:Nat) {t u:ie} {d U:Nat} {p e c:Int},RN r most n t d p (.ok u U e)->d<=most->0<=c->Wt (jY r) C t c->
 Wt (jY r) C u c/\d<=U/\U<=most/\p<e/\e<=20000/\u.size+30000*(most-U)<=t.size+30000*(most-d):=by
 intro n
 induction n with
 |zero=>intro t u d U p e c h;exact h.elim
 |succ n F=>
  intro t u d U p e c h hd x hw;rcases h with⟨_,_,h⟩|⟨m,v,d1,G,M,H,i⟩
  .cases h
  .obtain ⟨j,e1,I,e3⟩:=vB J x m M hd hw;rcases i with⟨_,i,q⟩|⟨_,i,q⟩
   .cases G with
    |ja=>cases q
    |ok l2 d3 p3=>
     cases q;obtain⟨_,R,S,_⟩:=Wt.spine _ (ae _) j;have V:=qa j;obtain⟨k1,k2,W,y,Y,z,k7⟩:=Qi (b:=false) F i I x H (qF.flat S);exact⟨Wt.apply R (qF.T1 k1),O,y,O,z,by rw[jG];omega⟩
   .cases G with
    |ja=>cases q
    |ok l2 d3 p3=>
     cases q;obtain⟨k,m2,s,ls,args⟩:=v;simp only[ie.ars,ie.wa,ie.size] at*
     obtain⟨k1,k2,W,y,Y,z,k7⟩:=Qi (b:=decide (4<=k)) F i I x H j.2.1;exact⟨⟨j.1,k1,by rw[k2];exact j.2.2⟩,O,y,O,z,O⟩
def pB(p:Int):Int:=if p<=20000 then 20001+(20001-p)*1000000000001 else p+1
def Nq(h:List iI)(c n:Nat)(t:ie)(s:Nat)(e:Int)(w q:Bool)(i:Out)(j:List Ob):Prop:=
 ∃(u:ie) (b:Nat) (U r:Bool) (k:Int),i=.ret (.d u.d)/\j=[iD h r,iC,tf b c U k]/\s<=b/\b<=c/\e<k/\k<=pB e/\(r=false->w=false/\((U=true/\(q=true\/RN h c n t s e .ja))\/(U=false/\q=false/\RN h c n t s e (.ok u b k))))
def aef(i:Nat->List D)(h:List iI)(j:List fB)(e n:Nat):Prop:=
 ∀(k m:Int) (s:fB) (ls:List iq) (args:List ie) (c:Int) (d:Nat) (b:Int) (w U:Bool),d<=e->0<=c->(ie.mk k m s ls args).size+30000*(e-d)<n->c+(ie.mk k m s ls args).size+30000*(e-d)<=1000000000000->Wt (jY h) j (.mk k m s ls args) c->0<=b->b<=1000000000000000000->
  jT fC i 37 [iD h w,iC,tf d e U b] [.jk 0 0,.d (ie.mk k m s ls args).d,.jk 2 0] (Nq h e n (.mk k m s ls args) d b w U)
structure WH (es:List iI) (most n:Nat) (l:List ie) (d1:Nat) (p1:Int) (i:Nat) (w t:Bool) (d:Nat) (p:Int) (ys:List ie):Prop where
 il:i<=l.length
 yl:ys.length=i
 dl:d1<=d
 dm:d<=most
 pl:p1<=p
 pu:p<=20001+(20001-p1)*1000000000001+i
 ok:w=false->(t=true/\Ch (RN es most n) l d1 p1 .ja)\/(t=false/\Ch (RN es most n) (l.take i) d1 p1 (.ok ys d p))
theorem WH.step{d:Nat}(h:WH e c n l z j i w t d p C)(G:l[i]? =some x)(W:d<=q)(J:q<=c)(Y:p<r)(H:r<=pB p)(hp:j<p\/i=0)(M:j<=20000)
 (R:F=false->w=false/\((s=true/\(t=true\/RN e c n x d p .ja))\/(s=false/\t=false/\RN e c n x d p (.ok y q r)))):WH e c n l z j (i+1) F s q r (C++[y]):=by
 have hi:=(aJ.1 G).1;have h6:=h.dl;have h7:=h.dm;have h8:=h.pl;have h9:=h.pu;refine⟨O,by rw[aN,h.yl];rfl,O,J,O,?_,λhw=>?_⟩
 .unfold pB at H;split at H<;>omega
 .obtain ⟨S,U⟩:=R hw;have I:l.take (i+1)=l.take i++[x]:=by rw[bo,G];rfl
  have V:l=l.take i++x::l.drop (i+1):=by
   conv=>lhs;rw[<- dp (i+1) l,I]
   rw[bq];rfl
  rcases h.ok S with⟨k,b⟩|⟨k,b⟩
  .rcases U with⟨k1,_⟩|⟨_,k1,_⟩
   .exact .inl ⟨k1,b⟩
   .rw [k] at k1;cases k1
  .rcases U with⟨k1,k2|k2⟩|⟨k1,_,k2⟩
   .rw [k] at k2;cases k2
   .refine .inl ⟨k1,?_⟩;rw[V];exact(Ch.snoc (x:=x) b).2 k2 _
   .refine .inr ⟨k1,?_⟩;rw[I];exact(Ch.snoc (x:=x) b).1 k2
set_option maxHeartbeats 1600000 in
theorem Ip(hE:ko r){ps:List fB}(hm:e<=1000000):∀N,aef gl r ps e N:=by
 intro N
 induction N with
 |zero=>intro k m s ls args c d j w tI _ _ h;omega
 |succ N ih=>
  intro k m s ls args c d j w tI hdm hc hz1 hz2 hWt hp0 hpm;have hwh:=KO (gl:=gl) hE (ps:=ps) (c:=c) ⟨hc,O⟩ hm ((ie.mk k m s ls args).size+30000*(e-d)+1) w tI k m s ls args d j hdm O O hWt;obtain⟨T0,hT0⟩:∃x,x=ie.mk k m s ls args:=⟨_,rfl⟩;rw[<- hT0] at hz1 hz2 hWt;rw[show Nq r e (N+1) (.mk k m s ls args) d j w tI=Nq r e (N+1) T0 d j w tI by rw[hT0]];rw[show GS r e ((ie.mk k m s ls args).size+30000*(e-d)+1) (.mk k m s ls args) d j w tI=GS r e ((ie.mk k m s ls args).size+30000*(e-d)+1) T0 d j w tI by rw[hT0]] at hwh;generalize(ie.mk k m s ls args).size+30000*(e-d)+1=G at hwh;have hpb:j+1<=pB j:=by unfold pB;split<;>omega
  refine nR Tryz.func37 93 3 ?_;refine uo 11 hwh [0,1,2] ?_;rintro s ob' ⟨⟨k1,y,s1,l1,a1⟩,d1,t1,w1,⟨⟩,rfl,hd1,hd2,Y⟩;refine uv ?_;refine jS 9 ?_;refine rV 13 33 28 5 ?_;refine rV 13 45 41 4 ?_;refine jq 2 ?_ ?_<;>intro h4
  .refine jD 8 ((ie.mk k1 y s1 l1 a1).d) [0,1,2] [iD r (w1||decide (20000<j+1)),iC,tf d1 e t1 (j+1)] ?_
   .refine ⟨.mk k1 y s1 l1 a1,d1,t1,_,j+1,rfl,rfl,hd1,hd2,O,hpb,λhw=>?_⟩;simp only[ef,decide_eq_false_iff_not,dJ] at hw;obtain⟨e1,e2⟩:=Y hw.1;refine⟨e1,?_⟩;rcases e2 with⟨e3,e4|e4⟩|⟨e3,e4,e5⟩
    .exact .inl ⟨e3,.inl e4⟩
    .exact .inl ⟨e3,.inr (.inl ⟨_,e4,rfl⟩)⟩
    .exfalso
     rcases h4 with h|h|h
     .rw [e3] at h;cases h
     .rw [hw.1] at h;cases h
     .omega
  have hok:t1=false/\w1=false/\j+1<=20000:=(by cases t1<;>cases w1<;>simp_all);obtain⟨rfl,rfl,R⟩:=hok;obtain⟨rfl,hres2⟩:=Y rfl;have hres3:tI=false/\RW r e G T0 d (.ok (.mk k1 y s1 l1 a1) d1):=(by
   rcases hres2 with⟨h,_⟩|⟨_,h1,h2⟩
   .cases h
   .exact ⟨h1,h2⟩)
  obtain⟨rfl,hRW⟩:=hres3;obtain⟨hv,e1,e2,e3⟩:=vB hE hc G hRW hdm hWt;have hdec:decide (20000<j+1)=false:=decide_eq_false O;refine j7 10 ?_ ?_<;>intro h6
  .have hal:=ir a1;have has:=iJ a1;have hvz:(ie.mk k1 y s1 l1 a1).size=1+iG l1+ij a1:=rfl;have z:∀S,Ch (RN r e N) a1 d1 (j+1) S->RN r e (N+1) T0 d j (S.to (ie.wa (.mk k1 y s1 l1 a1))):=(λS h=>.inr ⟨G,_,d1,S,hRW,R,.inr ⟨h6,h,rfl⟩⟩);refine rF 14 ?_;refine iP 39 5 rfl<|pt 0 (ι:=Nat×Bool×Bool×Nat×Int×List ie) (λ⟨i,w3,t3,d3,p3,q⟩=>[(11,int i),(10,.own 5 5 (im q))]) (λ⟨i,w3,t3,d3,p3,q⟩=>[iD r w3,iC,tf d3 e t3 p3,tO k1 y s1 l1 a1,zO,tR]) [6,4,0,2] (λ⟨i,w3,t3,d3,p3,q⟩=>WH r e N a1 d1 (j+1) i w3 t3 d3 p3 q/\(j+1<p3\/i=0)) (λ⟨i,w3,t3,d3,p3,q⟩=>a1.length-i) ((0,(false||decide (20000<j+1)),false,d1,j+1,[])) ([0,1,2,3,4,5]) ⟨⟨ak _,rfl,ae _,e2,aP _,O,λ_=>.inr ⟨rfl,rfl⟩⟩,.inr rfl⟩ ?_ (hM:=by exact oL (iU (j8 rfl (by exact Fit.nil rfl))));rintro⟨i,w3,t3,d3,p3,q⟩ b
   try dsimp only at b
   refine j7 10 ?_ ?_<;>intro h15
   .have hws:=uM (gl:=gl) k1 y s1 l1 a1 q;refine ny 9 hws ?_;refine jD 4 ((ie.mk k1 y s1 l1 q).d) [0,1,2] [iD r w3,iC,tf d3 e t3 p3] ?_
    .have hx1:=b.1.dl;have hx3:=b.1.pl;have hx4:=b.1.pu;have hx5:=b.1.il;have hi:i=a1.length:=O;refine⟨.mk k1 y s1 l1 q,d3,t3,w3,p3,rfl,rfl,O,b.1.dm,O,by unfold pB;rw[if_pos O];omega,λhw=>⟨rfl,?_⟩⟩;rcases b.1.ok hw with⟨g1,V⟩|⟨g1,V⟩
     .exact .inl ⟨g1,.inr (z _ V)⟩
     .rw [hi,bT] at V;exact .inr ⟨g1,rfl,z _ V⟩
   obtain⟨kx,mx,sx,lx,ax,U⟩:=iZ (show i<a1.length by omega);have hxz:=iO U;have hx1:=b.1.dl;have hx2:=b.1.dm;have hx3:=b.1.pl;have hx4:=b.1.pu;have hyl:=b.1.yl;have hxw:=qF.get hv.2.1 U;obtain⟨cx,hcx,hcl⟩:∃cx,cx=(if decide (4<=k1)=true/\i+1=a1.length then c+1 else c)/\c<=cx/\cx<=c+1:=⟨_,rfl,by split<;>omega,by split<;>omega⟩;rw[<- hcx] at hxw;have hnm:=ih kx mx sx lx ax cx d3 p3 w3 t3 hx2 O O O hxw O O;have hytl:=ir q;refine ni 10 iQ iY ?_ (hat:=(jr U));refine uo 2 hnm [0,1,2] ?_;rintro s ob' ⟨⟨kY,mY,sY,lY,aY⟩,d4,t4,w4,p4,⟨⟩,rfl,hq3,hq4,hq5,hq6,hq7⟩;have hnx:im q++[[fD kY,fD mY,fG sY,.sl 3 (iR lY),.sl 5 (im aY)]]=im (q++[.mk kY mY sY lY aY]):=(by rw[ll];rfl);refine uv ?_;refine oR 0 mN [.tmp 87] jz ?_;refine oc (ya mN ?_);refine jS 6 ?_;refine rF 2 ?_;rw[hnx];refine ml 0 (i+1,w4,t4,d4,p4,q++[.mk kY mY sY lY aY]) [0,1,2,3,4,5] ?_;refine⟨⟨b.1.step U hq3 hq4 hq5 hq6 b.2 R hq7,.inl O⟩,show a1.length-(i+1)<a1.length-i by omega⟩
  obtain rfl:k1=3:=O;obtain⟨hok,hH,hA,hsp⟩:=Wt.spine _ (ae _) hv;have C:=oW (gl:=gl) 3 y s1 l1 a1 hok O;have hz:=qa hv;rcases hS:ig (.mk 3 y s1 l1 a1) with⟨⟨kh,mh,sh,lh,ah⟩,W⟩;rw[hS] at C hH hA hz hsp;dsimp only at C hH hA hz hsp;have hal:=ir W;have has:=iJ W;have z:∀S,Ch (RN r e N) W d1 (j+1) S->RN r e (N+1) T0 d j (S.to (iF (.mk kh mh sh lh ah))):=(λS h=>.inr ⟨G,_,d1,S,hRW,R,.inl ⟨rfl,by rw[hS];exact h,by rw[hS]⟩⟩);refine ny 3 C ?_;refine pt 15 (ι:=Nat×Bool×Bool×Nat×Int×List ie×Int×Int×fB×List iq×List ie) (λ⟨i,w3,t3,d3,p3,q,F,H,I,J,M⟩=>[(9,int i)]) (λ⟨i,w3,t3,d3,p3,q,F,H,I,J,M⟩=>[iD r w3,iC,tf d3 e t3 p3,tO 3 y s1 l1 a1,zO,tO F H I J M]) [8,7,6,0,2] (λ⟨i,w3,t3,d3,p3,q,F,H,I,J,M⟩=>WH r e N W d1 (j+1) i w3 t3 d3 p3 q/\(j+1<p3\/i=0)/\iF (.mk kh mh sh lh ah) q=.mk F H I J M) (λ⟨i,w3,t3,d3,p3,q,F,H,I,J,M⟩=>W.length-i) ((0,(false||decide (20000<j+1)),false,d1,j+1,[],kh,mh,sh,lh,ah)) ([0,1,2,3,4,5]) ⟨⟨ak _,rfl,ae _,e2,aP _,O,λ_=>.inr ⟨rfl,rfl⟩⟩,.inr rfl,rfl⟩ ?_;rintro⟨i,w3,t3,d3,p3,q,F,H,I,J,M⟩ b
  try dsimp only at b
  refine j7 9 ?_ ?_<;>intro h9
  .refine jD 13 ((ie.mk F H I J M).d) [0,1,2] [iD r w3,iC,tf d3 e t3 p3] ?_
   .have hx1:=b.1.dl;have hx3:=b.1.pl;have hx4:=b.1.pu;have hx5:=b.1.il;have hi:i=W.length:=O;refine⟨.mk F H I J M,d3,t3,w3,p3,rfl,rfl,O,b.1.dm,O,by unfold pB;rw[if_pos O];omega,λhw=>⟨rfl,?_⟩⟩;rcases b.1.ok hw with⟨g1,V⟩|⟨g1,V⟩
    .exact .inl ⟨g1,.inr (z _ V)⟩
    .rw [hi,bT] at V;refine .inr ⟨g1,rfl,?_⟩;have:=z _ V;rw[xr.to,b.2.2] at this;exact this
  obtain⟨kx,mx,sx,lx,ax,U⟩:=iZ (show i<W.length by omega);have hxz:=iO U;have hx1:=b.1.dl;have hx2:=b.1.dm;have hx3:=b.1.pl;have hx4:=b.1.pu;have hnm:=ih kx mx sx lx ax c d3 p3 w3 t3 hx2 hc O O (hA _ (aO U)) O O;refine ma 4 [0,1,2,3] mixed ?_;refine pQ 4 iQ iY ?_ (hat:=(jr U));refine ga [5,6] ?_;refine MZ 7 hnm [0,1,2] ?_;rintro s ob' ⟨⟨kY,mY,sY,lY,aY⟩,d4,t4,w4,p4,⟨⟩,rfl,hq3,hq4,hq5,hq6,hq7⟩;refine Lg ?_;refine qB 8 (lS F H I J M kY mY sY lY aY) ?_;refine nO 9 ?_;refine iB<|jS 4 ?_;refine ml 2 (i+1,w4,t4,d4,p4,q++[.mk kY mY sY lY aY],3,0,.empty,[],[.mk F H I J M,.mk kY mY sY lY aY]) [0,1,2,3,4,5] ?_;refine⟨⟨b.1.step U hq3 hq4 hq5 hq6 b.2.1 R hq7,.inl O,by rw[qR,b.2.2]⟩,show W.length-(i+1)<W.length-i by omega⟩
def RWx(e:List iI)(c:Nat)(t:ie)(o:qZ):Prop:= ∃n,RW e c n t 0 o
def Qh(e:List iI)(c:Nat)(t:ie)(w:Bool)(h:Out)(i:List Ob):Prop:=
 ∃(u:ie) (b:Nat) (code:Int) (k:Bool),h=.ret (.d (.jj [u.d,.v (.int .i64 b),.v (.int .i64 code)]))/\i=[iD e k,iC]/\b<=c/\(code=0\/code=14)/\(code=0->k=false)/\(k=false->w=false/\((code=14/\RWx e c t .ja)\/(code=0/\RWx e c t (.ok u b))))
theorem Ov{q:List iI}(V:ko q){ps:List fB}{c:Int}(W:0<=c){e:Nat}(Y:e<=1000000)(w:Bool)(k m:Int)(s:fB)(j:List iq)(i:List ie)(hz:c+(ie.mk k m s j i).size+30000*e<=1000000000000)(hw:Wt (jY q) ps (.mk k m s j i) c):
 jT fC gl 32 [iD q w,iC] [.jk 0 0,.d (ie.mk k m s j i).d,fE e] (Qh q e (.mk k m s j i) w):=by
 have U:=KO (gl:=gl) V (ps:=ps) (c:=c) ⟨W,O⟩ Y ((ie.mk k m s j i).size+30000*(e-0)+1) w false k m s j i 0 0 O O O hw;obtain⟨J,r⟩:∃x,x=ie.mk k m s j i:=⟨_,rfl⟩;rw[show Qh q e (.mk k m s j i) w=Qh q e J w by rw[r]];rw[show GS q e ((ie.mk k m s j i).size+30000*(e-0)+1) (.mk k m s j i) 0 0 w false=GS q e ((ie.mk k m s j i).size+30000*(e-0)+1) J 0 0 w false by rw[r]] at U;generalize(ie.mk k m s j i).size+30000*(e-0)+1=G at U;refine nR Tryz.func32 34 2 ?_;refine uo 21 U [0,1,4] ?_;rintro s ob' ⟨⟨k1,M,s1,l1,a1⟩,d1,t1,y,⟨⟩,rfl,hd1,C,b⟩;refine uv ?_;refine rV 12 26 22 4 ?_;refine jq 2 ?_ ?_<;>intro R
 .refine jD 10 (.jj [iu.d,fD 0,fD 14]) [0,1] [iD q y,iC] ?_
  .refine ⟨iu,0,14,y,rfl,rfl,O,.inr rfl,λh=>O,λh=>?_⟩;obtain⟨F,H⟩:=b h;refine⟨F,?_⟩;rcases H with⟨z,e4|e4⟩|⟨z,e4,S⟩
   .cases e4
   .exact .inl ⟨rfl,_,e4⟩
   .exfalso;rw[z,h] at R;simp at R
 refine ma 3 [0,1,2,3,4] mixed ?_;refine nO 5 ?_;refine ga [6,7] ?_;refine iB<|jD 2 (.jj [(ie.mk k1 M s1 l1 a1).d,fD d1,fD 0]) [0,1] [iD q y,iC] ?_
 .have I:t1=false/\y=false:=(by cases t1<;>cases y<;>simp_all);obtain⟨rfl,rfl⟩:=I;refine⟨.mk k1 M s1 l1 a1,d1,0,false,rfl,rfl,C,.inl rfl,λ_=>rfl,λ_=>?_⟩;obtain⟨F,H⟩:=b rfl;refine⟨F,?_⟩;rcases H with⟨z,_⟩|⟨z,e4,S⟩
  .cases z
  .exact .inr ⟨rfl,_,S⟩
def p3(i:Nat):Nat:=3^i
theorem Xq(i):p3 (i+1)=p3 i*3:=by simp[p3,Nat.pow_succ]
theorem YX(h:i<=6):1<=p3 i/\p3 i<=729:=by
 rcases(show i=0\/i=1\/i=2\/i=3\/i=4\/i=5\/i=6 by omega) with rfl|rfl|rfl|rfl|rfl|rfl|rfl<;>decide
def dv(c i:Nat):Nat:=c/3^i
theorem adi(c i):dv c i<=c:=Nat.div_le_self _ _
theorem Yg(c i):dv c (i+1)=dv c i/3:=by unfold dv;rw[Nat.pow_succ,<-Nat.div_div_eq_div_mul]
theorem Yf(c):dv c 0=c:=by unfold dv;rw[Nat.pow_zero,Nat.div_one]
theorem T9(c:Int)(r:Nat):[[D.v (.int .i64 0)],[D.v (.int .i64 1)],[D.v (.int .i64 c)]][((r:Int)%3).toNat]? =some [D.v (.int .i64 (QB c r))]:=by
 have e:((r:Int)%3).toNat=r%3:=O;have:r%3<3:=Nat.mod_lt _ O;rw[e];unfold QB;rcases(show r%3=0\/r%3=1\/r%3=2 by omega) with h|h|h<;>simp[h]
theorem uS:∀(l:jC) (k:List fB),k.length<=(l.params k).length
 | .zero,_=>ae _
 | .succ a,k=>uS a k
 | .max a b,k=>aQ (uS a k) (uS b _)
 | .imax a b,k=>aQ (uS a k) (uS b _)
 | .param s,k=>by simp only[jC.params];split<;>simp
theorem JD:∀(n:Nat) (k:Int) (s:fB) (args:List iq) (k2:Int) (s2:fB) (b:List iq),(iq.mk k s args).size<=n->(iq.mk k s args).size<=1099511627776->
 jA fC H 70 [(iq.mk k s args).d,(iq.mk k2 s2 b).d] (· =fF (iq.same (.mk k s args) (.mk k2 s2 b))):=by
 intro n
 induction n with
 |zero=>intro k s args k2 s2 b h;simp[iq.size] at h
 |succ n I=>
  intro k s args k2 s2 b J M;have R:iG args<=n:=by simp[iq.size] at J;omega
  have y:=jn args;have j:=jn b;have S:=pO args;simp only[iq.size] at M;refine oN Tryz.func70 48 ?_;refine rV 16 17 12 5 ?_;refine rV 1 26 19 7 ?_;refine jq 2 ?_ ?_<;>intro z
  .refine od 7 ?_;rw[iq.r4];rcases z with(h|h)|h
   .simp [h]
   .simp [h]
   .have:n6 args b=false:=by
     cases V:n6 args b with
     |false=>rfl
     |true=>exact absurd (by have:=CF V;omega) h
    simp[this]
  refine vq 9 (ι:=Nat) (λi=>[(5,int i)]) [3,2] (λi=>i<=args.length/\n6 (args.take i) (b.take i)=true) (λi=>args.length-i) (0) ⟨ak _,by simp[n6]⟩ ?_;rintro i e
  try dsimp only at e
  refine j7 10 ?_ ?_<;>intro h4
  .refine od 11 ?_;rw[iq.r4];have C:=e.2;rw[aS O,aS O] at C;simp[C,z]
  obtain⟨W,Y,a',c⟩:=kj (show i<args.length by omega);obtain⟨q,r,x,U⟩:=kj (show i<b.length by omega);have F:=pJ c;refine ma 5 [0,1,2] mixed ?_;refine pQ 3 oz oP ?_ (hat:=(lj c));refine ga [4,5,6,7] ?_;refine pQ 8 oz oP ?_ (hat:=(lj U));refine ga [9] ?_;refine qB 10 (I W Y a' q r x O O) ?_;refine ga [11] ?_;refine iB<|jq 7 ?_ ?_<;>intro G
  .refine od 11 ?_;rw[iq.r4];rw[yG c U G];simp
  refine jS 5 ?_;refine qX 2 (i+1) ?_;exact⟨⟨O,by rw[Fl c U];simp[e.2,G]⟩,O⟩
end
end Go.Proofs.YtndbnldjidciiaaGreatDoor
namespace Go.Vd
variable{α a c e h i j k2 l m n q r s x y}
open Go Go.RowKit
theorem HD:∀{a b:jC},a.iT=b.iT->a=b:=by
 intro a
 induction a with
 |zero=>intro b h;cases b<;>simp[jC.iT] at h ⊢
 |succ a e=>intro b h;cases b<;>simp[jC.iT] at h ⊢;exact e h
 |max a c k U=>intro b h;cases b<;>simp[jC.iT] at h ⊢;exact⟨k h.1,U h.2⟩
 |imax a c k U=>intro b h;cases b<;>simp[jC.iT] at h ⊢;exact⟨k h.1,U h.2⟩
 |param s=>intro b h;cases b<;>simp[jC.iT] at h ⊢;exact h
noncomputable def Sf (x y:iq):Bool:=@decide (∃ a b:jC,x=a.iT/\y=b.iT/\Fj a b=true/\Fj b a=true) (Classical.propDecidable _)
theorem JB(a b):Sf a.iT b.iT=(Fj a b&&Fj b a):=by
 rw[Bool.eq_iff_iff,bY];unfold Sf;rw[@decide_eq_true_iff _ (Classical.propDecidable _)];constructor
 .rintro ⟨e,i,k,U,c⟩;rw[HD k,HD U];exact c
 .intro h;exact⟨a,b,rfl,rfl,h⟩
noncomputable def PK (x y:iq):Bool:=x.same y||Sf x y
def qE{α:Type}(E:α->α->Bool):List α->List α->Bool
 |[],[]=>true
 |x::r,y::s=>E x y&&qE E r s
 |_,_=>false
theorem Nm{α:Type}{c:α->α->Bool}:∀{a b:List α},qE c a b=true->a.length=b.length
 |[],[],_=>rfl
 |l::r,l2::k,h=>by simp[qE] at h;simp[Nm h.2]
 |[],_::_,h=>by simp[qE] at h
 |_::_,[],h=>by simp[qE] at h
theorem RM{a b:List α}(h:¬a.length=b.length):qE c a b=false:=by
 cases k:qE c a b with
 |false=>rfl
 |true=>exact absurd (Nm k) h
theorem Nn{α:Type}{c:α->α->Bool}:∀{a b:List α} {x y:α},a.length=b.length->qE c (a++[x]) (b++[y])=(qE c a b&&c x y)
 |[],[],x,y,_=>by simp[qE]
 |l::r,l2::k,x,y,h=>by simp[qE,Nn (a:=r) (b:=k) (by simpa using h),Bool.and_assoc]
 |[],_::_,_,_,h=>by simp at h
 |_::_,[],_,_,h=>by simp at h
theorem Jg{a j:List α}{i:Nat}(c:a[i]? =some x)(e:j[i]? =some y):qE h (a.take (i+1)) (j.take (i+1))=(qE h (a.take i) (j.take i)&&h x y):=by
 have k:=(aJ.1 c).1;have U:=(aJ.1 e).1;rw[bo,bo,c,e];exact Nn (by simp;omega)
theorem AX{α:Type}{j:α->α->Bool}:∀{a b:List α} {i:Nat} {x y:α},a[i]? =some x->b[i]? =some y->j x y=false->qE j a b=false
 |[],_,i,_,_,h,_,_=>by simp at h
 |_::_,[],i,_,_,_,h,_=>by simp at h
 |l::r,l2::e,0,x,y,k,U,c=>by simp at k U;subst k U;simp[qE,c]
 |l::r,l2::e,i+1,x,y,k,U,c=>by simp[qE];intro _;exact AX (i:=i) (by simpa using k) (by simpa using U) c
theorem GQ:∀(a b:List iq),qE iq.same a b=n6 a b
 |[],[]=>by simp[qE,n6]
 |[],_::_=>by simp[qE,n6]
 |_::_,[]=>by simp[qE,n6]
 |x::r,y::s=>by simp[qE,n6,GQ r s]
mutual
def Yc(E:iq->iq->Bool):ie->ie->Bool
 | .mk k n s ls a,.mk k2 n2 s2 ls2 a2=>decide (k=k2)&&decide (n=n2)&&decide (s=s2)&&qE E ls ls2&&PJ E a a2
def PJ(E:iq->iq->Bool):List ie->List ie->Bool
 |[],[]=>true
 |l::r,l2::r2=>Yc E l l2&&PJ E r r2
 |_,_=>false
end
theorem MK(c:iq->iq->Bool):∀a b:List ie,PJ c a b=qE (Yc c) a b
 |[],[]=>by simp[qE,PJ]
 |[],_::_=>by simp[qE,PJ]
 |_::_,[]=>by simp[qE,PJ]
 |x::r,y::s=>by simp[qE,PJ,MK c r s]
theorem aao(r:iq->iq->Bool)(x n s e a h i j c q):Yc r (.mk x n s e a) (.mk h i j c q)=(decide (x=h)&&decide (n=i)&&decide (s=j)&&qE r e c&&qE (Yc r) a q):=by rw[Yc,MK]
theorem qb{l:List ie}{i:Nat}(h:l[i]? =some a):ij (l.take (i+1))=ij (l.take i)+a.size:=by
 rw[bo,h];have:∀(l m:List ie),ij (l++m)=ij l+ij m:=λl m=>by
  induction l with
  |nil=>simp[ij]
  |cons a r b=>simp[ij,b];omega
 simp[this,ij]
theorem qp(l i):ij (l.take i)<=ij l:=by
 induction l generalizing i with
 |nil=>simp[ij]
 |cons a r b=>
  cases i with
  |zero=>simp[ij]
  |succ i=>have:=b i;simp only[du,ij];omega
end Go.Vd
namespace Go.Mt
variable{α A B C F G H I J K L M P R S T V W X Y a az c e first g h hi i j k2 l m n p q q' q2 r s t u v w x y z}
inductive E where
 |var (n:Nat)
 |nD
 |pz (c:fB)
 |app (f a:E)
 |lam (b:E)
 |pi (a b:E)
open E
def up(r:Nat->Nat):Nat->Nat|0=>0|n+1=>r n+1
def E.j5:E->(Nat->Nat)->E
 |var n,r=>var (r n)
 |nD,_=>nD
 |pz c,_=>pz c
 |app f a,r=>app (f.j5 r) (a.j5 r)
 |lam b,r=>lam (b.j5 (up r))
 |pi a b,r=>pi (a.j5 r) (b.j5 (up r))
abbrev E.sh(t:E):E:=t.j5 Nat.succ
def vG(s:Nat->E):Nat->E|0=>var 0|n+1=>(s n).sh
def E.sub:E->(Nat->E)->E
 |var n,s=>s n
 |nD,_=>nD
 |pz c,_=>pz c
 |app f a,s=>app (f.sub s) (a.sub s)
 |lam b,s=>lam (b.sub (vG s))
 |pi a b,s=>pi (a.sub s) (b.sub (vG s))
def one(a:E):Nat->E|0=>a|n+1=>var n
theorem ac7(r q:Nat->Nat):(λn=>up q (up r n))=up (λn=>q (r n)):=by
 funext n;cases n<;>rfl
theorem xJ(t:E):∀r q,(t.j5 r).j5 q=t.j5 λn=>q (r n):=by
 induction t<;>intro r q<;>simp_all [E.j5,ac7]
theorem Zo(r:Nat->Nat)(s:Nat->E):(λn=>vG s (up r n))=vG λn=>s (r n):=by
 funext n;cases n<;>rfl
theorem vS(t:E):∀r s,(t.j5 r).sub s=t.sub λn=>s (r n):=by
 induction t<;>intro r s<;>simp_all [E.j5,E.sub,Zo]
theorem WZ(s:Nat->E)(r:Nat->Nat):(λn=>(vG s n).j5 (up r))=vG λn=>(s n).j5 r:=by
 funext n;cases n
 .rfl
 .simp only[vG,xJ];rfl
theorem zs(t:E):∀s r,(t.sub s).j5 r=t.sub λn=>(s n).j5 r:=by
 induction t<;>intro s r<;>simp_all [E.j5,E.sub,WZ]
theorem Jp(s u:Nat->E):(λn=>(vG s n).sub (vG u))=vG λn=>(s n).sub u:=by
 funext n;cases n
 .rfl
 .simp only[vG,vS,zs]
theorem sub_sub(t:E):∀s u,(t.sub s).sub u=t.sub λn=>(s n).sub u:=by
 induction t<;>intro s u<;>simp_all [E.sub,Jp]
theorem WY:vG var=var:=by funext n;cases n<;>rfl
theorem tU(t:E):t.sub var=t:=by
 induction t<;>simp_all [E.sub,WY]
theorem TW(r:Nat->Nat):vG (λn=>var (r n))=λn=>var (up r n):=by
 funext n;cases n<;>rfl
theorem CJ(t:E):∀r,t.j5 r=t.sub λn=>var (r n):=by
 induction t<;>intro r<;>simp_all [E.j5,E.sub,TW]
theorem CC(t a:E):t.sh.sub (one a)=t:=by
 rw[vS];exact tU t
theorem one_sub(t a:E)(s:Nat->E):(t.sub (one a)).sub s=(t.sub (vG s)).sub (one (a.sub s)):=by
 rw[sub_sub,sub_sub];congr 1;funext n;cases n
 .rfl
 .exact (CC _ _).symm
theorem JW(t a:E)(r:Nat->Nat):(t.sub (one a)).j5 r=(t.j5 (up r)).sub (one (a.j5 r)):=by
 rw[CJ,CJ,CJ,one_sub,TW]
theorem CB(t:E)(s:Nat->E):t.sh.sub (vG s)=(t.sub s).sh:=by unfold E.sh;rw[vS,zs];rfl
theorem Od(t:E)(r:Nat->Nat):t.sh.j5 (up r)=(t.j5 r).sh:=by unfold E.sh;rw[xJ,xJ];rfl
def E.apps:E->List E->E
 |f,[]=>f
 |f,a::l=>(app f a).apps l
theorem lk(c:E)(l:List E)(a:E):c.apps (l++[a])=app (c.apps l) a:=by
 induction l generalizing c with
 |nil=>rfl
 |cons b l k=>exact k _
theorem zi(c:E)(l m:List E):c.apps (l++m)=(c.apps l).apps m:=by
 induction l generalizing c with
 |nil=>rfl
 |cons b l k=>exact k _
theorem om(c:E)(l:List E)(s:Nat->E):(c.apps l).sub s=(c.sub s).apps (l.map (·.sub s)):=by
 induction l generalizing c with
 |nil=>rfl
 |cons b l k=>exact k _
theorem Wo(c:E)(l:List E)(s:Nat->Nat):(c.apps l).j5 s=(c.j5 s).apps (l.map (·.j5 s)):=by
 induction l generalizing c with
 |nil=>rfl
 |cons b l k=>exact k _
def inst(l:List E):Nat->E:=λi=>l.getD i nD
theorem Vt(l)(s:Nat->E):(λi=>(inst l i).sub s)=inst (l.map (·.sub s)):=by
 funext i;simp only[inst,ba,bt];cases l[i]? <;>rfl
theorem Mi(l)(s:Nat->Nat):(λi=>(inst l i).j5 s)=inst (l.map (·.j5 s)):=by
 funext i;simp only[inst,ba,bt];cases l[i]? <;>rfl
theorem Bl{P:List α->Prop}(h0:P [])(h1:∀l a,P l->P (l++[a]))(l:List α):P l:=by
 rw[<- l.reverse_reverse]
 induction l.reverse with
 |nil=>exact h0
 |cons a r ih=>rw[List.reverse_cons];exact h1 _ _ ih
theorem zh:∀{l m:List E},(pz c).apps l=(pz e).apps m->c=e/\l=m:=by
 intro l
 induction l using Bl with
 |h0=>
  intro m h
  induction m using Bl with
  |h0=>exact⟨E.pz.inj h,rfl⟩
  |h1 m b=>rw[lk] at h;cases h
 |h1 l a k=>
  intro m h
  induction m using Bl with
  |h0=>rw[lk] at h;cases h
  |h1 m b=>
   rw[lk,lk] at h;obtain⟨h1,rfl⟩:=E.app.inj h;obtain⟨rfl,rfl⟩:=k h1;exact⟨rfl,rfl⟩
abbrev oO:=fB->fB->Option (Nat×Nat×E)
structure pk (G:oO):Prop where
 ctor:∀{r c x},G r c=some x->∀d,G c d=none
 ahead:∀{r c d n m x n2 m2 x2},G r c=some (n,m,x)->G r d=some (n2,m2,x2)->n=n2
inductive nu (G:oO):E->E->Prop
 |z {t:_}:nu G t t
 |app {f f' a a':_}:nu G f f'->nu G a a'->nu G (app f a) (app f' a')
 |lam {b b':_}:nu G b b'->nu G (lam b) (lam b')
 |pi {a a' b b':_}:nu G a a'->nu G b b'->nu G (pi a b) (pi a' b')
 |beta {b b' a a':_}:nu G b b'->nu G a a'->nu G (app (lam b) a) (b'.sub (one a'))
 |eta {f f':_}:nu G f f'->nu G (lam (app f.sh (var 0))) f'
 |iota {r c x:_} {p p' q q':List E}:G r c=some (p.length,q.length,x)->p'.length=p.length->q'.length=q.length->(∀ i,nu G (p.getD i nD) (p'.getD i nD))->(∀ i,nu G (q.getD i nD) (q'.getD i nD))->nu G (app ((pz r).apps p) ((pz c).apps q)) (x.sub (inst (p'++q')))
theorem getD_map(l:List E)(c:E->E)(h:c nD=nD)(i:Nat):(l.map c).getD i nD=c (l.getD i nD):=by
 simp only[ba,bt];cases l[i]? <;>simp[h]
theorem nu.j5{G:oO}{t u:E}(h:nu G t u):∀r,nu G (t.j5 r) (u.j5 r):=by
 induction h with
 |z=>exact λr=>.z
 |app _ _ b k=>exact λr=>.app (b r) (k r)
 |lam _ b=>exact λr=>.lam (b _)
 |pi _ _ b k=>exact λr=>.pi (b r) (k _)
 |beta _ _ b k=>intro r;rw[JW];exact .beta (b _) (k r)
 |eta _ b=>intro r;simp only[E.j5];rw[Od];exact .eta (b r)
 |iota h U c _ _ b k=>
  intro r;simp only[E.j5,Wo,zs,Mi,bf];refine .iota (by simpa using h) (by simpa using U) (by simpa using c) (λi=>?_) λi=>?_<;>simp only[getD_map _ (·.j5 r) rfl]
  .exact b i r
  .exact k i r
theorem nu.vG{G:oO}{s u:Nat->E}(h:∀n,nu G (s n) (u n)):∀n,nu G (vG s n) (vG u n)
 |0=>.z
 |n+1=>(h n).j5 _
theorem nu.Jv(t:E):∀{s u:Nat->E},(∀ n,nu G (s n) (u n))->nu G (t.sub s) (t.sub u):=by
 induction t with
 |var n=>exact λh=>h n
 |nD=>exact λh=>.z
 |pz c=>exact λh=>.z
 |app f a k U=>exact λh=>.app (k h) (U h)
 |lam b k=>exact λh=>.lam (k (nu.vG h))
 |pi a b k U=>exact λh=>.pi (k h) (U (nu.vG h))
theorem nu.sub{G:oO}{t u:E}(h:nu G t u):∀{s v:Nat->E},(∀ n,nu G (s n) (v n))->nu G (t.sub s) (u.sub v):=by
 induction h with
 | @z t=>exact λh=>nu.Jv t h
 |app _ _ b k=>exact λr=>.app (b r) (k r)
 |lam _ b=>exact λr=>.lam (b (nu.vG r))
 |pi _ _ b k=>exact λr=>.pi (b r) (k (nu.vG r))
 |beta _ _ b k=>intro s v r;rw[one_sub];exact .beta (b (nu.vG r)) (k r)
 |eta _ b=>intro s v r;simp only[E.sub];rw[CB];exact .eta (b r)
 |iota h U c _ _ b k=>
  intro s v r;simp only[E.sub,om,sub_sub,Vt,bf];refine .iota (by simpa using h) (by simpa using U) (by simpa using c) (λi=>?_) λi=>?_
  .rw [getD_map _ (·.sub s) rfl,getD_map _ (·.sub v) rfl];exact b i r
  .rw [getD_map _ (·.sub s) rfl,getD_map _ (·.sub v) rfl];exact k i r
theorem nu.one{G:oO}{a c:E}(h:nu G a c):∀n,nu G (one a n) (one c n)
 |0=>h
 |n+1=>.z
theorem zx(h:t.j5 r=app c a):∃g b,t=app g b/\c=g.j5 r/\a=b.j5 r:=by
 cases t<;>simp only[E.j5] at h<;>cases h;exact⟨_,_,rfl,rfl,rfl⟩
theorem Br(h:t.j5 r=lam e):∃c,t=lam c/\e=c.j5 (up r):=by
 cases t<;>simp only[E.j5] at h<;>cases h;exact⟨_,rfl,rfl⟩
theorem UA(h:t.j5 r=pi a e):∃c d,t=pi c d/\a=c.j5 r/\e=d.j5 (up r):=by
 cases t<;>simp only[E.j5] at h<;>cases h;exact⟨_,_,rfl,rfl,rfl⟩
theorem QN(h:t.j5 r=pz c):t=pz c:=by
 cases t<;>simp only[E.j5] at h<;>cases h;rfl
theorem pull:∀(g f:E) {r1 r2 d1 d2:Nat->Nat},(∀ a b,r1 a=r2 b->∃c,a=d1 c/\b=d2 c)->g.j5 r1=f.j5 r2->∃h:E,g=h.j5 d1/\f=h.j5 d2:=by
 have U:∀{r1 r2 d1 d2:Nat->Nat},(∀ a b,r1 a=r2 b->∃c,a=d1 c/\b=d2 c)->∀a b,up r1 a=up r2 b->∃c,a=up d1 c/\b=up d2 c:=by
  intro r1 r2 d1 d2 h a b e;cases a<;>cases b<;>simp only[up] at e
  .exact ⟨0,rfl,rfl⟩
  .cases e
  .cases e
  .obtain ⟨c,rfl,rfl⟩:=h _ _ (dc e);exact⟨c+1,rfl,rfl⟩
 intro g
 induction g with
 |var n=>
  intro f r1 r2 d1 d2 h e;cases f<;>simp only[E.j5] at e<;>first|(cases e;done)|skip
  obtain⟨c,rfl,rfl⟩:=h _ _ (E.var.inj e);exact⟨var c,rfl,rfl⟩
 |nD=>intro f r1 r2 d1 d2 h e;cases f<;>simp only[E.j5] at e<;>cases e;exact⟨nD,rfl,rfl⟩
 |pz c=>intro f r1 r2 d1 d2 h e;cases QN e.symm;exact⟨pz c,rfl,rfl⟩
 |app g a k j=>
  intro f r1 r2 d1 d2 h e;obtain⟨_,_,rfl,i,q⟩:=zx e.symm;obtain⟨x,rfl,rfl⟩:=k _ h i;obtain⟨y,rfl,rfl⟩:=j _ h q;exact⟨app x y,rfl,rfl⟩
 |lam b k=>
  intro f r1 r2 d1 d2 h e;obtain⟨_,rfl,i⟩:=Br e.symm;obtain⟨x,rfl,rfl⟩:=k _ (U h) i;exact⟨lam x,rfl,rfl⟩
 |pi a b k j=>
  intro f r1 r2 d1 d2 h e;obtain⟨_,_,rfl,i,q⟩:=UA e.symm;obtain⟨x,rfl,rfl⟩:=k _ h i;obtain⟨y,rfl,rfl⟩:=j _ (U h) q;exact⟨pi x y,rfl,rfl⟩
theorem D5:∀{t:E},t.j5 r=(pz c).apps p->∃b,t=(pz c).apps b/\p=b.map (·.j5 r):=by
 induction p using Bl with
 |h0=>intro t e;exact⟨[],QN e,rfl⟩
 |h1 p a k=>
  intro t e;rw[lk] at e;obtain⟨_,_,rfl,U,rfl⟩:=zx e;obtain⟨b,rfl,rfl⟩:=k U.symm;exact⟨b++[_],(lk _ _ _).symm,by simp⟩
theorem J4{P:E->E->Prop}{r:Nat->Nat}:∀{p p':List E},p'.length=p.length->(∀ i t,p.getD i nD=t.j5 r->∃u,p'.getD i nD=u.j5 r/\P t u)->∀{U:List E},p=U.map (·.j5 r)->∃c:List E,p'=c.map (·.j5 r)/\c.length=U.length/\∀i,i<U.length->P (U.getD i nD) (c.getD i nD)
 |[],[],_,_,[],_=>⟨[],rfl,rfl,λi h=>absurd h (cT _)⟩
 |a::p,b::p',k,h,[],e=>by cases e
 |[],_::_,k,_,_,_=>by cases k
 |_::_,[],k,_,_,_=>by cases k
 |[],[],_,_,_::_,e=>by cases e
 |a::p,b::p',k,h,t::U,e=>by
  obtain⟨j,q⟩:=List.cons.inj e;obtain⟨u,s,x⟩:=h 0 t j;obtain⟨c,y,z,C⟩:=J4 (p:=p) (p':=p') (dc k) (λi t F=>h (i+1) t F) q;refine⟨u::c,by rw[bG,<-y,<-s];rfl,by simp[z],λi G=>?_⟩;cases i with
  |zero=>exact x
  |succ i=>exact C i (Nat.lt_of_succ_lt_succ G)
theorem nu.YO(h:nu G t u):∀{r:Nat->Nat} {t0:E},t=t0.j5 r->∃J:E,u=J.j5 r/\nu G t0 J:=by
 induction h with
 |z=>exact λe=>⟨_,e,.z⟩
 |app _ _ k C=>
  intro r t0 e;obtain⟨_,_,rfl,U,j⟩:=zx e.symm;obtain⟨x,rfl,s⟩:=k U;obtain⟨y,rfl,F⟩:=C j;exact⟨.app x y,rfl,.app s F⟩
 |lam _ k=>
  intro r t0 e;obtain⟨_,rfl,U⟩:=Br e.symm;obtain⟨x,rfl,s⟩:=k U;exact⟨.lam x,rfl,.lam s⟩
 |pi _ _ k C=>
  intro r t0 e;obtain⟨_,_,rfl,U,j⟩:=UA e.symm;obtain⟨x,rfl,s⟩:=k U;obtain⟨y,rfl,F⟩:=C j;exact⟨.pi x y,rfl,.pi s F⟩
 |beta _ _ k C=>
  intro r t0 e;obtain⟨_,_,rfl,U,j⟩:=zx e.symm;obtain⟨_,rfl,H⟩:=Br U.symm;obtain⟨x,rfl,s⟩:=k H;obtain⟨y,rfl,F⟩:=C j;exact⟨_,(JW _ _ _).symm,.beta s F⟩
 | @eta f f' _ k=>
  intro r t0 e;obtain⟨_,rfl,V⟩:=Br e.symm;obtain⟨g,x,rfl,U,j⟩:=zx V.symm;cases x<;>simp only[E.j5] at j<;>first|(cases j;done)|skip
  rename_i n;cases n with
  |succ n=>exact absurd (E.var.inj j) (Nat.succ_ne_zero _).symm
  |zero=>
   obtain⟨g0,rfl,W⟩:=pull g f (r1:=up r) (r2:=Nat.succ) (d1:=Nat.succ) (d2:=r) (by
    intro a b e;cases a with
    |zero=>cases e
    |succ a=>exact⟨a,rfl,(dc e).symm⟩) U.symm
   obtain⟨x,rfl,s⟩:=k W;exact⟨x,rfl,.eta s⟩
 | @iota rn c x p p' q q' h U j _ _ k C=>
  intro r t0 e;obtain⟨_,_,rfl,H,Y⟩:=zx e.symm;obtain⟨p0,rfl,M⟩:=D5 H.symm;obtain⟨q0,rfl,R⟩:=D5 Y.symm;obtain⟨p1,rfl,f1,g1⟩:=J4 (P:=nu G) U (λi t I=>k i I) M;obtain⟨q1,rfl,f2,g2⟩:=J4 (P:=nu G) j (λi t I=>C i I) R;subst M R;have S:∀{l m:List E},m.length=l.length->(∀ i,i<l.length->nu G (l.getD i nD) (m.getD i nD))->∀i,nu G (l.getD i nD) (m.getD i nD):=by
   intro l m e h i;by_cases hi:i<l.length
   .exact h i hi
   .rw [ba,cW O,ba,cW O];exact .z
  exact⟨_,by rw[<- bf,<-Mi,<-zs],.iota (by simpa using h) f1 f2 (S f1 g1) (S f2 g2)⟩
def E.sz:E->Nat
 |var _=>1|nD=>1|pz _=>1
 | .app f a=>f.sz+a.sz+1
 | .lam b=>b.sz+1
 | .pi a b=>a.sz+b.sz+1
theorem NW(t:E):∀r,(t.j5 r).sz=t.sz:=by
 induction t<;>intro r<;>simp_all [E.j5,E.sz]
def Zg(G:oO)(e a u:E):Prop:= ∃r c x p b q k,e=(pz r).apps p/\a=(pz c).apps q/\G r c=some (p.length,q.length,x)/\b.length=p.length/\k.length=q.length/\(∀ i,nu G (p.getD i nD) (b.getD i nD))/\(∀ i,nu G (q.getD i nD) (k.getD i nD))/\u=x.sub (inst (b++k))
theorem nu.rz(h:nu G (.app s a) u):(∃ i k,u=.app i k/\nu G s i/\nu G a k)\/(∃ b j k,s=.lam b/\u=j.sub (Mt.one k)/\nu G b j/\nu G a k)\/Zg G s a u:=by
 generalize e:E.app s a=t at h;cases h with
 |z=>exact .inl ⟨s,a,e.symm,.z,.z⟩
 |app U c=>obtain⟨rfl,rfl⟩:=E.app.inj e;exact .inl ⟨_,_,rfl,U,c⟩
 |lam=>cases e
 |pi=>cases e
 |beta U c=>obtain⟨rfl,rfl⟩:=E.app.inj e;exact .inr (.inl ⟨_,_,_,rfl,rfl,U,c⟩)
 |eta=>cases e
 |iota g q r U c=>obtain⟨rfl,rfl⟩:=E.app.inj e;exact .inr (.inr ⟨_,_,_,_,_,_,_,rfl,rfl,g,q,r,U,c,rfl⟩)
theorem nu.zI(h:nu G (.lam c) u):(∃ U,u=.lam U/\nu G c U)\/∃f,c=.app f.sh (var 0)/\nu G f u:=by
 generalize e:E.lam c=t at h;cases h with
 |z=>exact .inl ⟨c,e.symm,.z⟩
 |lam k=>cases e;exact .inl ⟨_,rfl,k⟩
 |app=>cases e
 |pi=>cases e
 |beta=>cases e
 |eta k=>cases e;exact .inr ⟨_,rfl,k⟩
 |iota=>cases e
theorem nu.tx(h:nu G (.pi a c) u):∃k U,u=.pi k U/\nu G a k/\nu G c U:=by
 generalize e:E.pi a c=t at h;cases h<;>cases e
 .exact ⟨_,_,rfl,.z,.z⟩
 .exact ⟨_,_,rfl,by assumption,by assumption⟩
theorem nu.Bi(h:nu G .nD u):u=.nD:=by
 generalize e:E.nD=t at h;cases h<;>cases e;rfl
theorem nu.Et(h:nu G (.var n) u):u=.var n:=by
 generalize e:E.var n=t at h;cases h<;>cases e;rfl
def D8(G:oO)(c:fB)(n:Nat):Prop:= ∀d k m x,G c d=some (k,m,x)->n<=k
theorem pR(l a i):(l++[a]).getD i nD=if i<l.length then l.getD i nD else if i=l.length then a else nD:=by
 simp only[ba,cH];by_cases h:i<l.length
 .simp [h]
 .by_cases b:i=l.length
  .simp [b]
  .rw [if_neg h,if_neg h,if_neg b,cW (by simp;omega)];rfl
theorem nu.Af:∀{u:E},nu G ((pz c).apps q) u->D8 G c q.length->∃U,u=(pz c).apps U/\U.length=q.length/\∀i,nu G (q.getD i .nD) (U.getD i .nD):=by
 induction q using Bl with
 |h0=>
  intro u h _;generalize e:(pz c).apps []=t at h;cases h<;>cases e;exact⟨[],rfl,rfl,λi=>.z⟩
 |h1 q a y=>
  intro u h j;rw[lk] at h;rcases h.rz with⟨H,z,rfl,h1,C⟩|⟨b,_,_,e,_⟩|⟨r,d,x,p,_,m,_,e,_,g,_⟩
  .obtain ⟨U,rfl,s,F⟩:=y h1 λd k m x g=>by have:=j d k m x g;simp at this;omega
   refine⟨U++[z],(lk _ _ _).symm,by simp[s],λi=>?_⟩;rw[pR,pR,s];split
   .exact F i
   .split
    .exact C
    .exact .z
  .exfalso
   induction q using Bl with
   |h0=>cases e
   |h1 q b _=>rw[lk] at e;cases e
  .obtain ⟨rfl,rfl⟩:=zh e;have:=j _ _ _ _ g;simp at this;omega
theorem pk.Af{r c x}(h:pk G)(g:G r c=some (n,m,x)):D8 G r n:=λd k U e b=>by
 rw[h.ahead b g];exact ae _
theorem pk.Z4{r c x}(h:pk G)(g:G r c=some x)(n):D8 G c n:=λd k U e b=>by
 rw[h.ctor g d] at b;cases b
theorem vN(c:fB)(q:List E):∀i,(q.getD i nD).sz<=((pz c).apps q).sz:=by
 induction q using Bl with
 |h0=>intro i;simp[apps,E.sz]
 |h1 q a ih=>
  intro i;rw[lk,pR,E.sz];have:=ih i;split
  .omega
  .split
   .omega
   .simp only[E.sz];omega
theorem choose{P:E->E->Prop}:∀{p q:List E},(∀ i,∃w,P (p.getD i nD) w/\P (q.getD i nD) w)->P nD nD->p.length=q.length->∃l:List E,l.length=p.length/\∀i,P (p.getD i nD) (l.getD i nD)/\P (q.getD i nD) (l.getD i nD)
 |[],[],h,k,_=>⟨[],rfl,λi=>⟨k,k⟩⟩
 |a::p,b::q,h,k,e=>by
  obtain⟨w,hw⟩:=h 0;obtain⟨l,U,c⟩:=choose (p:=p) (q:=q) (λi=>h (i+1)) k (dc e);exact⟨w::l,by simp[U],λi=>by cases i with|zero=>exact hw|succ i=>exact c i⟩
 |[],_::_,_,_,e=>by cases e
 |_::_,[],_,_,e=>by cases e
theorem C6{p q c h:List E}(e:c.length=p.length)(j:∀i,nu G (p.getD i .nD) (c.getD i .nD))(r:∀i,nu G (q.getD i .nD) (h.getD i .nD)):∀i,nu G ((p++q).getD i .nD) ((c++h).getD i .nD):=by
 intro i;simp only[ba,cH,e] at j r ⊢;split
 .exact j i
 .exact r _
theorem Yj(hG:pk G):∀(n:Nat) {t u v:E},t.sz<=n->nu G t u->nu G t v->∃w,nu G u w/\nu G v w:=by
 intro n
 induction n with
 |zero=>intro t u v h;cases t<;>simp[E.sz] at h
 |succ n j=>
  have I:∀{f a V S v:E},(E.app f a).sz<=n+1->nu G f V->nu G a S->Zg G f a v->∃w,nu G (.app V S) w/\nu G v w:=by
   intro f a V S v F h1 U ⟨r,c,x,p,p',q,q',J,y,g,l1,l2,k1,k2,W⟩;subst J y W;simp only[E.sz] at F;obtain⟨p2,rfl,m1,j1⟩:=h1.Af (hG.Af g);obtain⟨q2,rfl,m2,j2⟩:=U.Af (hG.Z4 g _);obtain⟨p3,n1,z1⟩:=choose (P:=nu G) (p:=p2) (q:=p') (λi=>j (by have:=vN r p i;omega) (j1 i) (k1 i)) .z O;obtain⟨q3,n2,z2⟩:=choose (P:=nu G) (p:=q2) (q:=q') (λi=>j (by have:=vN c q i;omega) (j2 i) (k2 i)) .z O;refine⟨_,.iota (x:=x) (by rw[m1,m2];exact g) n1 n2 (λi=>(z1 i).1) λi=>(z2 i).1,nu.Jv x (C6 O (λi=>(z1 i).2) λi=>(z2 i).2)⟩
  have B:∀{f a V S b Y a2:E},(E.app f a).sz<=n+1->nu G f V->nu G a S->f=.lam b->nu G b Y->nu G a a2->∃w,nu G (.app V S) w/\nu G (Y.sub (Mt.one a2)) w:=by
   intro f a V S b Y a2 F h1 U e h3 H;subst e;simp only[E.sz] at F;obtain⟨a3,z,s⟩:=j O U H;rcases h1.zI with⟨b1,rfl,h5⟩|⟨g,rfl,h5⟩
   .obtain ⟨b3,M,R⟩:=j O h5 h3;exact⟨_,.beta M z,R.sub (nu.one s)⟩
   .obtain ⟨w,M,R⟩:=j (by simp only[E.sz,NW] at F ⊢;omega) (.app (h5.j5 Nat.succ) .z) h3;have y3:=M.sub (nu.one z);simp only[E.sub] at y3;rw[CC] at y3;exact⟨_,y3,R.sub (nu.one s)⟩
  have L:∀{b Y f v:E},(E.lam b).sz<=n+1->nu G b Y->b=.app f.sh (var 0)->nu G f v->∃w,nu G (.lam Y) w/\nu G v w:=by
   intro b Y f v F h1 e U;subst e;simp only[E.sz,NW] at F;rcases h1.rz with⟨V,S,rfl,h3,H⟩|⟨c,c',S,e,rfl,h3,H⟩|⟨r,c,x,p,p',q,q',J,y,g,l1,l2,k1,k2,W⟩
   .obtain ⟨f2,rfl,h5⟩:=h3.YO rfl;cases H.Et;obtain⟨w,M,R⟩:=j O h5 U;exact⟨w,.eta M,R⟩
   .obtain ⟨c0,rfl,rfl⟩:=Br e;cases H.Et;obtain⟨c2,rfl,h5⟩:=h3.YO rfl;have e4:(c2.j5 (up Nat.succ)).sub (Mt.one (var 0))=c2:=by
     rw[vS];refine Eq.trans ?_ (tU c2)
     congr 1;funext k;cases k<;>rfl
    rw[e4];exact j O (.lam h5) U
   .exfalso
    induction q using Bl with
    |h0=>cases y
    |h1 q b _=>rw[lk] at y;cases y
  intro t u v F hu hv
  match t with
  | .nD=>cases hu.Bi;cases hv.Bi;exact⟨_,.z,.z⟩
  | .var k=>cases hu.Et;cases hv.Et;exact⟨_,.z,.z⟩
  | .pz c=>
   obtain⟨q,rfl,e,_⟩:=nu.Af (q:=[]) hu λ_ _ _ _ _=>ak _
   obtain⟨q2,rfl,y,_⟩:=nu.Af (q:=[]) hv λ_ _ _ _ _=>ak _
   cases bE.1 e;cases bE.1 y;exact⟨_,.z,.z⟩
  | .pi a b=>
   obtain⟨a1,b1,rfl,h1,U⟩:=hu.tx;obtain⟨a2,b2,rfl,h3,H⟩:=hv.tx;simp only[E.sz] at F;obtain⟨a3,z,s⟩:=j O h1 h3;obtain⟨b3,M,R⟩:=j O U H;exact⟨_,.pi z M,.pi s R⟩
  | .lam b=>
   have C:=F;simp only[E.sz] at F;rcases hu.zI with⟨b1,rfl,h1⟩|⟨f,e,h1⟩<;>rcases hv.zI with⟨b2,rfl,U⟩|⟨g,y,U⟩
   .obtain ⟨b3,z,s⟩:=j O h1 U;exact⟨_,.lam z,.lam s⟩
   .exact L C h1 y U
   .obtain ⟨w,z,s⟩:=L C U e h1;exact⟨w,s,z⟩
   .subst e;have W:f=g:=by
     obtain⟨W,_⟩:=E.app.inj y;have:=congrArg (λt:E=>t.sub (Mt.one .nD)) W
     simpa only[CC] using this
    subst W;simp only[E.sz,NW] at F;exact j O h1 U
  | .app f a=>
   have C:=F;simp only[E.sz] at F;rcases hu.rz with⟨f1,a1,rfl,h1,U⟩|⟨b,b1,a1,e,rfl,h1,U⟩|h1<;>rcases hv.rz with⟨f2,a2,rfl,h3,H⟩|⟨c,c1,a2,y,rfl,h3,H⟩|h3
   .obtain ⟨f3,z,s⟩:=j O h1 h3;obtain⟨a3,M,R⟩:=j O U H;exact⟨_,.app z M,.app s R⟩
   .exact B C h1 U y h3 H
   .exact I C h1 U h3
   .obtain ⟨w,z,s⟩:=B C h3 H e h1 U;exact⟨w,s,z⟩
   .subst e;cases y;simp only[E.sz] at F;obtain⟨b3,z,s⟩:=j O h1 h3;obtain⟨a3,M,R⟩:=j O U H;exact⟨_,z.sub (nu.one M),s.sub (nu.one R)⟩
   .exfalso
    subst e;obtain⟨r,c,x,p,p',q,q',J,_⟩:=h3
    induction p using Bl with
    |h0=>cases J
    |h1 q b _=>rw[lk] at J;cases J
   .obtain ⟨w,z,s⟩:=I C h3 H h1;exact⟨w,s,z⟩
   .exfalso
    subst y;obtain⟨r,c,x,p,p',q,q',J,_⟩:=h1
    induction p using Bl with
    |h0=>cases J
    |h1 q b _=>rw[lk] at J;cases J
   .obtain ⟨r,c,x,p,p',q,q',J,y,g,l1,l2,k1,k2,W⟩:=h1;obtain⟨r2,c2,s,p2,p2',q2,q2',f1,f2,g2,m1,m2,j1,j2,f3⟩:=h3;subst J y W f3;obtain⟨rfl,rfl⟩:=zh f1;obtain⟨rfl,rfl⟩:=zh f2;rw[g] at g2;cases g2;obtain⟨p3,n1,z1⟩:=choose (P:=nu G) (p:=p') (q:=p2') (λi=>j (by have:=vN r p i;omega) (k1 i) (j1 i)) .z O;obtain⟨q3,n2,z2⟩:=choose (P:=nu G) (p:=q') (q:=q2') (λi=>j (by have:=vN c q i;omega) (k2 i) (j2 i)) .z O;exact⟨_,nu.Jv x (C6 O (λi=>(z1 i).1) λi=>(z2 i).1),nu.Jv x (C6 O (λi=>(z1 i).2) λi=>(z2 i).2)⟩
inductive A8 (G:oO):E->E->Prop
 |z {t:_}:A8 G t t
 |s {t u v:_}:nu G t u->A8 G u v->A8 G t v
theorem A8.one(h:nu G t u):A8 G t u:=.s h .z
theorem A8.trans(h:A8 G t u):A8 G u v->A8 G t v:=by
 induction h with
 |z=>exact id
 |s h _ b=>exact λk=>.s h (b k)
theorem strip(c:pk G)(h:A8 G t u):∀{v:E},nu G t v->∃w,nu G u w/\A8 G v w:=by
 induction h with
 |z=>exact λk=>⟨_,k,.z⟩
 |s h _ b=>
  intro v k;obtain⟨w,x,y⟩:=Yj c _ (ae _) h k;obtain⟨U,e,i⟩:=b x;exact⟨U,e,.s y i⟩
theorem A8.meet(c:pk G)(h:A8 G t u):∀{v:E},A8 G t v->∃w,A8 G u w/\A8 G v w:=by
 induction h with
 |z=>exact λk=>⟨_,k,.z⟩
 |s h _ b=>
  intro v k;obtain⟨w,x,y⟩:=strip c k h;obtain⟨U,e,i⟩:=b y;exact⟨U,e,.s x i⟩
theorem A8.map{f:E->E}(c:∀{t u},nu G t u->nu G (f t) (f u))(h:A8 G t u):A8 G (f t) (f u):=by
 induction h with
 |z=>exact .z
 |s h _ b=>exact .s (c h) b
def Cv(G:oO)(a e:E):Prop:= ∃c,A8 G a c/\A8 G e c
theorem Cv.rfl:Cv G a a:=⟨a,.z,.z⟩
theorem Cv.symm:Cv G a e->Cv G e a:=λ⟨c,h,k⟩=>⟨c,k,h⟩
theorem Cv.trans{G:oO}(e:pk G){a b c:E}:Cv G a b->Cv G b c->Cv G a c:=λ⟨x,h,k⟩ ⟨y,U,k2⟩=>
 let ⟨w,p,q⟩:=k.meet e U
 ⟨w,h.trans p,k2.trans q⟩
theorem nu.cv(h:nu G a c):Cv G a c:=⟨c,.one h,.z⟩
theorem Cv.map{G:oO}{f:E->E}(e:∀{t u},nu G t u->nu G (f t) (f u)){a b:E}:Cv G a b->Cv G (f a) (f b):=λ⟨c,h,k⟩=>⟨f c,h.map e,k.map e⟩
theorem Cv.app{G:oO}(e:pk G){a b c i:E}(h:Cv G a b)(j:Cv G c i):Cv G (.app a c) (.app b i):=
 (h.map λp=>.app p .z).trans e (j.map λp=>.app .z p)
theorem Cv.pi{G:oO}(e:pk G){a i c j:E}(h:Cv G a i)(q:Cv G c j):Cv G (.pi a c) (.pi i j):=
 (h.map λp=>.pi p .z).trans e (q.map λp=>.pi .z p)
theorem Cv.lam{G:oO}{a c:E}(h:Cv G a c):Cv G (.lam a) (.lam c):=h.map .lam
theorem Cv.sub{G:oO}{a b:E}(h:Cv G a b)(s:Nat->E):Cv G (a.sub s) (b.sub s):=h.map λp=>p.sub λ_=>.z
theorem Cv.j5{G:oO}{a c:E}(h:Cv G a c)(s:Nat->Nat):Cv G (a.j5 s) (c.j5 s):=h.map λp=>p.j5 s
theorem Cv.Jv(i:pk G)(t:E):∀{s u:Nat->E},(∀ n,Cv G (s n) (u n))->Cv G (t.sub s) (t.sub u):=by
 have U:∀{s u:Nat->E},(∀ n,Cv G (s n) (u n))->∀n,Cv G (vG s n) (vG u n):=λh n=>by
  cases n
  .exact .rfl
  .exact (h _).j5 _
 induction t with
 |var n=>exact λh=>h n
 |nD=>exact λh=>.rfl
 |pz c=>exact λh=>.rfl
 |app f a k e=>exact λh=>(k h).app i (e h)
 |lam b k=>exact λh=>(k (U h)).lam
 |pi a b k e=>exact λh=>(k h).pi i (e (U h))
theorem Cv.afe(c:pk G)(h:Cv G a e)(i:∀n,Cv G (s n) (u n)):Cv G (a.sub s) (e.sub u):=(h.sub s).trans c (Cv.Jv c e i)
theorem Cv.one{G:oO}{a b:E}(h:Cv G a b):∀n,Cv G (Mt.one a n) (Mt.one b n)
 |0=>h
 |n+1=>.rfl
theorem Cv.apps{G:oO}(c:pk G):∀{l m:List E} {f g:E},Cv G f g->l.length=m.length->(∀ i,Cv G (l.getD i nD) (m.getD i nD))->Cv G (f.apps l) (g.apps m)
 |[],[],_,_,h,_,_=>h
 |a::l,b::m,_,_,h,e,k=>Cv.apps c (l:=l) (m:=m) (h.app c (k 0)) (dc e) λi=>k (i+1)
 |[],_::_,_,_,_,e,_=>by cases e
 |_::_,[],_,_,_,e,_=>by cases e
theorem A8.tx{G:oO}{t u:E}(h:A8 G t u):∀{a b:E},t=.pi a b->∃c d,u=.pi c d/\A8 G a c/\A8 G b d:=by
 induction h with
 |z=>exact λe=>⟨_,_,e,.z,.z⟩
 |s h _ k=>
  intro a b e;subst e;obtain⟨a1,b1,rfl,U,i⟩:=h.tx;obtain⟨c,d,e,j,q⟩:=k rfl;exact⟨c,d,e,.s U j,.s i q⟩
theorem A8.Bi{G:oO}{t u:E}(h:A8 G t u)(e:t=.nD):u=.nD:=by
 induction h with
 |z=>exact e
 |s h _ b=>subst e;exact b h.Bi
theorem A8.Af{G:oO}{t u:E}(h:A8 G t u):∀{c:fB} {q:List E},t=(pz c).apps q->D8 G c q.length->∃b,u=(pz c).apps b/\b.length=q.length/\∀i,A8 G (q.getD i .nD) (b.getD i .nD):=by
 induction h with
 |z=>exact λe _=>⟨_,e,Eq.refl _,λ_=>.z⟩
 |s h _ j=>
  intro c q e k;subst e;obtain⟨F,rfl,U,r⟩:=h.Af k;obtain⟨x,rfl,y,C⟩:=j (Eq.refl _) (U▸k);exact⟨x,Eq.refl _,y.trans U,λi=>.s (r i) (C i)⟩
theorem Cv.UN:Cv G (.pi a j) (.pi c q)->Cv G a c/\Cv G j q:=λ⟨x,h,k⟩=>by
 obtain⟨_,_,rfl,U,i⟩:=h.tx (Eq.refl _);obtain⟨_,_,e,k1,k2⟩:=k.tx (Eq.refl _);cases e;exact⟨⟨_,U,k1⟩,⟨_,i,k2⟩⟩
theorem Cv.ZQ:¬Cv G (.pi a c) .nD:=λ⟨x,h,k⟩=>by
 obtain⟨_,_,rfl,_⟩:=h.tx (Eq.refl _);cases k.Bi (Eq.refl _)
theorem Cv.Yq(j:D8 G c p.length)(r:D8 G C q.length):Cv G ((pz c).apps p) ((pz C).apps q)->c=C/\p.length=q.length/\∀i,Cv G (p.getD i .nD) (q.getD i .nD):=λ⟨x,h,k⟩=>by
 obtain⟨U,rfl,s,b⟩:=h.Af (Eq.refl _) j;obtain⟨y,e,z,k1⟩:=k.Af (Eq.refl _) r;obtain⟨rfl,rfl⟩:=zh e;exact⟨Eq.refl _,O,λi=>⟨_,b i,k1 i⟩⟩
abbrev Ctx:=Nat->Option E
def ext(A:E)(C:Ctx):Ctx|0=>some A.sh|n+1=>(C n).map E.sh
inductive Ty (G:oO) (K:fB->Option E):Ctx->E->E->Prop
 |var {C n A:_}:C n=some A->Ty G K C (.var n) A
 |nD {C:_}:Ty G K C .nD .nD
 |pz {C c T:_}:K c=some T->(∀ s,T.sub s=T)->Ty G K C (.pz c) T
 |app {C f a A B:_}:Ty G K C f (.pi A B)->Ty G K C a A->Ty G K C (.app f a) (B.sub (one a))
 |lam {C b A B:_}:Ty G K (ext A C) b B->Ty G K C (.lam b) (.pi A B)
 |pi {C A B:_}:Ty G K C A .nD->Ty G K (ext A C) B .nD->Ty G K C (.pi A B) .nD
 |conv {C t A B:_}:Ty G K C t A->Cv G A B->Ty G K C t B
theorem Ty.j5{G:oO}{K:fB->Option E}{C:Ctx}{t T:E}(h:Ty G K C t T):∀{D:Ctx} {r:Nat->Nat},(∀ n A,C n=some A->D (r n)=some (A.j5 r))->Ty G K D (t.j5 r) (T.j5 r):=by
 have U:∀{C D:Ctx} {r:Nat->Nat} (A:E),(∀ n A,C n=some A->D (r n)=some (A.j5 r))->∀n B,ext A C n=some B->ext (A.j5 r) D (up r n)=some (B.j5 (up r)):=by
  intro C D r A h n B e;cases n with
  |zero=>cases e;exact congrArg some (Od _ _).symm
  |succ n=>
   simp only[ext,up,bO] at e ⊢;obtain⟨X,e,rfl⟩:=e;exact⟨_,h _ _ e,(Od _ _).symm⟩
 induction h with
 |var e=>exact λh=>.var (h _ _ e)
 |nD=>exact λ_=>.nD
 |pz e k=>intro D r h;simp only[CJ,k];exact .pz e k
 |app _ _ b c=>intro D r h;rw[JW];exact .app (b h) (c h)
 |lam _ b=>exact λh=>.lam (b (U _ h))
 |pi _ _ b c=>exact λh=>.pi (b h) (c (U _ h))
 |conv _ k b=>exact λh=>.conv (b h) (k.j5 _)
theorem Ty.sh{G:oO}{K:fB->Option E}{C:Ctx}{t T A:E}(h:Ty G K C t T):Ty G K (ext A C) t.sh T.sh:=h.j5 λn A e=>by simp only[ext,e];rfl
theorem Ty.sub{G:oO}{K:fB->Option E}{C:Ctx}{t T:E}(h:Ty G K C t T):∀{D:Ctx} {s:Nat->E},(∀ n A,C n=some A->Ty G K D (s n) (A.sub s))->Ty G K D (t.sub s) (T.sub s):=by
 have U:∀{C D:Ctx} {s:Nat->E} (A:E),(∀ n A,C n=some A->Ty G K D (s n) (A.sub s))->∀n B,ext A C n=some B->Ty G K (ext (A.sub s) D) (vG s n) (B.sub (vG s)):=by
  intro C D r A h n B e;cases n with
  |zero=>cases e;rw[CB];exact .var (Eq.refl _)
  |succ n=>
   simp only[ext,bO] at e;obtain⟨X,e,rfl⟩:=e;rw[CB];exact(h _ _ e).sh
 induction h with
 |var e=>exact λh=>h _ _ e
 |nD=>exact λ_=>.nD
 |pz e k=>intro D r h;rw[k];exact .pz e k
 |app _ _ b c=>intro D r h;rw[one_sub];exact .app (b h) (c h)
 |lam _ b=>exact λh=>.lam (b (U _ h))
 |pi _ _ b c=>exact λh=>.pi (b h) (c (U _ h))
 |conv _ k b=>exact λh=>.conv (b h) (k.sub _)
theorem Ty.one{G:oO}{K:fB->Option E}{C:Ctx}{t T a A:E}(h:Ty G K (ext A C) t T)(c:Ty G K C a A):Ty G K C (t.sub (Mt.one a)) (T.sub (Mt.one a)):=h.sub λn B e=>by
 cases n with
 |zero=>cases e;rw[CC];exact c
 |succ n=>
  simp only[ext,bO] at e;obtain⟨X,e,rfl⟩:=e;rw[CC];exact .var e
theorem Ty.zI(c:pk G)(h:Ty G K C (.lam i) T):∃A B,Ty G K (ext A C) i B/\Cv G (.pi A B) T:=by
 generalize e:E.lam i=t at h
 induction h with
 |lam h=>cases e;exact⟨_,_,h,.rfl⟩
 |conv _ k U=>obtain⟨A,B,h,k2⟩:=U e;exact⟨A,B,h,k2.trans c k⟩
 |_=>cases e
theorem Ty.rz(c:pk G)(h:Ty G K C (.app i a) T):∃A B,Ty G K C i (.pi A B)/\Ty G K C a A/\Cv G (B.sub (Mt.one a)) T:=by
 generalize e:E.app i a=t at h
 induction h with
 |app h k=>cases e;exact⟨_,_,h,k,.rfl⟩
 |conv _ k b=>obtain⟨A,B,h,U,k2⟩:=b e;exact⟨A,B,h,U,k2.trans c k⟩
 |_=>cases e
theorem Ty.tx(c:pk G)(h:Ty G K C (.pi A B) T):Ty G K C A .nD/\Ty G K (ext A C) B .nD/\Cv G .nD T:=by
 generalize e:E.pi A B=t at h
 induction h with
 |pi h k=>cases e;exact⟨h,k,.rfl⟩
 |conv _ k b=>obtain⟨h,U,k2⟩:=b e;exact⟨h,U,k2.trans c k⟩
 |_=>cases e
theorem Ty.Kx(i:pk G)(h:Ty G K C (.pz c) T):∃A,K c=some A/\(∀ s,A.sub s=A)/\Cv G A T:=by
 generalize e:E.pz c=t at h
 induction h with
 |pz h b=>cases e;exact⟨_,h,b,.rfl⟩
 |conv _ k U=>obtain⟨A,h,s,k2⟩:=U e;exact⟨A,h,s,k2.trans i k⟩
 |_=>cases e
theorem Ty.ZR(c:pk G):¬Ty G K C (.app (.pi A B) a) T:=λh=>by
 obtain⟨_,_,h,_⟩:=h.rz c;exact Cv.ZQ (h.tx c).2.2.symm
theorem Ty.beta(c:pk G)(h:Ty G K C (.app (.lam x) a) T):Ty G K C (x.sub (Mt.one a)) T:=by
 obtain⟨A,B,U,e,k⟩:=h.rz c;obtain⟨A1,s,i,j⟩:=U.zI c;obtain⟨q,r⟩:=j.UN;exact((i.one (.conv e q.symm)).conv (r.sub _)).conv k
def qx(l:List E)(t:E):E:=l.foldr .pi t
def BM:Nat->E->E|0,t=>t|n+1,t=>.lam (BM n t)
def yn:List E->Ctx->Ctx|[],C=>C|A::l,C=>yn l (ext A C)
def yc:Nat->(Nat->E)->Nat->E|0,s=>s|n+1,s=>vG (yc n s)
def Bn:(Nat->E)->List E->List E|_,[]=>[]|s,A::l=>A.sub s::Bn (vG s) l
def ls(l:List E):Nat->E:=λv=>if v<l.length then l.getD (l.length-1-v) nD else nD
def vl(L q:Nat):E:=.var (L-1-q)
theorem qS:∀(l:List E) (s:Nat->E),(Bn s l).length=l.length
 |[],_=>rfl
 |_::l,s=>congrArg Nat.succ (qS l _)
theorem Ba(n)(s:Nat->E):yc n (vG s)=vG (yc n s):=by
 induction n with
 |zero=>rfl
 |succ n b=>rw[yc,b];rfl
theorem Ew:∀(l:List E) (t:E) (s:Nat->E),(qx l t).sub s=qx (Bn s l) (t.sub (yc l.length s))
 |[],_,_=>rfl
 |A::l,t,s=>by
  show E.pi _ _=E.pi _ _;rw[<- qx,Ew l,Ba];rfl
theorem Xp(l m t):qx (l++m) t=qx l (qx m t):=List.foldr_append
theorem BK(l a):ls (l++[a])=λv=>match v with|0=>a|v+1=>ls l v:=by
 funext v;cases v with
 |zero=>simp[ls]
 |succ v=>
  show ls _ _=ls l v;simp only[ls,aN,aj,aH];by_cases h:v<l.length
  .rw [if_pos O,if_pos h,pR,if_pos O];congr 1;omega
  .rw [if_neg O,if_neg h]
theorem U8(t:E)(l:List E)(a:E):(t.sub (vG (ls l))).sub (one a)=t.sub (ls (l++[a])):=by
 rw[sub_sub,BK];congr 1;funext v;cases v
 .rfl
 .exact CC _ _
theorem OP(l)(s:Nat->E):(λv=>(ls l v).sub s)=ls (l.map (·.sub s)):=by
 funext v;simp only[ls,bc];split
 .exact (getD_map _ (·.sub s) rfl _).symm
 .rfl
theorem U7(l)(r:Nat->Nat):(λv=>(ls l v).j5 r)=ls (l.map (·.j5 r)):=by
 funext v;simp only[ls,bc];split
 .exact (getD_map _ (·.j5 r) rfl _).symm
 .rfl
theorem NY(t:E)(l:List E)(s:Nat->E):(t.sub (ls l)).sub s=t.sub (ls (l.map (·.sub s))):=by rw[sub_sub,OP]
theorem Zp(l):vG (ls l)=ls (l.map E.sh++[.var 0]):=by
 rw[BK,<-U7];funext v;cases v<;>rfl
theorem ac3(h:q<L):(vl L q).sh=vl (L+1) q:=by
 show E.var _=E.var _;congr 1;show L-1-q+1=_;omega
def q9(n:Nat)(t:E):E:=t.j5 (· +n)
theorem FZ(n t):(q9 n t).sh=q9 (n+1) t:=by unfold q9 E.sh;rw[xJ];rfl
theorem vp(t):q9 0 t=t:=by unfold q9;rw[CJ];exact tU t
theorem TX(n l):yc n (ls l)=ls (l.map (q9 n)++(List.range n).map (vl n)):=by
 induction n with
 |zero=>rw[List.range_zero,de,bR,show q9 0=id from funext vp,List.map_id];rfl
 |succ n b=>
  rw[yc,b,Zp,bf,bN,bN,eK,bf,bq]
  congr 2
  .exact bZ λt _=>FZ n t
  .congr 1
   .exact bZ λq k=>ac3 (b5.1 k)
   .show [E.var 0]=[E.var (n+1-1-n)];rw[show n+1-1-n=0 by omega]
theorem J6(n t)(s:Nat->E):(q9 n t).sub (yc n s)=q9 n (t.sub s):=by
 induction n with
 |zero=>rw[vp,vp];rfl
 |succ n b=>rw[<- FZ,yc,CB,b,FZ]
def Vs(G:oO)(K:fB->Option E)(c:Ctx)(l T:List E):Prop:=l.length=T.length/\∀(j:Nat) a A,l[j]? =some a->T[j]? =some A->Ty G K c a (A.sub (ls (l.take j)))
theorem Vs.app{G:oO}{K:fB->Option E}{r:Ctx}{l T:List E}(h:Vs G K r l T):∀{m U:List E},m.length=U.length->(∀ (j:Nat) a A,m[j]? =some a->U[j]? =some A->Ty G K r a (A.sub (ls (l++m.take j))))->Vs G K r (l++m) (T++U):=by
 intro m U e k;refine⟨by simp[h.1,e],λj b B c i=>?_⟩;by_cases q:j<l.length
 .rw [bl q] at c;rw[bl (by have:=h.1;omega)] at i;rw[cZ O];exact h.2 j b B c i
 .rw [bA O] at c;rw[bA (by have:=h.1;omega)] at i;rw[di,aS O];exact k _ b B c (by rw[h.1];exact i)
theorem Vs.take{G:oO}{K:fB->Option E}{c:Ctx}{l T:List E}(h:Vs G K c l T)(n):Vs G K c (l.take n) (T.take n):=by
 refine⟨by simp[h.1],λj a A ha b=>?_⟩;rw[cB] at ha b;split at ha
 .rw [if_pos (by assumption)] at b;rw[cO,b8 O];exact h.2 j a A ha b
 .cases ha
theorem De(l A):∀C,yn (l++[A]) C=ext A (yn l C):=by
 induction l with
 |nil=>exact λC=>rfl
 |cons B l b=>exact λC=>b _
def nul:Ctx:=λ_=>none
theorem Vs.ctx:∀{l:List E},Vs G K c l T->∀n A,yn T nul n=some A->Ty G K c (ls l n) (A.sub (ls l)):=by
 induction T using Bl with
 |h0=>intro l h n A e;cases e
 |h1 T B k=>
  intro l h n A e
  induction l using Bl with
  |h0=>have:=h.1;simp at this
  |h1 l a=>
   have b:l.length=T.length:=by have:=h.1;simpa using this
   rw[De] at e;rw[BK];cases n with
   |zero=>
    cases e;have:=h.2 l.length a B (by simp) (by simp[b]);rw[cE] at this;show Ty G K c a (E.sub (E.sh B) _);unfold E.sh;rw[vS];exact this
   |succ n=>
    simp only[ext,bO] at e;obtain⟨X,e,rfl⟩:=e;have:=k (l:=l) (by
     have:=h.take l.length
     rwa [cE,b,cE] at this) n X e
    show Ty G K c (ls l n) (E.sub (E.sh X) _);unfold E.sh;rw[vS];exact this
theorem KB{G:oO}{K:fB->Option E}{C:Ctx}:∀{T az l:List E} {h U:E},Ty G K C h ((qx T U).sub (ls l))->az.length=T.length->(∀ (j:Nat) a A,az[j]? =some a->T[j]? =some A->Ty G K C a (A.sub (ls (l++az.take j))))->Ty G K C (h.apps az) (U.sub (ls (l++az)))
 |[],[],l,h,U,k,_,_=>by rw[bR];exact k
 |A::T,a::az,l,h,U,k,e,g=>by
  have c:=Ty.app k (by have:=g 0 a A rfl rfl;rwa [cj,bR] at this);rw[U8] at c;have:=KB (T:=T) (az:=az) (l:=l++[a]) c (dc e) λj b B i q=>by
   have:=g (j+1) b B i q
   rwa [du,List.append_cons] at this
  rwa [bq] at this
 |[],_::_,_,_,_,_,e,_=>by cases e
 |_::_,[],_,_,_,_,e,_=>by cases e
theorem Ty.Ca{G:oO}{K:fB->Option E}{C:Ctx}(i:pk G):∀{T az l:List E} {h U X:E},Ty G K C (h.apps az) X->(∀ F,Ty G K C h F->Cv G ((qx T U).sub (ls l)) F)->az.length=T.length->(∀ (j:Nat) a A,az[j]? =some a->T[j]? =some A->Ty G K C a (A.sub (ls (l++az.take j))))/\Cv G (U.sub (ls (l++az))) X
 |[],[],l,h,U,X,k,g,_=>⟨λj a A h=>by simp at h,by rw[bR];exact g _ k⟩
 |A::T,a::az,l,h,U,X,k,g,e=>by
  have q:∀F,Ty G K C (.app h a) F->Ty G K C a (A.sub (ls l))/\Cv G ((qx T U).sub (ls (l++[a]))) F:=λF c=>by
   obtain⟨A1,M,h1,z,H⟩:=c.rz i;obtain⟨k1,k2⟩:=(g _ h1).UN;refine⟨.conv z k1.symm,?_⟩;rw[<- U8];exact(k2.sub _).trans i H
  have ha:Ty G K C a (A.sub (ls l)):=by
   have:∀{az:List E} {h X:E},Ty G K C (h.apps az) X->∃F,Ty G K C h F:=by
    intro az
    induction az using Bl with
    |h0=>exact λh=>⟨_,h⟩
    |h1 az b I=>
     intro h X r;rw[lk] at r;obtain⟨_,_,h1,_⟩:=r.rz i;exact I h1
   obtain⟨F,c⟩:=this (az:=az) (h:=.app h a) k;exact(q F c).1
  obtain⟨J,s⟩:=Ty.Ca i (T:=T) (az:=az) (l:=l++[a]) k (λF c=>(q F c).2) (dc e);rw[bq] at s;refine⟨λj b B x y=>?_,s⟩;cases j with
  |zero=>cases x;cases y;rw[cj,bR];exact ha
  |succ j=>
   have:=J j b B x y
   rwa [bq] at this
 |[],_::_,_,_,_,_,_,_,e=>by cases e
 |_::_,[],_,_,_,_,_,_,e=>by cases e
theorem Q3{G:oO}{K:fB->Option E}:∀{T:List E} {C:Ctx} {b B:E},Ty G K (yn T C) b B->Ty G K C (BM T.length b) (qx T B)
 |[],_,_,_,h=>h
 |A::T,C,b,B,h=>.lam (Q3 (T:=T) h)
theorem Ty.q9{G:oO}{K:fB->Option E}{T:List E}:∀{C:Ctx} {t A:E},Ty G K C t A->Ty G K (yn T C) (Mt.q9 T.length t) (Mt.q9 T.length A):=by
 induction T with
 |nil=>intro C t A h;rw[aH,vp,vp];exact h
 |cons B T b=>
  intro C t A h;have:=b (h.sh (A:=B));unfold Mt.q9 E.sh at this;rw[xJ,xJ] at this;have e:(λn:Nat=>n.succ+T.length)=(· +(B::T).length):=by funext n;simp only[aj];omega
  rw[e] at this;exact this
end Go.Mt
