/-
  What is proved here: lemmas of part 4, for the theorem of the last part.
-/
import Derived.Test.YtndbnldjidciiaaGreatDoorP3
set_option linter.unusedSimpArgs false
set_option linter.unusedVariables false
set_option linter.unusedSectionVars false
namespace Go.Mt
variable{A B C F G H I J K L L0 M P R S T V W X Y a at' az c e first fs g gl h hi i j l m n p pl q r s t u v x y z}
open E
abbrev vars(L:Nat)(pl:List Nat):List E:=pl.map (vl L)
abbrev pick(l:List E)(pl:List Nat):List E:=pl.map λq=>l.getD q nD
theorem Hz(h:q<l.length):(vl l.length q).sub (ls l)=l.getD q nD:=by
 show ls l _=_;unfold ls;rw[if_pos O];congr 1;omega
theorem vK(h:∀q∈c,q<l.length):(vars l.length c).map (·.sub (ls l))=pick l c:=by
 rw[bN];exact bZ λq b=>Hz (h q b)
theorem Zq(s:Nat->E)(h:v<n):yc n s v=.var v:=by
 induction n generalizing v with
 |zero=>omega
 |succ n b=>
  cases v with
  |zero=>rfl
  |succ v=>show(yc n s v).sh=_;rw[b O];rfl
theorem OT(h:q<L):q9 n (vl L q)=vl (L+n) q:=by
 show E.var _=E.var _;congr 1;show L-1-q+n=_;omega
theorem NJ(h:q<l.length):(vl (l.length+n) q).sub (yc n (ls l))=q9 n (l.getD q nD):=by
 rw[<- OT h,J6,Hz h]
theorem TR(n)(s:Nat->E):((List.range n).map (vl n)).map (·.sub (yc n s))=(List.range n).map (vl n):=by
 rw[bN];exact bZ λq b=>Zq s (by have:=b5.1 b;omega)
theorem Qu(n)(s u:Nat->E):(λv=>(yc n s v).sub (yc n u))=yc n λv=>(s v).sub u:=by
 induction n with
 |zero=>rfl
 |succ n b=>exact(Jp _ _).trans (congrArg vG b)
theorem QJ:∀(T:List E) (s u:Nat->E),Bn u (Bn s T)=Bn (λv=>(s v).sub u) T
 |[],_,_=>rfl
 |A::T,s,u=>by
  show _::_=_::_;rw[sub_sub,QJ T,Jp]
theorem JC:∀{T:List E} {s:Nat->E} {j:Nat} {A:E},T[j]? =some A->(Bn s T)[j]? =some (A.sub (yc j s))
 |B::T,s,0,A,h=>by cases h;rfl
 |B::T,s,j+1,A,h=>by
  have:=JC (T:=T) (s:=vG s) (j:=j) (by simpa using h);rw[Ba] at this;exact this
theorem YK(h:∀q∈pl,q<l.length)(A:E):(A.sub (yc m.length (ls (vars l.length pl)))).sub (ls (l++m))=A.sub (ls (pick l pl++m)):=by
 rw[TX,NY,bf,bN,bN,bN]
 congr 3
 .refine bZ λq k=>?_
  have:=h q k;show(q9 m.length (vl l.length q)).sub _=_;rw[OT this,<-aN,Hz (by simp;omega)];simp only[ba,cH,if_pos this]
 .refine dY (by simp) λi b U=>?_
  simp only[dZ,eb,Function.comp];simp only[bc,fj] at b;show ls (l++m) _=_;unfold ls;rw[if_pos (by simp;omega),ba,bA (by simp;omega)];rw[show(l++m).length-1-(m.length-1-i)-l.length=i by simp;omega,aZ b];rfl
theorem Z1(n:Nat)(A:E)(l:List E):q9 n (A.sub (ls l))=A.sub (ls (l.map (q9 n))):=by
 unfold q9;rw[zs,U7]
theorem Ty.vG{G:oO}{K:fB->Option E}{C c:Ctx}{s:Nat->E}(A)(h:∀n A,C n=some A->Ty G K c (s n) (A.sub s)):∀n B,ext A C n=some B->Ty G K (ext (A.sub s) c) (Mt.vG s n) (B.sub (Mt.vG s)):=by
 intro n B e;cases n with
 |zero=>cases e;rw[CB];exact .var rfl
 |succ n=>
  simp only[ext,bO] at e;obtain⟨X,e,rfl⟩:=e;rw[CB];exact(h _ _ e).sh
theorem Ty.yc{G:oO}{K:fB->Option E}:∀{T:List E} {C D:Ctx} {s:Nat->E},(∀ n A,C n=some A->Ty G K D (s n) (A.sub s))->∀n B,yn T C n=some B->Ty G K (yn (Bn s T) D) (Mt.yc T.length s n) (B.sub (Mt.yc T.length s))
 |[],_,_,_,h=>h
 |A::T,C,D,s,h=>by
  have:=Ty.yc (T:=T) (Ty.vG A h);rw[Ba] at this;exact this
theorem Ty.xs{G:oO}{K:fB->Option E}:∀{T:List E} {C:Ctx} {t U:E},Ty G K C t (qx T U)->Ty G K (yn T C) ((Mt.q9 T.length t).apps ((List.range T.length).map (vl T.length))) U
 |[],C,t,U,h=>by rw[aH,vp];exact h
 |A::T,C,t,U,h=>by
  have b:=Ty.app (h.sh (A:=A)) (.var rfl:Ty G K (ext A C) (.var 0) A.sh);have e:((qx T U).j5 (up Nat.succ)).sub (Mt.one (.var 0))=qx T U:=by
   rw[vS];refine Eq.trans ?_ (tU _);congr 1;funext k;cases k<;>rfl
  have b:Ty G K (ext A C) (.app t.sh (.var 0)) (qx T U):=by rw[<- e];exact b
  have c:=Ty.xs (T:=T) b;rw[aj,List.range_succ_eq_map,bG,bN];have i:Mt.q9 T.length (.app t.sh (.var 0))=.app (Mt.q9 (T.length+1) t) (vl (T.length+1) 0):=by
   show E.app _ _=E.app _ _
   congr 1
   .unfold Mt.q9 E.sh;rw[xJ];congr 1;funext k;show k+1+_=_;omega
   .show E.var _=E.var _;congr 1;show 0+_=_;omega
  rw[i] at c;refine(congrArg (λl=>Ty G K (yn T (ext A C)) ((E.app (Mt.q9 (T.length+1) t) (vl (T.length+1) 0)).apps l) U) ?_).mp c;exact bZ λq j=>by show E.var _=E.var _;congr 1;have:=b5.1 j;omega
inductive Nr where
 |QW (A:E)
 |rc (Xs js:List E)
def Nr.ty(I:fB)(p d:Nat):Nr->E
 | .QW A=>A
 | .rc Xs b=>qx Xs ((pz I).apps (vars (d+Xs.length) (List.range p)++b))
def KR(I:fB)(p:Nat):Nat->List Nr->List E
 |_,[]=>[]
 |d,f::r=>f.ty I p d::KR I p (d+1) r
def Vy(p L:Nat)(e:List Nat)(c:Nat)(Xs h:List E):E:=
 qx (Bn (ls (vars L e)) Xs) ((vl (L+Xs.length) p).apps (h.map (·.sub (yc Xs.length (ls (vars L e))))++[(vl (L+Xs.length) c).apps ((List.range Xs.length).map (vl Xs.length))]))
abbrev EE(p L0 j:Nat):List Nat:=List.range p++(List.range j).map (L0+ ·)
def Mn(p L0:Nat):Nat->Nat->List Nr->List E
 |_,_,[]=>[]
 |j,L,.QW _::r=>Mn p L0 (j+1) L r
 |j,L,.rc b k::r=>Vy p L (EE p L0 j) (L0+j) b k::Mn p L0 (j+1) (L+1) r
structure Ns where
 c:fB
 P:List E
 F:List Nr
 idx:List E
def Ns.ty(I:fB)(p:Nat)(c:Ns):E:=qx (c.P++KR I p p c.F) ((pz I).apps (vars (p+c.F.length) (List.range p)++c.idx))
def He(I:fB)(p e:Nat)(c:Ns):List E:=Bn (ls (vars e (List.range p))) (KR I p p c.F)++Mn p e 0 (e+c.F.length) c.F
def SB(I:fB)(p e:Nat)(c:Ns):E:=
 qx (He I p e c) ((vl (e+(He I p e c).length) p).apps (c.idx.map (·.sub (ls (vars (e+(He I p e c).length) (EE p e c.F.length))))++[(pz c.c).apps (vars (e+(He I p e c).length) (EE p e c.F.length))]))
def SA(I:fB)(p:Nat):Nat->List Ns->List E
 |_,[]=>[]
 |L,c::r=>SB I p L c::SA I p (L+1) r
structure wi where
 I:fB
 R:fB
 P:List E
 X:List E
 ct:List Ns
def wi.ty(f:wi):E:=qx (f.P++f.X) nD
def wi.mot(c:wi):E:=qx (c.X++[(pz c.I).apps (vars (c.P.length+c.X.length) (List.range (c.P.length+c.X.length)))]) nD
abbrev wi.n1(f:wi):Nat:=f.P.length+1+f.ct.length
def wi.front(c:wi):List E:=c.P++c.mot::SA c.I c.P.length (c.P.length+1) c.ct
def wi.bs(c:wi):List E:=c.front++(Bn (ls (vars c.n1 (List.range c.P.length))) c.X++[(pz c.I).apps (vars (c.n1+c.X.length) (EE c.P.length c.n1 c.X.length))])
def wi.U(c:wi):E:=.app ((vl (c.n1+c.X.length+1) c.P.length).apps (vars (c.n1+c.X.length+1) ((List.range c.X.length).map (c.n1+ ·)))) (.var 0)
def wi.YT(c:wi):E:=qx c.bs c.U
def TK(R:fB)(first e:List E)(c:E)(Xs h:List E):E:=
 BM Xs.length (.app (((pz R).apps (first.map (q9 Xs.length))).apps (h.map (·.sub (yc Xs.length (ls e))))) ((q9 Xs.length c).apps ((List.range Xs.length).map (vl Xs.length))))
def xf(R:fB)(first:List E):List E->List Nr->List E->List E
 |b,.QW _::r,c::cs=>xf R first (b++[c]) r cs
 |b,.rc k U::r,c::cs=>TK R first b c k U::xf R first (b++[c]) r cs
 |_,_,_=>[]
def wi.made(j:wi)(i:Nat)(c:Ns)(e h:List E):E:=
 (e.getD (j.P.length+1+i) nD).apps (h.drop j.P.length++xf j.R (e.take j.n1) (e.take j.P.length) c.F (h.drop j.P.length))
structure RV (G:oO) (K:fB->Option E) (f:wi):Prop where
 kI:K f.I=some f.ty
 cI:∀s,f.ty.sub s=f.ty
 kR:K f.R=some f.YT
 cR:∀s,f.YT.sub s=f.YT
 kc:∀c∈f.ct,K c.c=some (c.ty f.I f.P.length)/\(∀ s,(c.ty f.I f.P.length).sub s=c.ty f.I f.P.length)/\c.P.length=f.P.length/\c.idx.length=f.X.length/\(∀ n,D8 G c.c n)/\
  (∀ (j:Nat) A B,f.P[j]? =some A->c.P[j]? =some B->Cv G A B)/\
  ∀(j:Nat) Xs js,c.F[j]? =some (.rc Xs js)->js.length=f.X.length/\∀(h:Nat) a A,js[h]? =some a->f.X[h]? =some A->Ty G K (yn Xs (yn (c.P++(KR f.I f.P.length f.P.length c.F).take j) nul)) a (A.sub (ls (vars (f.P.length+j+Xs.length) (List.range f.P.length)++js.take h)))
 nI:∀n,D8 G f.I n
theorem uE(I p):∀(F:List Nr) (d:Nat),(KR I p d F).length=F.length
 |[],_=>rfl
 |_::r,d=>congrArg Nat.succ (uE I p r _)
theorem Qx{I:fB}{p:Nat}:∀{F:List Nr} {d j:Nat} {f:Nr},F[j]? =some f->(KR I p d F)[j]? =some (f.ty I p (d+j))
 |g::r,d,0,f,h=>by cases h;rfl
 |g::r,d,j+1,f,h=>by
  have:=Qx (I:=I) (p:=p) (F:=r) (d:=d+1) (j:=j) (by simpa using h);rw[show d+1+j=d+(j+1) by omega] at this;exact this
theorem LV(I p):∀(l:List Ns) (L:Nat),(SA I p L l).length=l.length
 |[],_=>rfl
 |_::r,d=>congrArg Nat.succ (LV I p r _)
theorem LW{I:fB}{p:Nat}:∀{l:List Ns} {L i:Nat} {c:Ns},l[i]? =some c->(SA I p L l)[i]? =some (SB I p (L+i) c)
 |g::r,d,0,f,h=>by cases h;rfl
 |g::r,d,j+1,f,h=>by
  have:=LW (I:=I) (p:=p) (l:=r) (L:=d+1) (i:=j) (by simpa using h);rw[show d+1+j=d+(j+1) by omega] at this;exact this
theorem vg(l p)(h:p<=l.length):pick l (List.range p)=l.take p:=by
 refine dY (by simp;omega) λi b k=>?_
 simp only[bc,fj] at b;simp only[dZ,eb,eP,ba,aZ (show i<l.length by omega),cY]
theorem CN(l a n)(h:a+n<=l.length):pick l ((List.range n).map (a+ ·))=(l.drop a).take n:=by
 refine dY (by simp;omega) λi b k=>?_
 simp only[bc,fj] at b;simp only[dZ,eb,eP,List.getElem_drop,ba,aZ (show a+i<l.length by omega),cY]
theorem JO(c:p<=n)(e:L0+j<=n):∀q∈EE p L0 j,q<n:=by
 intro q hq;rcases bn.1 hq with hq|hq
 .have:=b5.1 hq;omega
 .obtain ⟨i,b,rfl⟩:=bD.1 hq;have:=b5.1 b;omega
theorem Bv(c:p<=l.length)(e:L0+j<=l.length):pick l (EE p L0 j)=l.take p++(l.drop L0).take j:=by
 show List.map _ (_++_)=_;rw[bf];exact congr (congrArg _ (vg l p c)) (CN l L0 j e)
theorem Z5(h:p<l.length)(c:L0+j<=l.length)(i:at'<l.length)(Xs e):
 (Vy p l.length (EE p L0 j) at' Xs e).sub (ls l)=qx (Bn (ls (l.take p++(l.drop L0).take j)) Xs) ((q9 Xs.length (l.getD p nD)).apps (e.map (·.sub (yc Xs.length (ls (l.take p++(l.drop L0).take j))))++[(q9 Xs.length (l.getD at' nD)).apps ((List.range Xs.length).map (vl Xs.length))])):=by
 have b:=JO (show p<=l.length by omega) c;have U:=Bv (show p<=l.length by omega) c;have k:(λv=>(ls (vars l.length (EE p L0 j)) v).sub (ls l))=ls (l.take p++(l.drop L0).take j):=by rw[OP,vK b,U]
 unfold Vy;rw[Ew,QJ,k,qS,om,NJ h,bf,bN]
 congr 3
 .exact bZ λa _=>by show(E.sub _ _).sub _=_;rw[sub_sub,Qu,k]
 .rw [cD,om,NJ i,TR]
theorem XP{mo:E}(hg:g.length=p)(hp:p<L0):
 ∀(F:List Nr) (j:Nat) (l:List E),l.length≥L0+fs.length->l.take p=g->(l.drop L0).take fs.length=fs->l.getD p nD=mo->fs.length=j+F.length->
 (∀ (k:Nat) Xs b c,F[k]? =some (.rc Xs b)->fs[j+k]? =some c->Ty G K C (TK R first (g++fs.take (j+k)) c Xs b) (qx (Bn (ls (g++fs.take (j+k))) Xs) ((q9 Xs.length mo).apps (b.map (·.sub (yc Xs.length (ls (g++fs.take (j+k)))))++[(q9 Xs.length c).apps ((List.range Xs.length).map (vl Xs.length))]))))->
 (xf R first (g++fs.take j) F (fs.drop j)).length=(Mn p L0 j l.length F).length/\∀(h:Nat) a A,(xf R first (g++fs.take j) F (fs.drop j))[h]? =some a->(Mn p L0 j l.length F)[h]? =some A->Ty G K C a (A.sub (ls (l++(xf R first (g++fs.take j) F (fs.drop j)).take h))):=by
 intro F
 induction F with
 |nil=>intro j l _ _ _ _ _ _;cases hd:fs.drop j<;>exact⟨rfl,λh a A e=>by simp[xf] at e⟩
 |cons f F I=>
  intro j l Y y r z J M;have U:j<fs.length:=by simp at J;omega
  have hd:fs.drop j=fs[j]::fs.drop (j+1):=by rw[dL U]
  have S:fs.take (j+1)=fs.take j++[fs[j]]:=by rw[bo,aZ U];rfl
  have i:fs.length=j+1+F.length:=by simp at J;omega
  have q:∀(k:Nat) Xs b c,F[k]? =some (.rc Xs b)->fs[j+1+k]? =some c->_:=λk Xs b c s x=>by
   have:=M (k+1) Xs b c (by simpa using s) (by rw[show j+(k+1)=j+1+k by omega];exact x);rw[show j+(k+1)=j+1+k by omega] at this;exact this
  rw[hd];cases f with
  |QW A=>
   have:=I (j+1) l Y y r z i q;rw[S,<-bq] at this;exact this
  |rc Xs b=>
   have hv:=M 0 Xs b fs[j] rfl (aZ U);have e3:(l.drop L0).take j=fs.take j:=by rw[<- r,cO,b8 O]
   have H:=Z5 (p:=p) (L0:=L0) (j:=j) (at':=L0+j) (l:=l) O O O Xs b;rw[y,e3,z] at H;have e4:l.getD (L0+j) nD=fs[j]:=by
    rw[ba];have:=congrArg (λm:List E=>m[j]?) r;simp only[cB,if_pos U,bX,aZ U] at this;rw[this];rfl
   rw[e4] at H;obtain⟨V,W⟩:=I (j+1) (l++[TK R first (g++fs.take j) fs[j] Xs b]) (by simp;omega) (by rw[cZ O];exact y) (by rw[fk O,cZ (by simp;omega)];exact r) (by rw[pR,if_pos O];exact z) i q;rw[S,<-bq,aN] at V W;refine⟨congrArg Nat.succ V,λh a A s x=>?_⟩;cases h with
   |zero=>
    cases s;cases x;rw[cj,bR,H];exact hv
   |succ h=>
    have:=W h a A s x;rw[bq] at this;exact this
theorem YZ(e:l.length=m.length)(h:∀i,Cv G (l.getD i nD) (m.getD i nD)):∀v,Cv G (ls l v) (ls m v):=by
 intro v;unfold ls;rw[e];split
 .exact h _
 .exact .rfl
theorem BR{l:List E}{i:Nat}(h:l[i]? =some a):l.getD i nD=a:=by rw[ba,h];rfl
set_option maxHeartbeats 1000000 in
theorem XO(hG:pk G){f:wi}(hf:RV G K f){i:Nat}(hc:f.ct[i]? =some c){s cs:List E}(hl:s.length=f.n1+f.X.length)(hm:cs.length=f.P.length+c.F.length)
 (h:Ty G K C (.app ((pz f.R).apps s) ((pz c.c).apps cs)) T):Ty G K C (f.made i c s cs) T:=by
 obtain⟨kc,cc,cP,cI,nc,cv,cr⟩:=hf.kc c (aO hc);have hi:=(aJ.1 hc).1;have hn1:f.n1=f.P.length+1+f.ct.length:=rfl;rw[<- lk] at h;have hfl:f.front.length=f.n1:=by simp[wi.front,LV];omega
 have hbl:f.bs.length=f.n1+f.X.length+1:=by simp only[wi.bs,aN,hfl,qS];rfl
 have tR:Ty G K C (pz f.R) f.YT:=.pz hf.kR hf.cR;obtain⟨H1,H2⟩:=Ty.Ca hG (T:=f.bs) (U:=f.U) (l:=[]) h (λF hF=>by
  obtain⟨A,e,_,k⟩:=hF.Kx hG;rw[hf.kR] at e;cases e;have:=hf.cR (ls []);rw[wi.YT] at this;rw[this];exact k) (by simp[hl,hbl])
 simp only[cf] at H1 H2;generalize hM:(pz c.c).apps cs=J at*
 have gA:∀{r:Nat} {a:E},s[r]? =some a->(s++[J])[r]? =some a:=λ{r a} e=>by
  rw[bl (aJ.1 e).1];exact e
 have tA:∀{r:Nat},r<s.length->(s++[J]).take r=s.take r:=λ{r} h=>cZ O
 have h1:∀{r:Nat} {a A:E},s[r]? =some a->f.bs[r]? =some A->Ty G K C a (A.sub (ls (s.take r))):=λ{r a A} H I=>by
  have:=H1 r a A (gA H) I
  rwa [tA (aJ.1 H).1] at this
 have bM:f.bs[f.n1+f.X.length]? =some ((pz f.I).apps (vars (f.n1+f.X.length) (EE f.P.length f.n1 f.X.length))):=by
  rw[wi.bs,bA O,bA (by rw[qS,hfl];omega),hfl,qS];simp
 have hpl:∀q∈EE f.P.length f.n1 f.X.length,q<s.length:=by rw[hl];exact JO O O
 have tM:Ty G K C J ((pz f.I).apps (s.take f.P.length++s.drop f.n1)):=by
  have:=H1 (f.n1+f.X.length) J _ (by rw[<- hl,bA (ae _)];simp) bM;rw[<- hl,cE,om,vK hpl,Bv O O,aS (l:=s.drop f.n1) (by simp;omega)] at this;exact this
 have hM2:=tM;rw[<- hM] at hM2;obtain⟨H3,H4⟩:=Ty.Ca hG (T:=c.P++KR f.I f.P.length f.P.length c.F) (U:=(pz f.I).apps (vars (f.P.length+c.F.length) (List.range f.P.length)++c.idx)) (l:=[]) hM2 (λF hF=>by
  obtain⟨A,e,_,k⟩:=hF.Kx hG;rw[kc] at e;cases e;have:=cc (ls []);rw[Ns.ty] at this;rw[this];exact k) (by simp[hm,cP,uE])
 simp only[cf] at H3 H4;rw[om,bf,<-hm,vK (by intro q hq;have:=b5.1 hq;omega),vg _ _ O] at H4;have hal:(s.take f.P.length).length=f.P.length:=by simp;omega
 obtain⟨-,H5,H6⟩:=Cv.Yq (hf.nI _) (hf.nI _) H4;generalize hg:s.take f.P.length=g at*
 generalize hfs:cs.drop f.P.length=fs at*
 have M:fs.length=c.F.length:=by rw[<- hfs];simp;omega
 have cP2:∀i,Cv G (cs.getD i nD) ((g++fs).getD i nD):=λi=>by
  have:=H6 i;simp only[ba,cH] at this ⊢;by_cases hi:i<f.P.length
  .rw [if_pos (by simp;omega),if_pos O,cB,if_pos hi] at this;rw[if_pos O];exact this
  .rw [if_neg O,<-hfs,bX,hal,show f.P.length+(i-f.P.length)=i by omega];exact .rfl
 have cJ:∀j v,Cv G (ls (cs.take (f.P.length+j)) v) (ls (g++fs.take j) v):=λj=>by
  have e:g++fs.take j=(g++fs).take (f.P.length+j):=by rw[di,aS (l:=g) O,hal];congr 2;omega
  rw[e];refine YZ (by simp;omega) λi=>?_
  have:=cP2 i;simp only[ba,cB] at this ⊢;split
  .exact this
  .exact .rfl
 have tF:∀{j:Nat} {a A:E},fs[j]? =some a->(KR f.I f.P.length f.P.length c.F)[j]? =some A->Ty G K C a (A.sub (ls (g++fs.take j))):=λ{j a A} H I=>by
  rw[<- hfs,bX] at H;have:=H3 (f.P.length+j) a A H (by rw[bA O,cP,show f.P.length+j-f.P.length=j by omega];exact I);exact .conv this (Cv.Jv hG A (cJ j))
 have bP:∀{j:Nat} {A:E},f.P[j]? =some A->f.bs[j]? =some A:=λ{j A} e=>by
  have:=(aJ.1 e).1;rw[wi.bs,bl O,wi.front,bl this];exact e
 have vP:Vs G K C g c.P:=⟨O,λj a A H I=>by
  have hj:=(aJ.1 I).1;have e3:f.P[j]? =some (f.P[j]'O):=aZ O;rw[<- hg,cB,if_pos O] at H;have:=h1 H (bP e3);rw[<- hg,cO,b8 O];exact .conv this ((cv j _ A e3 I).sub _)⟩
 have vF:∀j,j<=fs.length->Vs G K C (g++fs.take j) (c.P++(KR f.I f.P.length f.P.length c.F).take j):=λj hj=>by
  refine vP.app (by simp[uE];omega) λk a A H I=>?_
  rw[cB] at H I;split at H
  .rw [if_pos (by assumption)] at I;rw[cO,b8 O];exact tF H I
  .cases H
 have hmo:s[f.P.length]? =some (s[f.P.length]'O):=aZ O;generalize hmo2:s[f.P.length]'O=mo at hmo;have tH:∀(j:Nat) Xs js a,c.F[j]? =some (.rc Xs js)->fs[j]? =some a->Ty G K C (TK f.R (s.take f.n1) (g++fs.take j) a Xs js) (qx (Bn (ls (g++fs.take j)) Xs) ((q9 Xs.length mo).apps (js.map (·.sub (yc Xs.length (ls (g++fs.take j))))++[(q9 Xs.length a).apps ((List.range Xs.length).map (vl Xs.length))]))):=by
  intro j Xs js a H I;obtain⟨jl,hjs⟩:=cr j Xs js H;have hj:=(aJ.1 I).1;have vJ:=vF j O;have ta:=tF I (Qx H);generalize hgi:g++fs.take j=S at*
  have gl:S.length=f.P.length+j:=by rw[<- hgi];simp;omega
  have gp:∀r,r<f.P.length->S.getD r nD=g.getD r nD:=λr V=>by
   rw[<- hgi];simp only[ba,cH,if_pos (show r<g.length by omega)]
  generalize hn:Xs.length=n at*
  have hsl:(Bn (ls S) Xs).length=n:=by rw[qS,hn]
  have hmv:(vars (f.P.length+j+n) (List.range f.P.length)).map (·.sub (yc n (ls S)))=g.map (q9 n):=by
   rw[bN];have:g=pick g (List.range f.P.length):=by rw[vg _ _ O,aS O]
   rw[this,bN];refine bZ λr V=>?_
   have V:=b5.1 V;show(vl _ _).sub _=q9 n _;rw[<- gl,NJ O,gp r V]
  rw[Nr.ty,Ew,om,bf,hn,hmv] at ta;generalize hjn:js.map (·.sub (yc n (ls S)))=y at*
  have jl':y.length=f.X.length:=by rw[<- hjn];simp[jl]
  have tX:=Ty.xs ta;rw[hsl] at tX;have L:=Q3 (G:=G) (K:=K) (T:=Bn (ls S) Xs) (C:=C) (b:=.app (((pz f.R).apps ((s.take f.n1).map (q9 n))).apps y) ((q9 n a).apps ((List.range n).map (vl n)))) (B:=(q9 n mo).apps (y++[(q9 n a).apps ((List.range n).map (vl n))]));rw[hsl] at L;unfold TK;rw[hn,hjn];refine L ?_;have z:((s.take f.n1).map (q9 n)).length=f.n1:=by simp;omega
  rw[<- zi,<-lk];have hU:f.U.sub (ls (((s.take f.n1).map (q9 n)++y)++[(q9 n a).apps ((List.range n).map (vl n))]))=(q9 n mo).apps (y++[(q9 n a).apps ((List.range n).map (vl n))]):=by
   have hL:f.n1+f.X.length+1=(((s.take f.n1).map (q9 n)++y)++[(q9 n a).apps ((List.range n).map (vl n))]).length:=by simp;omega
   rw[wi.U,hL,E.sub,om,Hz O,vK (by intro q hq;obtain⟨r,V,rfl⟩:=bD.1 hq;have:=b5.1 V;omega),CN _ _ _ O,lk];have H:(((s.take f.n1).map (q9 n)++y)++[(q9 n a).apps ((List.range n).map (vl n))]).getD f.P.length nD=q9 n mo:=by
    refine BR ?_;rw[bq,bl O,bt,cB,if_pos O,hmo];rfl
   have I:((((s.take f.n1).map (q9 n)++y)++[(q9 n a).apps ((List.range n).map (vl n))]).drop f.n1).take f.X.length=y:=by
    rw[bq,eQ,dM O,z,bL,dk,cf,di,aS O,jl',bL,cj,bR]
   rw[H,I]
   congr 1
   show ls _ 0=_;rw[BK]
  rw[<- hU];have tR':Ty G K (yn (Bn (ls S) Xs) C) (pz f.R) ((qx f.bs f.U).sub (ls [])):=by
   have:=hf.cR (ls []);rw[wi.YT] at this;rw[this];exact .pz hf.kR hf.cR
  have:=KB tR' (az:=((s.take f.n1).map (q9 n)++y)++[(q9 n a).apps ((List.range n).map (vl n))]) (by simp[hbl];omega) ?_
  .exact this
  intro r b B hb hB;rw[cf];by_cases V:r<f.n1
  .rw [bq,bl O,bt,cB,if_pos V] at hb;obtain⟨b0,hb0,rfl⟩:=bO.1 hb;have:=(h1 hb0 hB).q9 (T:=Bn (ls S) Xs);rw[hsl,Z1] at this;rw[bq,cZ O,<-cu,cO,b8 O];exact this
  .by_cases hr2:r<f.n1+f.X.length
   .rw [bq,bA O,z,bl O] at hb;rw[wi.bs,bA O,hfl,bl (by rw[qS];omega)] at hB;obtain⟨q,rfl⟩:∃q,r=f.n1+q:=⟨r-f.n1,O⟩;rw[show f.n1+q-f.n1=q by omega] at hb hB;have hX:f.X[q]? =some (f.X[q]'O):=aZ O;rw[JC hX] at hB;cases hB;have hq2:(y.take q).length=q:=by simp;omega
    have e5:(((s.take f.n1).map (q9 n)++y)++[(q9 n a).apps ((List.range n).map (vl n))]).take (f.n1+q)=(s.take f.n1).map (q9 n)++y.take q:=by
     rw[bq,di,aS O,z,show f.n1+q-f.n1=q by omega,cZ O]
    have e6:=YK (l:=(s.take f.n1).map (q9 n)) (m:=y.take q) (pl:=List.range f.P.length) (by intro k hk;have:=b5.1 hk;omega) (f.X[q]'O);rw[hq2,z,vg _ _ O,<-cu,cO,b8 O,hg] at e6;rw[e5,e6];rw[<- hjn,bt] at hb;obtain⟨b0,hb0,rfl⟩:=bO.1 hb;have:=(hjs q b0 _ hb0 hX).sub (Ty.yc vJ.ctx);rw[hn,NY,bf,hmv,cu,hjn] at this;exact this
   .have hrr:=(aJ.1 hb).1;simp only[aN,eE,z,jl'] at hrr;obtain rfl:r=f.n1+f.X.length:=O;have W:((s.take f.n1).map (q9 n)++y).length=f.n1+f.X.length:=by simp;omega
    rw[<- W,bA (ae _),bL] at hb;cases hb;rw[bM] at hB;cases hB;rw[<- W,cE,om,vK (by rw[W];exact JO O O),Bv O O];have H:((s.take f.n1).map (q9 n)++y).take f.P.length=g.map (q9 n):=by
     rw[cZ O,<-cu,cO,b8 O,hg]
    have I:(((s.take f.n1).map (q9 n)++y).drop f.n1).take f.X.length=y:=by
     rw[eQ,dM O,z,bL,dk,cf,aS O]
    rw[H,I];exact tX
 have bm:f.bs[f.P.length+1+i]? =some (SB f.I f.P.length (f.P.length+1+i) c):=by
  rw[wi.bs,bl O,wi.front,bA O,show f.P.length+1+i-f.P.length=i+1 by omega];exact LW hc
 have hmn:s[f.P.length+1+i]? =some (s[f.P.length+1+i]'O):=aZ O;have tm:=h1 hmn bm;unfold wi.made;rw[BR hmn,hg,hfs];generalize s[f.P.length+1+i]'O=mn at tm hmn;have Y:(s.take (f.P.length+1+i)).length=f.P.length+1+i:=by simp;omega
 have hlg:(s.take (f.P.length+1+i)).take f.P.length=g:=by rw[cO,b8 O,hg]
 have hlo:(s.take (f.P.length+1+i)).getD f.P.length nD=mo:=by refine BR ?_;rw[cB,if_pos O];exact hmo
 generalize hla:s.take (f.P.length+1+i)=la at*
 obtain⟨y1,y2⟩:=XP (G:=G) (K:=K) (C:=C) (R:=f.R) (first:=s.take f.n1) (g:=g) (fs:=fs) (p:=f.P.length) (L0:=f.P.length+1+i) (mo:=mo) hal O c.F 0 (la++fs) (by simp;omega) (by rw[cZ O];exact hlg) (by rw[eQ,dM O,Y,bL,dk,cf,bT]) (by rw[ba,bl O,<-ba];exact hlo) O (λk Xs js a H I=>by rw[bU] at I ⊢;exact tH k Xs js a H I);rw[cj,bR,dk,aN,Y,M] at y1 y2;generalize hhv:xf f.R (s.take f.n1) g c.F fs=hv at*
 have hml:(He f.I f.P.length (f.P.length+1+i) c).length=(fs++hv).length:=by simp[He,qS,uE,y1,M]
 have tV:=KB tm (az:=fs++hv) hml.symm (λj a A H I=>by
  by_cases hj:j<fs.length
  .rw [bl hj] at H;rw[He,bl (by simp[qS,uE];omega)] at I;have e3:(KR f.I f.P.length f.P.length c.F)[j]? =some ((KR f.I f.P.length f.P.length c.F)[j]'(by rw[uE];omega)):=aZ _;rw[JC e3] at I;cases I;rw[cZ O];have e6:=YK (l:=la) (m:=fs.take j) (pl:=List.range f.P.length) (by intro k hk;have:=b5.1 hk;omega) ((KR f.I f.P.length f.P.length c.F)[j]'(by rw[uE];omega));rw[show(fs.take j).length=j by simp;omega,Y,vg _ _ O,hlg] at e6;rw[e6];exact tF H e3
  .rw [bA O] at H;rw[He,bA (by simp[qS,uE];omega),qS,uE,<-M] at I;rw[di,aS (l:=fs) O,<-bq];rw[M] at H I ⊢;exact y2 _ a A H I)
 refine .conv tV (.trans hG ?_ H2);have hlv:f.P.length+1+i+(He f.I f.P.length (f.P.length+1+i) c).length=(la++(fs++hv)).length:=by rw[hml];simp only[aN,Y]
 have H:(la++(fs++hv)).getD f.P.length nD=mo:=by rw[ba,bl O,<-ba];exact hlo
 have I:(la++(fs++hv)).take f.P.length++((la++(fs++hv)).drop (f.P.length+1+i)).take c.F.length=g++fs:=by
  rw[cZ O,hlg,eQ,dM O,Y,bL,dk,cf,<-M,cE]
 have hpq:=JO (p:=f.P.length) (L0:=f.P.length+1+i) (j:=c.F.length) (n:=(la++(fs++hv)).length) (by rw[aN];omega) (by rw[aN,aN];omega);have hpp:=Bv (l:=la++(fs++hv)) (p:=f.P.length) (L0:=f.P.length+1+i) (j:=c.F.length) (by rw[aN];omega) (by rw[aN,aN];omega);rw[I] at hpp;rw[hlv,om,Hz (by rw[aN];omega),H,bf,bN,cD,om,vK hpq,hpp];have hL:f.n1+f.X.length+1=(s++[J]).length:=by simp;omega
 have e3:(s++[J]).getD f.P.length nD=mo:=BR (gA hmo);have e4:((s++[J]).drop f.n1).take f.X.length=s.drop f.n1:=by rw[fk O,cZ (by simp;omega),aS (by simp;omega)]
 have hUU:f.U.sub (ls (s++[J]))=.app (mo.apps (s.drop f.n1)) J:=by
  rw[wi.U,hL,E.sub,om,Hz O,vK (by intro q hq;obtain⟨r,V,rfl⟩:=bD.1 hq;have:=b5.1 V;omega),CN _ _ _ O,e3,e4]
  congr 1
  exact congrFun (BK _ _) 0
 rw[hUU,<-lk];have hcg:∀i,Cv G ((g++fs).getD i nD) (cs.getD i nD):=λi=>(cP2 i).symm
 have hcl:(g++fs).length=cs.length:=by simp;omega
 refine Cv.apps hG .rfl (by simp;omega) λr=>?_
 rw[pR,pR,bc,cI,show(s.drop f.n1).length=f.X.length by simp;omega];split
 .rename_i V;have hx:c.idx[r]? =some (c.idx[r]'O):=aZ O;have e5:(c.idx.map ((λx=>x.sub (ls (la++(fs++hv)))) ∘ λx=>x.sub (ls (vars (la++(fs++hv)).length (EE f.P.length (f.P.length+1+i) c.F.length))))).getD r nD=(c.idx[r]'O).sub (ls (g++fs)):=by
   refine BR ?_;rw[bt,hx];show some (E.sub (E.sub _ _) _)=_;rw[NY,vK hpq,hpp]
  rw[e5];refine(Cv.Jv hG _ (YZ hcl hcg)).trans hG ?_;have:=H6 (f.P.length+r);simp only[ba] at this ⊢;rw[bA (by simp;omega),bA O,bj,b8 O,hal,show f.P.length+r-f.P.length=r by omega,bt,hx] at this;exact this
 .split
  .rw [<- hM];exact Cv.apps hG .rfl hcl hcg
  .exact .rfl
end Go.Mt
namespace Go.Proofs.YtndbnldjidciiaaGreatDoor
variable{ι σ τ A B C F G H I J L M N P Q0 R S T U' V W X Y a a6 args az az' c cty e es first firsts fn fr fs g given gl h h' hi i j k2 l l' l3 m m0 m3 most n n' n0 o o' ob ob' p q q' q2 r rp rs rt s s0 s3 sl sx t u us v vs w w' x y z}
open Go Go.Vd Go.RowKit
section
open Go.Mt (E)
theorem Ff{B:Int}{P:ie->Prop}(x:∀n:Nat,P (.mk 0 n .empty [] []))(y:∀ls,P (.mk 1 0 .empty ls []))(z:∀s ls,P (.mk 2 0 s ls []))(C:∀f a,oD B f->oD B a->P f->P a->P (.mk 3 0 .empty [] [f,a]))(F:∀a b,oD B a->oD B b->P a->P b->P (.mk 4 0 .empty [] [a,b]))(G:∀a b,oD B a->oD B b->P a->P b->P (.mk 5 0 .empty [] [a,b]))(H:∀a v b,oD B a->oD B v->oD B b->P a->P v->P b->P (.mk 6 0 .empty [] [a,v,b])):∀t,oD B t->P t:=by
 suffices h:∀(n:Nat) (t:ie),t.size<=n->oD B t->P t from λt=>h _ t (ae _)
 intro n
 induction n with
 |zero=>intro t h;obtain⟨k,m,s,ls,args,rfl⟩:=ie.case t;simp[ie.size] at h
 |succ n i=>
  intro t j h;obtain⟨k,v,s,ls,args,rfl⟩:=ie.case t
  obtain⟨_,U,e⟩:=h;simp only[ie.size] at j;rcases e with⟨rfl,⟨J,_⟩,rfl,rfl,e⟩|⟨rfl,rfl,rfl,_,e⟩|⟨rfl,rfl,_,e⟩|⟨I,rfl,rfl,rfl,e⟩|⟨rfl,rfl,rfl,rfl,e⟩
  .obtain rfl:=bE.1 e;obtain⟨m,rfl⟩:∃m:Nat,v=m:=⟨v.toNat,O⟩;exact x m
  .obtain rfl:=bE.1 e;exact y _
  .obtain rfl:=bE.1 e;exact z _ _
  .match args,e with
   |[a,b],_=>
    simp only[ij] at j;have q:=i a O U.1;have r:=i b O U.2.1;rcases I with rfl|rfl|rfl
    .exact C _ _ U.1 U.2.1 q r
    .exact F _ _ U.1 U.2.1 q r
    .exact G _ _ U.1 U.2.1 q r
  .match args,e with
   |[a,b,c],_=>
    simp only[ij] at j;exact H _ _ _ U.1 U.2.1 U.2.2.1 (i a O U.1) (i b O U.2.1) (i c O U.2.2.1)
def er(I:fB->Option E):ie->E
 | .mk k n s ls [a,b]=>if k=4 then .lam (er I b) else if k=5 then .pi (er I a) (er I b) else .app (er I a) (er I b)
 | .mk k n s ls [a,v,b]=>(er I b).sub (Mt.one (er I v))
 | .mk k n s ls _=>if k=0 then .var n.toNat else if k=2 then(I s).getD (.pz s) else .nD
def z9(I:fB->Option E):Prop:= ∀s e,I s=some e->∀σ,e.sub σ=e
theorem z9.get(h:z9 I)(s)(σ:Nat->E):((I s).getD (.pz s)).sub σ=(I s).getD (.pz s):=by
 cases e:I s with
 |none=>rfl
 |some x=>exact h s x e σ
theorem VZ{I:fB->Option E}(i:z9 I){F:ie->Int->ie}{s:Nat->Nat->E}(e:∀d,s (d+1)=Mt.vG (s d))(j:∀(n d:Nat),er I (F (.mk 0 n .empty [] []) d)=s d n){B:Int}:∀t,oD B t->∀d:Nat,er I (ju F t d)=(er I t).sub (s d):=by
 have h:∀d:Nat,((d:Nat):Int)+1=((d+1:Nat):Int):=λd=>O
 refine Ff (λn d=>?_) (λls d=>rfl) (λc ls d=>?_) (λf a _ _ U k d=>?_) (λa b _ _ U k d=>?_) (λa b _ _ U k d=>?_) λa v b _ _ _ U k q d=>?_
 .rw [jL,j];rfl
 .exact (i.get c _).symm
 .show E.app (er I (ju F f d)) (er I (ju F a d))=_;rw[U,k];rfl
 .show E.lam (er I (ju F b ((d:Int)+1)))=_;rw[h,k,e];rfl
 .show E.pi (er I (ju F a d)) (er I (ju F b ((d:Int)+1)))=_;rw[U,h,k,e];rfl
 .show (er I (ju F b ((d:Int)+1))).sub (Mt.one (er I (ju F v d)))=E.sub (E.sub _ _) _;rw[k,h,q,e,Mt.one_sub]
theorem Jq(σ:Nat->E):∀(d n:Nat),Mt.yc d σ n=if n<d then .var n else Mt.q9 d (σ (n-d))
 |0,n=>by rw[if_neg O,Mt.vp];rfl
 |d+1,0=>rfl
 |d+1,n+1=>by
  show(Mt.yc d σ n).sh=_;rw[Jq σ d n];by_cases h:n<d
  .rw [if_pos h,if_pos O];rfl
  .rw [if_neg h,if_neg O,Mt.FZ];congr 2;omega
theorem zQ{I:fB->Option E}(c:z9 I){B:Int}{t:ie}(e:oD B t)(m:Nat):er I (lJ t m 0)=Mt.q9 m (er I t):=by
 have:=VZ c (F:=mr m 0) (s:=λd=>Mt.yc d λn=>.var (n+m)) (λd=>rfl) (λn d=>by
  rw[Jq,mr];split
  .rw [if_neg O];show E.var _=E.var _;congr 1;show Int.toNat _=n-d+m+d;omega
  .rw [if_pos O];rfl) t e 0
 rw[mZ];refine Eq.trans this ?_;unfold Mt.q9;rw[Mt.CJ];rfl
theorem Df(c:z9 I)(h:oD B j)(i:oD e v):er I (jJ j v)=(er I j).sub (Mt.one (er I v)):=
 VZ c (F:=j6 v) (s:=λd=>Mt.yc d (Mt.one (er I v))) (λd=>rfl) (λn d=>by
  rw[Jq,j6];split
  .rw [if_pos O];rfl
  .split
   .rw [if_neg O,zQ c i,show n-d=0 by omega];rfl
   .rw [if_neg O];obtain⟨q,rfl⟩:∃q,n=d+1+q:=⟨n-d-1,O⟩;rw[show d+1+q-d=q+1 by omega];show E.var _=E.var _
    congr 1;show Int.toNat _=q+d;omega) j h 0
theorem PG(I:fB->Option E)(e:List fB)(h:List iq){B:Int}:∀t,oD B t->er I (ld e h t)=er I t:=by
 refine Ff (λn=>rfl) (λls=>rfl) (λc ls=>rfl) (λf a _ _ U k=>?_) (λa b _ _ U k=>?_) (λa b _ _ U k=>?_) λa v b _ _ _ U k i=>?_
 .show E.app (er I (ld e h f)) (er I (ld e h a))=_;rw[U,k];rfl
 .show E.lam (er I (ld e h b))=_;rw[k];rfl
 .show E.pi (er I (ld e h a)) (er I (ld e h b))=_;rw[U,k];rfl
 .show (er I (ld e h b)).sub (Mt.one (er I (ld e h v)))=_;rw[k,i];rfl
theorem og(I:fB->Option E)(l):∀f:ie,er I (iF f l)=(er I f).apps (l.map (er I)):=by
 induction l with
 |nil=>exact λf=>rfl
 |cons a l b=>exact λf=>b (.mk 3 0 .empty [] [f,a])
theorem MJ{I:fB->Option E}(q:z9 I){r:Sg}{x:List fB}{B:Int}:∀t,oD B t->∀(c:Nat) (σ τ:Nat->E),Wt r x t c->(∀ i,i<c->σ i=τ i)->(er I t).sub σ=(er I t).sub τ:=by
 have U:∀{c:Nat} {σ τ:Nat->E},(∀ i,i<c->σ i=τ i)->∀i,i<c+1->Mt.vG σ i=Mt.vG τ i:=λ{c σ τ} h i y=>by
  cases i with
  |zero=>rfl
  |succ i=>show(σ i).sh=_;rw[h i O];rfl
 refine Ff (λn c σ τ h k=>?_) (λls c σ τ h k=>rfl) (λs ls c σ τ h k=>?_) (λf a _ _ j e c σ τ h k=>?_) (λa b _ _ j e c σ τ h k=>?_) (λa b _ _ j e c σ τ h k=>?_) λa v b _ _ _ j e z c σ τ h k=>?_
 .have:=h.2.2;refine k n ?_;rcases this with h|h|h|h|h<;>omega
 .exact (q.get s _).trans (q.get s _).symm
 .show E.app _ _=E.app _ _;rw[j c σ τ h.2.1.1 k,e c σ τ h.2.1.2.1 k]
 .show E.lam _=E.lam _;rw[e (c+1) _ _ h.2.1.2.1 (U k)]
 .show E.pi _ _=E.pi _ _;rw[j c σ τ h.2.1.1 k,e (c+1) _ _ h.2.1.2.1 (U k)]
 .show E.sub (E.sub _ _) _=E.sub (E.sub _ _) _;rw[Mt.sub_sub,Mt.sub_sub];refine z (c+1) _ _ h.2.1.2.2.1 λi y=>?_
  cases i with
  |zero=>exact e c σ τ h.2.1.2.1 k
  |succ i=>exact k i O
end
section
open Go.Mt (E oO Cv Ty)
def TM(t u:ie):Prop:= ∀I,er I t=er I u
def G0(t u:ie):Prop:= ∀(I:fB->Option E) (G:oO),z9 I->Mt.pk G->Cv G (er I t) (er I u)
def Zf(v:Nat)(t:ie):Prop:= ∀I,z9 I->∀σ τ:Nat->E,(∀ i,i≠v->σ i=τ i)->(er I t).sub σ=(er I t).sub τ
theorem TM.node(e:l.length=m.length)(z:s=r)(h:∀(i:Nat) a b,l[i]? =some a->m[i]? =some b->TM a b):TM (.mk F n s y l) (.mk F n r j m):=by
 subst z;intro I
 match l,m,e,h with
 |[],[],_,_=>rfl
 |[a],[b],_,_=>rfl
 |[a,b],[q,U],_,h=>simp only[er];rw[h 0 a q rfl rfl I,h 1 b U rfl rfl I]
 |[a,b,c],[q,U,x],_,h=>simp only[er];rw[h 1 b U rfl rfl I,h 2 c x rfl rfl I]
 |a::b::c::d::l,q::U::x::C::m,_,_=>rfl
theorem Rv(j:Mt.pk G)(e:l.length=m.length)(h:∀(i:Nat) a b,l[i]? =some a->m[i]? =some b->Cv G (er I a) (er I b)):Cv G (er I (.mk F n s x l)) (er I (.mk F n s x m)):=by
 match l,m,e,h with
 |[],[],_,_=>exact .rfl
 |[a],[b],_,_=>exact .rfl
 |[a,b],[q,U],_,h=>
  simp only[er];have y:=h 0 a q rfl rfl;have r:=h 1 b U rfl rfl;split
  .exact r.lam
  .split
   .exact y.pi j r
   .exact y.app j r
 |[a,b,c],[q,U,z],_,h=>
  simp only[er];exact Cv.afe j (h 2 c z rfl rfl) (Cv.one (h 1 b U rfl rfl))
 |a::b::c::d::l,q::U::z::C::m,_,_=>exact .rfl
theorem G0.node(e:l.length=m.length)(h:∀(i:Nat) a b,l[i]? =some a->m[i]? =some b->G0 a b):G0 (.mk x n s c l) (.mk x n s c m):=
 λI G j U=>Rv U e λi a b q r=>h i a b q r I G j U
theorem G0.rfl{t:ie}:G0 t t:=λ_ _ _ _=>.rfl
theorem G0.trans{t u v:ie}(h:G0 t u)(k:G0 u v):G0 t v:=λI G U b=>(h I G U b).trans b (k I G U b)
theorem Zf.node{v:Nat}{B J n:Int}{y:List iq}{l:List ie}(z:oD B (.mk J n s y l))(C:J=0->n≠v)(h:∀(i:Nat) a,l[i]? =some a->Zf (if 4<=J/\i+1=l.length then v+1 else v) a):Zf v (.mk J n s y l):=by
 intro I j σ τ r;have U:∀i,i≠v+1->Mt.vG σ i=Mt.vG τ i:=λi F=>by
  cases i with
  |zero=>rfl
  |succ i=>show(σ i).sh=_;rw[r i O];rfl
 rcases z.2.2 with⟨rfl,⟨H,_⟩,rfl,rfl,q⟩|⟨rfl,rfl,rfl,_,q⟩|⟨rfl,rfl,_,q⟩|⟨G,rfl,rfl,rfl,q⟩|⟨rfl,rfl,rfl,rfl,q⟩
 .obtain rfl:=bE.1 q;have:=C rfl;exact r _ O
 .obtain rfl:=bE.1 q;rfl
 .obtain rfl:=bE.1 q;exact(j.get s _).trans (j.get s _).symm
 .match l,q,h with
  |[a,b],_,h=>
   have ha:=h 0 a rfl;have e:=h 1 b rfl;simp only[aj,aH] at ha e;rw[if_neg O] at ha;rcases G with rfl|rfl|rfl
   .rw [if_neg O] at e;show E.app _ _=E.app _ _;rw[ha I j σ τ r,e I j σ τ r]
   .rw [if_pos ⟨Z,trivial⟩] at e;show E.lam _=E.lam _;rw[e I j _ _ U]
   .rw [if_pos ⟨Z,trivial⟩] at e;show E.pi _ _=E.pi _ _;rw[ha I j σ τ r,e I j _ _ U]
 .match l,q,h with
  |[a,b,c],_,h=>
   have e:=h 1 b rfl;have x:=h 2 c rfl;simp only[aj,aH] at e x;rw[if_neg O] at e;rw[if_pos ⟨Z,trivial⟩] at x;show E.sub (E.sub _ _) _=E.sub (E.sub _ _) _;rw[Mt.sub_sub,Mt.sub_sub];refine x I j _ _ λi F=>?_
   cases i with
   |zero=>exact e I j σ τ r
   |succ i=>exact r i O
theorem G0.eta{B c:Int}{A r:ie}(j:oD B r)(q:oD c (.mk 0 0 .empty [] []))(h:Zf 0 r):G0 (.mk 4 0 .empty [] [A,.mk 3 0 .empty [] [r,.mk 0 0 .empty [] []]]) (jJ r (.mk 0 0 .empty [] [])):=by
 intro I G b U;rw[Df b j q];have e:er I r=((er I r).sub (Mt.one (.var 0))).sh:=by
  unfold E.sh;rw[Mt.zs];refine(Mt.tU _).symm.trans (h I b _ _ λi k=>?_);cases i with
  |zero=>exact absurd (Eq.refl 0) k
  |succ i=>rfl
 show Cv G (.lam (.app (er I r) (.var 0))) _
 conv=>lhs;rw[e]
 exact(Mt.nu.eta .z).cv
end
section
attribute [local irreducible] iK iL jI ik iW jH
theorem Bt{L:List fB}(c:L.length<=6){a b:jC}(e:∀p,a.has p->p∈L)(i:∀p,b.has p->p∈L):(a.ps b).length<=6:=by
 refine aQ (zC (b:=L) ?_ λx k=>?_) c
 .exact b.qc (a.qc eF)
 .rcases b.tz k with h|h
  .rcases a.tz h with h|h
   .cases h
   .exact e x h
  .exact i x h
theorem K1:∀(n:Nat) (k m:Int) (s:fB) (ls:List iq) (args:List ie) (v:Int),(ie.mk k m s ls args).size<=n->(ie.mk k m s ls args).size<=1099511627776->0<=v->v+(ie.mk k m s ls args).size<=4398046511104->
 jA fC gl 81 [(ie.mk k m s ls args).d,fD v] λd=> ∃b:Bool,d=fF b/\(b=false->∀B,oD B (.mk k m s ls args)->Zf v.toNat (.mk k m s ls args)):=by
 intro n
 induction n with
 |zero=>intro k m s ls args v h;simp[ie.size] at h
 |succ n I=>
  intro k m s ls args v z J M C;simp only[ie.size] at z J C;have R:=ir args;have S:=iJ args;refine oN Tryz.func81 36 ?_;refine jq 14 ?_ ?_<;>intro H
  .refine od 11 ?_;exact⟨_,rfl,λh B q=>Zf.node q (λ_=>by simp only[decide_eq_false_iff_not] at h;omega) λi a e=>by have V:=(wm q H).2.2.2.2;rw[V] at e;simp at e⟩
  refine vq 9 (ι:=Nat) (λi=>[(5,int i)]) [2,1] (λi=>i<=args.length/\∀(j:Nat) a,j<i->args[j]? =some a->∀B,oD B a->Zf (if 4<=k/\j+1=args.length then v.toNat+1 else v.toNat) a) (λi=>args.length-i) (0) ⟨ak _,λj a h=>absurd h (cT _)⟩ ?_;rintro i c
  try dsimp only at c
  obtain⟨W,r⟩:=c;refine j7 10 ?_ ?_<;>intro h4
  .refine od 11 ?_;exact⟨_,rfl,λh B q=>Zf.node q (λh=>absurd h H) λi a e=>r i a (by have:=(aJ.1 e).1;omega) e B (Fg q.2.1 (aO e))⟩
  obtain⟨k2,Y,s2,l2,a2,U⟩:=iZ (show i<args.length by omega);have hg1:=iO U;refine ny 15 (we k m s ls args i O) ?_;refine rF 2 ?_;refine xc (ι:=Unit) (λ_=>[(6,int (if decide (4<=k)=true/\i+1=args.length then v+1 else v))]) [5,2,1] (λ_=>True) rfl ?_ ?_
  .refine j7 0 ?_ ?_<;>intro h7
   .refine qX 1 (()) (by trivial) (hM:=by exact oL (j8 rfl (by exact Fit.of_eq gO)))
   refine jS 2 ?_;refine qX 2 (()) (by trivial) (hM:=by exact oL (j8 rfl (by exact Fit.of_eq gO)))
  .rintro _ x
   try dsimp only at x
   have y:=I k2 Y s2 l2 a2 (if decide (4<=k)=true/\i+1=args.length then v+1 else v) O O (by split<;>omega) (by split<;>omega);refine ni 5 iQ iY ?_ (hat:=(jr U));refine wE 2 y λd hd=>?_;obtain⟨r2,rfl,F⟩:=hd;refine jq 8 ?_ ?_<;>intro G
   .refine od 11 ?_;exact⟨_,rfl,λh=>by cases h⟩
   refine jS 5 ?_;refine qX 2 (i+1) ?_
   .refine ⟨⟨O,λj a h e=>?_⟩,O⟩;rcases bV j i with h'|h'
    .exact r j a h' e
    .obtain rfl:j=i:=O;rw[U] at e;cases e;intro B q;have:=F (by first|assumption|simpa using G) B q;rw[show(if 4<=k/\j+1=args.length then v.toNat+1 else v.toNat)=(if decide (4<=k)=true/\j+1=args.length then v+1 else v).toNat by simp only[decide_eq_true_eq];split<;>omega];exact this
mutual
theorem xH{v:ie}(hv:v.size<=1):∀(t:ie) (d:Int),(ju (j6 v) t d).size<=t.size
 | .mk k n s ls args,d=>by
  by_cases hk:k=0
  .rw [ju,if_pos hk,j6];split
   .simp only[ie.size];omega
   .split
    .rw [tt];simp only[ie.size];omega
    .simp only[ie.size];omega
  .rw [ju,if_neg hk];have:=DD hv args (decide (4<=k)) d;simp only[ie.size];omega
theorem DD{v:ie}(hv:v.size<=1):∀(l:List ie) (b:Bool) (d:Int),ij (jm (j6 v) b l d)<=ij l
 |[],b,d=>by simp[jm]
 |t::r,b,d=>by
  have h1:=xH hv t (if b&&r.isEmpty then d+1 else d);have h2:=DD hv r b d;simp only[jm,ij];omega
end
theorem qF.UX{e:Sg}{i:List fB}{q:Bool}{c:Int}:∀{l:List ie},(∀ (j:Nat) y,l[j]? =some y->Wt e i y (if q=true/\j+1=l.length then c+1 else c))->qF e i q l c
 |[],_=>trivial
 |t::r,h=>by
  refine⟨?_,qF.UX λj y k=>?_⟩
  .have:=h 0 t rfl;cases r with
   |nil=>simpa using this
   |cons a r=>simpa using this
  .have:=h (j+1) y k
   simpa using this
theorem N7:∀(n:Nat) (k m:Int) (s:fB) (ls:List iq) (args:List ie) (c:Int),(ie.mk k m s ls args).size<=n->(ie.mk k m s ls args).size<=1000000000000->0<=c->c+(ie.mk k m s ls args).size<=2000000000000->Wt M R (.mk k m s ls args) c->
 jA fC gl 49 [(ie.mk k m s ls args).d] λd=> ∃u:ie,d=u.d/\Wt M R u (c+(ie.mk k m s ls args).size)/\u.size<=(ie.mk k m s ls args).size/\G0 (.mk k m s ls args) u:=by
 intro n
 induction n with
 |zero=>intro k m s ls args c h;simp[ie.size] at h
 |succ n ih=>
  intro k m s ls args c hsz hb hc hcz hw;have hTz:(ie.mk k m s ls args).size=1+iG ls+ij args:=rfl;have hal:=ir args;have hsa:=iJ args;generalize hG:(ie.mk k m s ls args).size=G at hTz hsz hb hcz ⊢;refine oN Tryz.func49 70 ?_;refine rF 18 ?_;refine iP 39 5 rfl<|pt 0 (ι:=Nat×List ie) (λ⟨i,U⟩=>[(4,int i),(3,.own 2 5 (im U))]) (λ⟨i,U⟩=>[tO k m s ls args,zO,tR]) [2,1] (λ⟨i,U⟩=>i<=args.length/\U.length=i/\ij U<=ij (args.take i)/\(∀ (j:Nat) y,U[j]? =some y->Wt M R y (if decide (4<=k)=true/\j+1=args.length then c+ij args+1 else c+ij args))/\∀(j:Nat) a y,args[j]? =some a->U[j]? =some y->G0 a y) (λ⟨i,U⟩=>args.length-i) ((0,[])) ([0,1,2]) ⟨ak _,rfl,ak _,λj y h=>(by cases h),λj a y _ h=>(by cases h)⟩ ?_ (hM:=by exact oL (iU (j8 rfl (by exact Fit.nil rfl))));rintro⟨i,U⟩ b
  try dsimp only at b
  refine jq 10 ?_ ?_<;>intro h3
  .obtain ⟨kx,mx,W,Y,ax,r⟩:=iZ (show i<args.length by omega);have hxz:=iO r;have hxw:=qF.get hw.2.1 r;obtain⟨cx,hcx,hcl⟩:∃cx,cx=(if decide (4<=k)=true/\i+1=args.length then c+1 else c)/\c<=cx/\cx<=c+1:=⟨_,rfl,by split<;>omega,by split<;>omega⟩;rw[<- hcx] at hxw;have hnm:=ih kx mx W Y ax cx O O O O hxw;have hytl:=ir U;have q:=b.2.1;refine ni 9 iQ iY ?_ (hat:=(jr r));refine wE 1 hnm λd hd=>?_;obtain⟨⟨kY,mY,sY,lY,aY⟩,rfl,hYw,hYz,hYe⟩:=hd
   have hnx:im U++[[fD kY,fD mY,fG sY,.sl 3 (iR lY),.sl 5 (im aY)]]=im (U++[.mk kY mY sY lY aY]):=(by rw[ll];rfl);refine oR 0 mN [.tmp 21] jz ?_;refine oc (ya mN ?_);refine jS 6 ?_;refine rF 2 ?_;rw[hnx];refine ml 0 (i+1,U++[.mk kY mY sY lY aY]) [0,1,2] ?_
   .refine ⟨⟨O,by rw[aN,b.2.1];rfl,?_,λj y x=>?_,λj a y ha x=>?_⟩,show args.length-(i+1)<args.length-i by omega⟩
    .have h1:=b.2.2.1;have h2:=qb r;rw[mS];simp only[ij];omega
    .have q:=b.2.1;rcases bV j i with hji|hji
     .rw [bl O] at x;exact b.2.2.2.1 j y x
     .rw [bA O] at x;have hj:j=i:=by
       have h3:=(aJ.1 x).1;simp only[aj,aH] at h3;omega
      subst hj;rw[q,bL] at x;cases x;refine hYw.up ?_;rw[hcx];split<;>omega
    .have q:=b.2.1;rcases bV j i with hji|hji
     .rw [bl O] at x;exact b.2.2.2.2 j a y ha x
     .rw [bA O] at x;have hj:j=i:=by
       have h3:=(aJ.1 x).1;simp only[aj,aH] at h3;omega
      subst hj;rw[q,bL] at x;cases x;rw[r] at ha;cases ha;exact hYe
  have hi:i=args.length:=O;have q:=b.2.1;have hyz:=b.2.2.1;have hy4:=b.2.2.2.1;have hy5:=b.2.2.2.2;rw[hi,bT] at hyz;rw[hi] at q;have hN:Wt M R (.mk k m s ls U) (c+ij args):=⟨hw.1,qF.UX (by rw[q];exact hy4),by rw[q];exact hw.2.2.imp (λ_ h=>⟨h.1,O⟩) λ_ h=>h⟩;have S:(ie.mk k m s ls U).size<=G:=(by simp only[ie.size];omega);have V:G0 (.mk k m s ls args) (.mk k m s ls U):=G0.node q.symm hy5;have hws:=uM (gl:=gl) k m s ls args U;obtain⟨kb,mb,sb,lb,ab,hb1⟩:∃kb mb sb lb ab,k=4->U[1]? =some (.mk kb mb sb lb ab):=(by
   by_cases h:k=4
   .obtain ⟨A,⟨kb,mb,sb,lb,ab⟩,e,_⟩:=hN.two (.inr (.inl h));exact⟨kb,mb,sb,lb,ab,λ_=>by rw[e];rfl⟩
   .exact ⟨0,0,.empty,[],[],λe=>absurd e h⟩)
  refine ny 9 hws ?_;refine' Cg 10 36 30 6 ?a6 ?_
  case a6=>
   intro hc hK;refine ni 2 iQ iY ?_ (hat:=(jr (hb1 hc)));refine rF 3 ?_;exact hK [_,_,_,_,_,_] rfl rfl
  refine jq 2 ?_ ?_<;>intro h7
  .refine v8 8 ((ie.mk k m s ls U).d) ?_;exact⟨_,rfl,hN.up O,S,V⟩
  obtain rfl:k=4:=O;obtain rfl:kb=3:=O;obtain⟨⟨kA,mA,sA,lA,aA⟩,bb,rfl,rfl,rfl,rfl,hA,hB⟩:=hN.two (.inr (.inl rfl));obtain rfl:bb=.mk 3 mb sb lb ab:=(by have:=hb1 rfl;cases this;rfl);rw[if_neg Z] at hB;obtain⟨⟨z,C,F,H,I⟩,⟨kx,mx,W,Y,ax⟩,rfl,rfl,rfl,rfl,hF,hX⟩:=hB.two (.inl rfl);have hFz:(ie.mk z C F H I).size+3<=G:=(by simp only[ie.size,ij] at S ⊢;omega);have hst:=K1 (gl:=gl) _ z C F H I 0 (ae _) O O O;have hW:Wt M R (jJ (.mk z C F H I) (.mk 0 0 .empty [] [])) (c+ij args+1):=Wt.sub O (hF.up O) (Wt.var O O);have hWz:(jJ (.mk z C F H I) (.mk 0 0 .empty [] [])).size<=(ie.mk z C F H I).size:=xH Z _ _;have J:=yX (gl:=gl) (B:=4398046511104) O 0 0 .empty [] [] ((Wt.var (sg:=M) (ps:=R) (c:=1) O O).sh (by simp only[ie.size,iG,ij];omega)) (by simp only[ie.size,iG,ij];omega) z C F H I (hF.sh O) O;obtain⟨kU,mU,sU,lU,aU,hU⟩:=ie.case (jJ (.mk z C F H I) (.mk 0 0 .empty [] []))
  rw[hU] at J hW hWz;refine ni 6 iQ iY ?_ (hat:=rfl);refine ni 9 iQ iY ?_ (hat:=rfl);refine ni 9 iQ iY ?_ (hat:=rfl);refine wE 1 hst λd hd=>?_;obtain⟨r2,rfl,hr2⟩:=hd
  refine rV 10 58 55 3 ?_;refine rV 1 61 60 1 ?_;refine jq 2 ?_ ?_<;>intro h12
  .refine v8 8 ((ie.mk 4 0 .empty [] [.mk kA mA sA lA aA,.mk 3 0 .empty [] [.mk z C F H I,.mk kx mx W Y ax]]).d) ?_;exact⟨_,rfl,hN.up O,S,V⟩
  refine ma 3 [0,1] mixed ?_;refine pQ 2 iQ iY ?_ (hat:=rfl);refine ga [3] ?_;refine qB 4 (zJ 0) ?_;refine qB 5 J ?_;refine nO 6 ?_;refine iB<|v8 2 ((ie.mk kU mU sU lU aU).d) ?_;refine⟨_,rfl,hW.up O,O,V.trans ?_⟩;obtain⟨⟨rfl,rfl⟩,hrf⟩:=h12;rw[if_pos rfl] at hX;obtain⟨Bx,bx⟩:∃B,oD B (ie.mk 0 0 W Y ax):=⟨c+ij args+1+(ie.mk 0 0 W Y ax).size,hX.sh O⟩;obtain⟨_,_,rfl,rfl,rfl⟩:=wm bx rfl;have hfs:oD 4398046511104 (ie.mk z C F H I):=hF.sh O;rw[<- hU];exact G0.eta hfs bx (hr2 hrf _ hfs)
structure RD where
 kd:Int
 sd:fB
 pd:List fB
 k1:Int
 n1:Int
 s1:fB
 l1:List iq
 a1:List ie
 k2:Int
 n2:Int
 s2:fB
 l2:List iq
 a2:List ie
 ad:Int
 cd:List (fB×ie)
def RD.dec(x:RD):mJ:=.mk x.kd x.sd x.pd (.mk x.k1 x.n1 x.s1 x.l1 x.a1) (.mk x.k2 x.n2 x.s2 x.l2 x.a2) x.ad x.cd
def pX(x:RD)(m:Int)(n:Nat)(c:Int):Ob:=.cells [.d (.v (.int .i64 x.kd)),.d (.v (.string x.sd)),.d (.sl 1 (strs x.pd)),.d (.v (.int .i64 x.k1)),.d (.v (.int .i64 x.n1)),.d (.v (.string x.s1)),.d (.sl 3 (iR x.l1)),.d (.sl 5 (im x.a1)),.d (.v (.int .i64 x.k2)),.d (.v (.int .i64 x.n2)),.d (.v (.string x.s2)),.d (.sl 3 (iR x.l2)),.d (.sl 5 (im x.a2)),.d (.v (.int .i64 x.ad)),.d (.sl 6 (qW x.cd)),.d (.v (.int .i64 m)),.arr 1 n,.d (.v (.int .i64 c))] 232
def Dm(x:RD):Ob:=.cells [.d (.v (.int .i64 x.kd)),.d (.v (.string x.sd)),.d (.sl 1 (strs x.pd)),.d (.v (.int .i64 x.k1)),.d (.v (.int .i64 x.n1)),.d (.v (.string x.s1)),.d (.sl 3 (iR x.l1)),.d (.sl 5 (im x.a1)),.d (.v (.int .i64 x.k2)),.d (.v (.int .i64 x.n2)),.d (.v (.string x.s2)),.d (.sl 3 (iR x.l2)),.d (.sl 5 (im x.a2)),.d (.v (.int .i64 x.ad)),.d (.sl 6 (qW x.cd))] 61
def lO(e:Int)(s:fB)(c:List iq):Ob:=.cells [.d (.v (.int .i64 e)),.d (.v (.string s)),.d (.sl 3 (iR c))] 121
def MX(c:List (fB×ie)):Nat:=ij (c.map (·.2))
theorem Wa{e:List (fB×ie)}{i:Nat}(h:e[i]? =some c):MX (e.take (i+1))=MX (e.take i)+c.2.size:=by
 unfold MX;rw[cu,cu,qb (a:=c.2) (by rw[bt,h];rfl)]
theorem Yp(c):c.length<=MX c:=by
 have:=iJ (c.map (·.2));rw[bc] at this;exact this
def pA(c:List ie):Ob:=.buf 39 5 (im c) none
def vr(n:Int):ie:=.mk 0 n .empty [] []
def NA(c:Sg)(e:List fB)(h:List ie):Prop:= ∀(i:Nat) x,h[i]? =some x->Wt c e x i
theorem NA.app{sg:Sg}{ps:List fB}{c:List ie}{t:ie}(h:NA sg ps c)(e:Wt sg ps t c.length):NA sg ps (c++[t]):=by
 intro i x b;rcases bV i c.length with hi|hi
 .rw [bl hi] at b;exact h i x b
 .rw [bA hi] at b;have k:=(aJ.1 b).1;simp only[aj,aH] at k;obtain rfl:i=c.length:=O;rw[bL] at b;cases b;exact e
def wq(c:List ie)(t:ie):ie:=c.foldr (λx h=>.mk 5 0 .empty [] [x,h]) t
theorem wR(c h):(wq c h).size=ij c+c.length+h.size:=by
 unfold wq
 induction c with
 |nil=>simp[ij]
 |cons x r b=>rw[List.foldr_cons];simp only[ie.size,iG,ij,aj,b];omega
theorem QQ{e:Sg}{j:List fB}:∀{b:List ie} {h:ie} {c:Int},(∀ (i:Nat) x,b[i]? =some x->Wt e j x (c+i))->Wt e j h (c+b.length)->Wt e j (wq b h) c
 |[],h,c,_,hw=>by simpa[wq] using hw
 |x::r,h,c,k,hw=>by
  refine Wt.bind (.inr rfl) (by simpa using k 0 x rfl) (QQ (λi y U=>?_) ?_)
  .have:=k (i+1) y (by simpa using U)
   rwa [show c+1+(i:Int)=c+((i+1:Nat):Int) by omega]
  .rw [show c+1+(r.length:Int)=c+((x::r).length:Int) by simp only[aj];omega];exact hw
theorem NA.yN(h:NA e j c)(r:n<=c.length)(q:Wt e j t c.length):Wt e j (wq (c.drop n) t) n:=by
 refine QQ (λi x b=>?_) (by rw[bK];exact q.up O);rw[bX] at b;exact(h _ _ b).up O
def vars(n:Int)(c:List Int):List ie:=c.map λp=>vr (n-1-p)
def BF(n:Int)(c:List Int)(t:ie):ie:=o9 (vars n c) c.length t
theorem xw{sg:Sg}{ps:List fB}(h:∀p∈c,0<=p/\p<n):∀x∈vars n c,Wt sg ps x n:=by
 intro x b;obtain⟨p,k,rfl⟩:=bD.1 b;have:=h p k;exact Wt.var O O
theorem uc(n c):(vars n c).length=c.length:=by simp[vars]
theorem u0(n c):ij (vars n c)=c.length:=by
 unfold vars
 induction c with
 |nil=>rfl
 |cons p r b=>rw[bG,ij,b,aj];simp only[vr,ie.size,iG,ij];omega
theorem KP(h:i<c.length):(vars n c).getD i iu=vr (n-1-c[i]):=by
 simp[vars,ba,h]
theorem J5(m i)(h:0<=m):lJ (vr m) i 0=vr (m+i):=by
 rw[mZ];unfold vr;rw[jL,mr];rw[if_pos O]
theorem O4(h:∀p∈c,0<=p/\p<n):∀(i:Nat) (t:ie),i<=c.length->(o9 (vars n c) i t).size<=t.size:=by
 intro i
 induction i with
 |zero=>intro t _;exact ae _
 |succ i b=>
  intro t k;rw[o9,KP O];have U:=h _ (bS (show i<c.length by omega));rw[J5 _ _ O];refine aQ (b _ O) ?_;exact xH (v:=vr _) (by simp[vr,ie.size,iG,ij]) t 0
theorem EG(j:0<=n)(h:∀p∈c,0<=p/\p<n)(q:Wt e i t c.length):Wt e i (BF n c t) n/\(BF n c t).size<=t.size:=
 ⟨Wt.o9 j (xw h) _ (by rw[uc];exact ae _) (q.up O),O4 h _ _ (ae _)⟩
theorem wg(x m e c i)(h:c.length<=1099511627776)(j:0<=i/\i<=1099511627776):
 jT fC gl 178 [pX x m c.length e,pA c] [.jk 0 0,fE i] λout ob'=>out=.ret (.d (vr (c.length-1-i)).d)/\ob'=[pX x m c.length e,pA c]:=by
 refine nR Tryz.func178 14 2 ?_;refine rF 11 ?_;refine o1 (qg iQ rfl rfl ?_);refine sH 0 ?_;refine sH 1 ?_;refine ny 0 (zJ (c.length-1-i)) ?_;refine jD 4 ((vr (c.length-1-i)).d) [0,1] [pX x m c.length e,pA c] ⟨rfl,rfl⟩
theorem r9(x m i e y n s h c)(r:e.length<=1000000000000):
 jT fC q 175 [pX x m e.length i,pA e] [.jk 0 0,.d (ie.mk y n s h c).d] λout ob'=>out=.ret (.d (.jj []))/\ob'=[pX x m (e++[ie.mk y n s h c]).length i,pA (e++[ie.mk y n s h c])]:=by
 have j:=ir e;have U:(im e++[[D.v (.int .i64 0),fD 0,fG { data:= #[] },fJ,fJ]]).set (e.length:Int).toNat [D.v (.int .i64 y),fD n,fG s,.sl 3 (iR h),.sl 5 (im c)]=im (e++[ie.mk y n s h c]):=by
  rw[ll,cb,<-j,List.set_append_right _ _ (ae _),bL];rfl
 have b:(im e++[[D.v (.int .i64 0),fD 0,fG { data:= #[] },fJ,fJ]]).length=(e++[ie.mk y n s h c]).length:=by
  rw[aN,aN,j];rfl
 refine nR Tryz.func175 15 2 ?_;refine ma 5 [0,1,2,3,4] mixed ?_;refine A1 5 rfl (qg iQ rfl rfl ⟨_,rfl,?_⟩);refine A2 6 rfl (CW mN [.const _] jz ?_);refine A2 7 rfl (wx mN rfl rfl rfl rfl rfl rfl rfl Z (by simp) (by(simp only[maxLen,aj,aH];omega)) rfl rfl rfl ?_);refine A1 8 rfl (mH iQ iY rfl rfl rfl rfl rfl rfl (by(simp only[aN,aj,aH];omega)) ⟨_,rfl,?_⟩);refine ga [10,11] ?_;refine ki (rs:=[9,12]) gN rfl ⟨?_,?_,trivial⟩
 .skip
  refine A4 9 rfl (o6 jz rfl rfl rfl rfl rfl rfl rfl rfl rfl rfl rfl rfl ⟨rfl,by(simp only[aN,aj,aH];omega)⟩ rfl ?_);refine nO 12 ?_;refine iB<|fN ?_;rw[U,b];refine tL (l:=[]) rfl rfl ([0,1]) ([pX x m (e++[ie.mk y n s h c]).length i,pA (e++[ie.mk y n s h c])]) rfl rfl rfl ?_ ?_
  .repeat (first|exact nw|refine jN ?_|refine Nz ?_)
  .exact ⟨rfl,rfl⟩
 .skip
  refine A4 12 rfl (Ug Zu ?_);refine A2 9 rfl (o6 jz rfl rfl rfl rfl rfl rfl rfl rfl rfl rfl rfl rfl ⟨rfl,by(simp only[aN,aj,aH];omega)⟩ rfl ?_);refine iB<|fN ?_;rw[U,b];refine tL (l:=[]) rfl rfl ([0,1]) ([pX x m (e++[ie.mk y n s h c]).length i,pA (e++[ie.mk y n s h c])]) rfl rfl rfl ?_ ?_
  .repeat (first|exact nw|refine jN ?_|refine Nz ?_)
  .exact ⟨rfl,rfl⟩
mutual
def XF:iq->Prop
 | .mk _ _ args=>args.length<=1000000/\ZY args
def ZY:List iq->Prop
 |[]=>True
 |t::r=>XF t/\ZY r
end
theorem w9:∀{l:List iq} {i:Nat} {t:iq},ZY l->l[i]? =some t->XF t
 |a::r,0,t,h,b=>by cases b;exact h.1
 |a::r,i+1,t,h,b=>w9 (l:=r) (i:=i) h.2 (by simpa using b)
theorem tT:∀x:jC,XF x.iT
 | .zero=>⟨Z,trivial⟩
 | .succ a=>⟨by simp,tT a,trivial⟩
 | .max a b=>⟨by simp,tT a,tT b,trivial⟩
 | .imax a b=>⟨by simp,tT a,tT b,trivial⟩
 | .param s=>⟨Z,trivial⟩
theorem CY:∀(n:Nat) (k:Int) (s:fB) (args:List iq) (most:Int),(iq.mk k s args).size<=n->XF (.mk k s args)->0<=most->most<=1099511627776->
 jA fC x 103 [(iq.mk k s args).d,fD most] λd=> ∃r:Int,d=fD r/\1<=r/\r<=most+1/\(r<=most->r=(iq.mk k s args).size):=by
 intro n
 induction n with
 |zero=>intro k s args most h;simp[iq.size] at h
 |succ n y=>
  intro k s args most j z C F;simp only[iq.size] at j;obtain⟨G,q⟩:=z;have H:=jn args;refine oN Tryz.func103 33 ?_;refine vq 18 (ι:=Nat×Int) (λ⟨i,c⟩=>[(6,int i),(5,int c)]) [2,1] (λ⟨i,c⟩=>i<=args.length/\1<=c/\c<=most+1/\(c<=most->c=1+iG (args.take i))) (λ⟨i,c⟩=>args.length-i) ((0,1)) ⟨ak _,O,O,λ_=>by simp[iG]⟩ ?_;rintro⟨i,c⟩ b
  try dsimp only at b
  refine xP 9 16 13 3 ?_;refine j7 2 ?_ ?_<;>intro Y
  .have e:c<=most->i=args.length:=(λh=>O);refine od 12 ?_;exact⟨c,rfl,b.2.1,b.2.2.1,λh=>by rw[b.2.2.2 h,e h,bT];simp only[iq.size];omega⟩
  obtain⟨I,J,M,U⟩:=kj (show i<args.length by omega);have R:=oA U;refine ni 9 oz oP ?_ (hat:=(lj U));refine sH 3 ?_;refine wE 0 (y I J M (most-c) O (w9 q U) O O) λd hd=>?_;obtain⟨r,rfl,S,V,W⟩:=hd;refine jS 6 ?_;refine jS 6 ?_;refine qX 2 (i+1,c+r) ?_
  exact⟨⟨O,O,O,λh=>by rw[qK U];omega⟩,show args.length-(i+1)<args.length-i by omega⟩
theorem G6:∀(n:Nat) (k:Int) (s:fB) (args:List iq) (k2:Int) (s2:fB) (U:List iq),(iq.mk k s args).size<=n->XF (.mk k s args)->XF (.mk k2 s2 U)->
 jA fC gl 70 [(iq.mk k s args).d,(iq.mk k2 s2 U).d] λd=> ∃b:Bool,d=fF b:=by
 intro n
 induction n with
 |zero=>intro k s args k2 s2 U h;simp[iq.size] at h
 |succ n I=>
  intro k s args k2 s2 U J M q;simp only[iq.size] at J;obtain⟨R,r⟩:=M;obtain⟨S,x⟩:=q;have G:=jn args;have y:=jn U;refine oN Tryz.func70 48 ?_;refine rV 16 17 12 5 ?_;refine rV 1 26 19 7 ?_;refine jq 2 ?_ ?_<;>intro h1
  .refine od 7 ?_;exact⟨_,rfl⟩
  refine vq 9 (ι:=Nat) (λi=>[(5,int i)]) [3,2] (λi=>i<=args.length) (λi=>args.length-i) (0) (ak _) ?_;rintro i j
  try dsimp only at j
  refine j7 10 ?_ ?_<;>intro h4
  .refine od 11 ?_;exact⟨_,rfl⟩
  obtain⟨V,W,Y,c⟩:=kj (show i<args.length by omega);obtain⟨z,C,F,e⟩:=kj (show i<U.length by omega);have H:=oA c;refine ma 5 [0,1,2] mixed ?_;refine pQ 3 oz oP ?_ (hat:=(lj c));refine ga [4,5,6,7] ?_;refine pQ 8 oz oP ?_ (hat:=(lj e));refine ga [9] ?_;refine A2 (T:=λ_=>False) 10 rfl (oK adl rfl rfl rfl rfl (I V W Y z C F O (w9 r c) (w9 x e)) (oq (oq .nil)) (λd hd=>?_));obtain⟨r2,rfl⟩:=hd;refine ga [11] ?_;refine iB<|jq 7 ?_ ?_<;>intro h7
  .refine od 11 ?_;exact⟨_,rfl⟩
  refine jS 5 ?_;refine qX 2 (i+1) ?_;exact⟨O,O⟩
theorem Dx:∀(n:Nat) (k:Int) (s:fB) (args:List iq),(iq.mk k s args).size<=n->XF (.mk k s args)->
 jA fC gl 143 [(iq.mk k s args).d] λd=> ∃r:Int,d=fD r:=by
 intro n
 induction n with
 |zero=>intro k s args h;simp[iq.size] at h
 |succ n z=>
  intro k s args C F;simp only[iq.size] at C;obtain⟨G,j⟩:=F;have q:=jn args;refine oN Tryz.func143 24 ?_;refine rF 19 ?_;refine xc (ι:=Unit) (λ_=>[(3,int (if k=1 then 1 else 0))]) [1] (λ_=>True) rfl ?_ ?_
  .refine j7 0 ?_ ?_<;>intro x
   .refine qX 1 (()) (by trivial) (hM:=by exact oL (j8 rfl (by exact Fit.of_eq (by simp only[x,if_true,if_false];rfl))))
   refine qX 3 (()) (by trivial) (hM:=by exact oL (j8 rfl (by exact Fit.of_eq (by simp only[x,if_true,if_false];rfl))))
  .rintro _ U
   try dsimp only at U
   refine vq 7 (ι:=Nat×Int) (λ⟨i,c⟩=>[(4,int i),(3,int c)]) [1] (λ⟨i,c⟩=>i<=args.length) (λ⟨i,c⟩=>args.length-i) ((0,if k=1 then 1 else 0)) (ak _) ?_;rintro⟨i,c⟩ e
   try dsimp only at e
   refine j7 10 ?_ ?_<;>intro M
   .refine od 12 ?_;exact⟨_,rfl⟩
   obtain⟨H,I,J,b⟩:=kj (show i<args.length by omega);have y:=oA b;refine ni 9 oz oP ?_ (hat:=(lj b));refine wE 1 (z H I J O (w9 j b)) λd hd=>?_;obtain⟨r,rfl⟩:=hd;refine o1 (EJ rfl rfl rfl ?_);refine jS 6 ?_;refine qX 2 (i+1,IntKind.i64.wrap (c+r)) ?_
   exact⟨O,show args.length-(i+1)<args.length-i by omega⟩
mutual
theorem FX:∀(l:iq) (ah:List fB),ah.length<=(l.params ah).length
 | .mk k s args,ah=>by
  simp only[iq.params];split
  .split<;>simp
  .exact yW args ah
theorem yW:∀(ls:List iq) (ah:List fB),ah.length<=(kP ls ah).length
 |[],ah=>by simp[kP]
 |l::r,ah=>by
  simp only[kP];exact aQ (FX l ah) (yW r _)
end
theorem Hf(l i c):(kP (l.take i) c).length<=(kP l c).length:=by
 have h:=yW (l.drop i) (kP (l.take i) c)
 rwa [<- yQ,dp] at h
theorem BA:∀(n:Nat) (k:Int) (s:fB) (args:List iq) (U:List fB),(iq.mk k s args).size<=n->XF (.mk k s args)->((iq.mk k s args).params U).length<=1000000->
 jT fC gl 100 [.row 9 1] [.d (iq.mk k s args).d,.own 0 1 (strs U)] λout ob'=>out=.ret (.own 0 1 (strs ((iq.mk k s args).params U)))/\ob'=[.row 9 1]:=by
 intro n
 induction n with
 |zero=>intro k s args U h;simp[iq.size] at h
 |succ n H=>
  intro k s args U I J c;simp only[iq.size] at I;have M:=FX (.mk k s args) U;obtain⟨R,q⟩:=J;have z:=jn args;have r:=jU U;have x:¬k=4->(kP args U).length<=1000000:=(λh=>by rw[iq.params,if_neg h] at c;exact c);refine nR Tryz.func100 37 1 ?_;refine jq 14 ?_ ?_<;>intro h1
  .refine ny 5 (tP s U O) ?_;refine j7 10 ?_ ?_<;>intro C
   .refine rF 10 ?_;refine fR<|pe ⟨_,_,rfl,rfl,rfl⟩ [0] (.own 0 1 (strs U)) ([.row 9 1]) rfl rfl rfl ?_ rfl ?_ ?_
    .repeat (first|exact nw|refine oT ?_)
    .exact .refl _
    .refine ⟨?_,rfl⟩;simp only[iq.params,if_pos (show k=4 by omega),C];rfl
   refine oR 4 Ar [.tmp 18] R7 ?_;refine oc (ya Ar ?_);refine rF 11 ?_;refine fR<|pe ⟨_,_,rfl,rfl,rfl⟩ [0] (.own 0 1 (strs (U++[s]))) ([.row 9 1]) rfl rfl rfl ?_ rfl ?_ ?_
   .repeat (first|exact nw|refine oT ?_)
   .exact Fit.of_eq (by rw[<- wG];rfl)
   .refine ⟨?_,rfl⟩;simp only[iq.params,if_pos (show k=4 by omega),C];rfl
  refine vq 9 (ι:=Nat) (λi=>[(6,int i),(1,.own 0 1 (strs (kP (args.take i) U)))]) [2] (λi=>i<=args.length) (λi=>args.length-i) (0) (ak _) ?_;rintro i e
  try dsimp only at e
  refine j7 10 ?_ ?_<;>intro h7
  .refine rF 12 ?_;refine fR<|pe ⟨_,_,rfl,rfl,rfl⟩ [0] (.own 0 1 (strs (kP (args.take i) U))) ([.row 9 1]) rfl rfl rfl ?_ rfl ?_ ?_
   .repeat (first|exact nw|refine oT ?_)
   .exact .refl _
   .refine ⟨?_,rfl⟩;simp only[iq.params,if_neg (show ¬k=4 by omega)];rw[aS O]
  obtain⟨S,V,W,b⟩:=kj (show i<args.length by omega);have F:=oA b;have Y:=Hf args (i+1) U;have G:=x O;refine ni 8 oz oP ?_ (hat:=(lj b));refine rF 2 ?_;refine oc (iX Nd rfl rfl rfl rfl (H S V W (kP (args.take i) U) O (w9 q b) (by rw[<- xK b];omega)) [0] (oT .nil) rfl rfl rfl rfl (oq (jw .nil)) (λs ob' j=>?_) (λs ob' j=>?_));rotate_left
  .first|exact j.elim|cases j.1
  obtain⟨y,rfl⟩:=j;cases y;rw[<- xK b];refine⟨_,_,_,_,_,rfl,rfl,rfl,rfl,rfl,?_⟩;refine jS 6 ?_;refine qX 2 (i+1) ?_;exact⟨O,O⟩
theorem KN(c h)(J:c.length<=h.length)(q:c.length<=281474976710656):∀x:jC,
 jA fC gl 144 [x.iT.d,nU c,ad5 h] λd=> ∃r:Int,d=fD r:=by
 have y:=jU c;have z:=qP h;intro x
 induction x with
 |zero=>
  refine oN Tryz.func144 69 ?_;refine Eo 20 ?_;refine od 8 ?_;exact⟨_,rfl⟩
 |succ a C=>
  refine oN Tryz.func144 69 ?_;refine vw 20 ?_;refine Eo 6 ?_;refine ni 4 oz oP ?_ (hat:=rfl);refine o1 (lda pC ?_ (hlen:=by exact(iq.xn _)));refine wE 2 C λd hd=>?_;obtain⟨r,rfl⟩:=hd
  refine o1 (EJ rfl rfl rfl ?_);refine od 6 ?_;exact⟨_,rfl⟩
 |param s=>
  refine oN Tryz.func144 69 ?_;refine vw 20 ?_;refine vw 6 ?_;refine Eo 6 ?_;refine vq 7 (ι:=Nat) (λi=>[(7,int i)]) [3,1,2] (λi=>i<=c.length) (λi=>c.length-i) (0) (ak _) ?_;rintro i e
  try dsimp only at e
  refine j7 9 ?_ ?_<;>intro M
  .refine od 13 ?_;exact⟨_,rfl⟩
  refine ma 5 [0,1] mixed ?_;refine pQ 2 yv Cs ?_ (hat:=by exact(u7 O));refine ga [3,4,5,6] ?_;refine iB<|j7 1 ?_ ?_<;>intro F
  .refine jS 5 ?_;refine qX 2 (i+1) ?_;exact⟨O,O⟩
  have G:i<h.length:=O;refine ni 4 u5 vM ?_ (hat:=by exact(AI O));refine od 12 ?_;exact⟨_,rfl⟩
 |max a b k U=>
  refine oN Tryz.func144 69 ?_;refine vw 20 ?_;refine vw 6 ?_;refine vw 6 ?_;refine ni 7 oz oP ?_ (hat:=rfl);refine o1 (lda pC ?_ (hlen:=by exact(iq.xn _)));refine wE 2 k λd hd=>?_;obtain⟨r,rfl⟩:=hd;refine ni 7 oz oP ?_ (hat:=rfl);refine o1 (lda pC ?_ (hlen:=by exact(iq.xn _)));refine wE 2 U λd hd=>?_;obtain⟨H,rfl⟩:=hd;refine rF 10 ?_;refine ov 60 false rfl Z<|tZ ?_ (hbw:=by exact rfl);refine tZ ?_ (hbw:=by exact rfl);refine o1 (sP ?_);refine vw 2 ?_;refine jq 10 ?_ ?_<;>intro j
  .refine od 8 ?_;exact⟨_,rfl⟩
  refine od 9 ?_;exact⟨_,rfl⟩
 |imax a b k U=>
  refine oN Tryz.func144 69 ?_;refine vw 20 ?_;refine vw 6 ?_;refine vw 6 ?_;refine ni 7 oz oP ?_ (hat:=rfl);refine o1 (lda pC ?_ (hlen:=by exact(iq.xn _)));refine wE 2 k λd hd=>?_;obtain⟨r,rfl⟩:=hd;refine ni 7 oz oP ?_ (hat:=rfl);refine o1 (lda pC ?_ (hlen:=by exact(iq.xn _)));refine wE 2 U λd hd=>?_;obtain⟨H,rfl⟩:=hd;refine rF 10 ?_;refine ov 60 true rfl Z<|uA ?_ (hbw:=by exact rfl);refine rF 1 ?_;refine uA ?_ (hbw:=by exact rfl);refine rF 1 ?_;refine o1 (oH ?_);refine jq 2 ?_ ?_<;>intro I
  .refine od 7 ?_;exact⟨_,rfl⟩
  refine jq 10 ?_ ?_<;>intro j
  .refine od 8 ?_;exact⟨_,rfl⟩
  refine od 9 ?_;exact⟨_,rfl⟩
theorem vd(a b:jC)(I:(a.ps b).length<=6):
 jA fC gl 114 [a.iT.d,b.iT.d] λd=> ∃r:Bool,d=fF r:=by
 have h:=a.oZ [];have c:=b.oZ (a.params []);have hpge:(a.params []).length<=(a.ps b).length:=uS b _;have hW:=λ(B:Int) k (x:jC)=>KN (gl:=gl) (a.ps b) (Hp B k (a.ps b).length) (by rw[MQ];exact ae _) O x
 have s:=λ(B:Int) k=>hW B k a
 have y:=λ(B:Int) k=>hW B k b
 have hsl:=jU (a.ps b);have j:=tT a;have q:=tT b;obtain⟨J,M,R,z⟩:=iq.case a.iT
 obtain⟨S,V,W,C⟩:=iq.case b.iT
 rw[z] at h s j;rw[C] at c y q;rw[z,C];have e:b.params (a.params [])=a.ps b:=rfl;rw[e] at c;have F:=BA (gl:=gl) _ J M R [] (ae _) j (by rw[h];omega);have G:=BA (gl:=gl) _ S V W (a.params []) (ae _) q (by rw[c];omega);rw[h] at F;rw[c] at G;have Y:=Dx (gl:=gl) _ J M R (ae _) j;have hs2:=Dx (gl:=gl) _ S V W (ae _) q;refine oN Tryz.func114 65 ?_;refine rF 8 ?_;refine iP 9 1 rfl<|ma 0 [0,1] mixed ?_;refine A2 2 rfl (ck Nd rfl rfl (F) [2] rfl (D3 .nil) (oq (.cons (.nil rfl) .nil)) ?_);refine A2 3 rfl (ck Nd rfl rfl (G) [2] rfl (oT .nil) (oq (jw .nil)) ?_);refine ga [4] ?_;refine iB<|ma 2 [0,3] mixed ?_;refine A2 (T:=λ_=>False) 1 rfl (oK Za rfl rfl rfl rfl (Y) (oq .nil) (λd hd=>?_));obtain⟨r1,rfl⟩:=hd;refine A1 2 rfl (EJ rfl rfl rfl ⟨_,rfl,?_⟩);refine A2 (T:=λ_=>False) 4 rfl (oK Za rfl rfl rfl rfl (hs2) (oq .nil) (λd hd=>?_));obtain⟨r2,rfl⟩:=hd;refine A1 5 rfl (EJ rfl rfl rfl ⟨_,rfl,?_⟩);refine ga [6] ?_;refine iB<|rF 2 ?_;generalize IntKind.i64.wrap (IntKind.i64.wrap (2+r1)+r2)=B;refine oR 2 DB [.const (.int .i64 0),.const (.int .i64 1),.tmp 24] NU ?_;refine vq 15 (ι:=Nat) (λi=>[(9,int i),(8,int (p3 i))]) [7,5,3,2] (λi=>i<=(a.ps b).length) (λi=>(a.ps b).length-i) (0) (ak _) ?_;rintro i U
 try dsimp only at U
 refine jq 9 ?_ ?_<;>intro h6
 .have hp3:=YX (i:=i) O;refine rF 6 ?_;refine o1 (Gt rfl rfl rfl O ?_);refine jS 6 ?_;refine qX 2 (i+1) ⟨O,O⟩ (hM:=by exact oL (iU (j8 rfl (by exact Fit.of_eq (by rw[Xq];rfl)))))
 have hi:i=(a.ps b).length:=O;subst hi;have hp3:=YX I;refine vq 12 (ι:=Nat) (λk=>[(10,int k)]) [8,7,5,3,2] (λk=>k<=p3 (a.ps b).length) (λk=>p3 (a.ps b).length-k) (0) (ak _) ?_;rintro k U
 try dsimp only at U
 refine j7 8 ?_ ?_<;>intro h10
 .refine od 11 ?_;exact⟨_,rfl⟩
 have H:=U;refine rF 22 ?_;refine iP 3 1 rfl<|pt 0 (ι:=Nat) (λi=>[(13,int i),(12,int (dv k i)),(11,.own 4 1 (ints (Hp B k i)))]) (λi=>[.cells [fE J,fI M,.d (.sl 3 (iR R))] 121,.cells [fE S,fI V,.d (.sl 3 (iR W))] 121,.row 9 1,.row 3 1,.row 3 1]) [10,8,7,5,3,2] (λi=>i<=(a.ps b).length) (λi=>(a.ps b).length-i) (0) ([0,1,2,3,4]) (ak _) ?_ (hM:=by exact oL (iU (yu rfl (by exact Fit.of_eq (by rw[Yf];rfl)) (yu rfl (by exact .nil rfl) (iU (iU (iU (iU (iU (iU rA))))))))));rintro i U
 try dsimp only at U
 refine jq 9 ?_ ?_<;>intro h15
 .have hil:=qP (Hp B k i);have hdl:=MQ B k i;have hk3:=adi k i;refine rF 9 ?_;refine o1 (Y3 ?_);refine o1 (Q4 u5 vM ?_ (he:=by exact(T9 B (dv k i))));refine oR 1 DB [.tmp 51] NU ?_;refine oc (ya DB ?_);refine rF 5 ?_;refine o1 (VK rfl rfl rfl O ?_);refine jS 6 ?_;refine ml 2 (i+1) ([0,1,2,3,4]) ⟨O,O⟩ (hM:=by exact oL (iU (yu rfl (by exact Fit.of_eq (by rw[Yg];rfl)) (yu rfl (by exact Fit.of_eq (by rw[Tf,<-Gg];rfl)) (iU (iU (iU (iU (iU (iU rA))))))))))
 have hi:i=(a.ps b).length:=O;subst hi;refine ma 6 [0,1,2,4,5,6] mixed ?_;refine A2 (T:=λ_=>False) 3 rfl (oK Y9 rfl rfl rfl rfl (s B k) (oq (oq (oq .nil))) (λd hd=>?_));obtain⟨q1,rfl⟩:=hd;refine A2 (T:=λ_=>False) 7 rfl (oK Y9 rfl rfl rfl rfl (y B k) (oq (oq (oq .nil))) (λd hd=>?_));obtain⟨q2,rfl⟩:=hd;refine ga [8] ?_;refine iB<|jq 1 ?_ ?_<;>intro h19
 .refine od 11 ?_;exact⟨_,rfl⟩
 refine jS 5 ?_;refine qX 2 (k+1) ?_;exact⟨O,O⟩
theorem Lh(a b:jC)(e:(a.ps b).length<=6)(c:(b.ps a).length<=6):
 jA fC gl 71 [a.iT.d,b.iT.d] λd=> ∃r:Bool,d=fF r:=by
 have h:=vd (gl:=gl) a b e;have i:=vd (gl:=gl) b a c;obtain⟨j,q,s,k⟩:=iq.case a.iT
 obtain⟨x,y,z,U⟩:=iq.case b.iT
 rw[k,U] at h i ⊢;refine oN Tryz.func71 17 ?_;refine wE 11 h λd hd=>?_;obtain⟨C,rfl⟩:=hd;refine wE 7 i λd hd=>?_;obtain⟨F,rfl⟩:=hd
 refine xP 7 15 14 1 ?_;refine od 4 ?_;exact⟨_,rfl⟩
theorem zj{e:List fB}(i:e.length<=6)(z:Int)(s:fB)(c:List iq)(j:qV e (.mk z s c)):
 jA fC gl 163 [(iq.mk z s c).d] λd=> ∃r:Bool,d=fF r:=by
 obtain⟨x,q,y,U⟩:=j;have b:=vd (gl:=gl) x .zero (Bt i U (λp h=>h.elim));rw[<- q] at b;refine oN Tryz.func163 6 ?_;refine rF 10 ?_;refine oc (T:=λ_=>False) (oK Zd rfl rfl rfl rfl (b) (oq (.cons (.Yh rfl (by repeat (first|exact .refl _|exact .nil|refine .agg ?_|refine .cons ?_ ?_))) .nil)) (λd hd=>?_));obtain⟨r,rfl⟩:=hd;refine od 4 ?_;exact⟨_,rfl⟩
theorem FL(i:e.length<=6)(z:Int)(s:fB)(c:List iq)(j:qV e (.mk z s c)):
 jA fC gl 164 [(iq.mk z s c).d] λd=> ∃r:Bool,d=fF r:=by
 obtain⟨x,q,y,U⟩:=j;have b:=vd (gl:=gl) (.succ .zero) x (Bt i (λp h=>h.elim) U);rw[<- q] at b;refine oN Tryz.func164 10 ?_;refine oR 9 tr [.tmp 4] pC ?_;refine rF 9 ?_;refine oc (T:=λ_=>False) (oK Zd rfl rfl rfl rfl (b) (.cons (.Yh rfl (by repeat (first|exact .refl _|exact .nil|refine .agg ?_|refine .sl ?_|refine .cons ?_ ?_))) (oq .nil)) (λd hd=>?_));obtain⟨r,rfl⟩:=hd;refine od 4 ?_;exact⟨_,rfl⟩
theorem DJ{gl:Nat->List D}(x:RD)(k n:Int)(s:fB)(y:List iq)(c:List ie)(m q:Int)(S:zX (.mk k n s y c))(hz:(ie.mk k n s y c).size<=1000000000)(hm:0<=m/\m<=1000000000)(hx:0<=x.ad/\x.ad<=1000000000)(hpl:x.pd.length<=1000000000)(R:0<=q/\q<=1000000000000):
 jA fC gl 170 [(ie.mk k n s y c).d,x.dec.d,fD m,fD q] λd=> ∃b:Bool,d=fF b/\(b=true->∃n' V ar,(ig (.mk k n s y c)).1=.mk 2 n' x.sd V ar/\((ig (.mk k n s y c)).2.length:Int)=x.ad+m/\∀(j:Nat) a,(j:Int)<x.ad->(ig (.mk k n s y c)).2[j]? =some a->∃s y ar,a=.mk 0 (q-1-j) s y ar):=by
 have H:=oW (gl:=gl) k n s y c S O;have z:=mQ _ (.mk k n s y c) (ae _);rcases hS:ig (.mk k n s y c) with⟨⟨kh,mh,sh,C,ah⟩,F⟩;rw[hS] at H z;simp only at z;have hsl:=iJ F;have hlh:=jn C;have W:=ir F;have Y:=jU x.pd;have hlz:C.length<=1000000000:=(by have:=xF C;simp only[ie.size] at z hz;omega);refine oN Tryz.func170 119 ?_;refine ny 10 H ?_;refine rV 15 27 22 5 ?_;refine' Cg 1 36 29 7 ?a2 ?_
 case a2=>
  intro G I;refine jS 5 ?_;refine rF 1 ?_;exact I [_,_,_,_,_,_,_] rfl rfl
 refine rV 1 45 38 7 ?_;refine jq 2 ?_ ?_<;>intro h2
 .refine od 7 ?_;exact⟨_,rfl,λh=>by cases h⟩
 refine vq 9 (ι:=Nat) (λi=>[(11,int i)]) [10,9,5,3] (λi=>i<=C.length) (λi=>C.length-i) (0) (ak _) ?_;rintro i r
 try dsimp only at r
 refine jq 10 ?_ ?_<;>intro h5
 .obtain ⟨k2,s2,a2,U⟩:=kj (show i<C.length by omega);refine ma 5 [0,1,2] mixed ?_;refine pQ 3 oz oP ?_ (hat:=(lj U));refine ga [4,5,6,7] ?_;refine asp 61 (λG=>?_) (λG=>?_)
  ·(try simp(decide:=true) only[lP] at G)
   refine A7 8 rfl ?_ (hlit:=gP);refine A7 9 rfl ?_ (hlit:=gP);refine A7 10 rfl ?_ (hlit:=gP);refine A7 11 rfl ?_ (hlit:=gP);refine A7 12 rfl ?_ (hlit:=gP);refine A7 13 rfl ?_ (hlit:=gP);refine A7 14 rfl ?_ (hlit:=gP);refine A7 15 rfl ?_ (hlit:=gP);refine A7 16 rfl ?_ (hlit:=gP);refine A7 17 rfl ?_ (hlit:=gP);refine A7 18 rfl ?_ (hlit:=gP);refine A7 19 rfl ?_ (hlit:=gP);refine A1 20 rfl (oH ⟨_,rfl,?_⟩);refine iB<|Eo 1 ?_;refine od 11 ?_;exact⟨_,rfl,λh=>by cases h⟩
  (try simp(decide:=true) only[lP] at G);refine A6 8 rfl (fdb jz ⟨_,rfl,?_⟩);refine A6 9 rfl (Hg W6 ⟨_,rfl,?_⟩);refine A6 10 rfl (mv ⟨_,rfl,?_⟩);refine A6 11 rfl (ixs oz oP ⟨_,rfl,?_⟩ (he:=by exact(lj U)));refine A6 12 rfl (WL pC ⟨_,rfl,?_⟩);refine A6 13 rfl (Vi R7 ⟨_,rfl,?_⟩);refine A6 14 rfl (fdb R8 ⟨_,rfl,?_⟩);refine A6 15 rfl (Hg T7 ⟨_,rfl,?_⟩);refine A6 16 rfl (mv ⟨_,rfl,?_⟩);refine A6 17 rfl (ixs yv Cs ⟨_,rfl,?_⟩ (he:=by exact(u7 (show i<x.pd.length by omega))));refine A6 18 rfl (Vi R7 ⟨_,rfl,?_⟩);refine A6 19 rfl (sne ⟨_,rfl,?_⟩);refine A1 20 rfl (sP ⟨_,rfl,?_⟩);refine iB<|jq 1 ?_ ?_<;>intro h7
  .refine od 11 ?_;exact⟨_,rfl,λh=>by cases h⟩
  refine jS 5 ?_;refine qX 2 (i+1) ?_;exact⟨O,O⟩
 refine vq 12 (ι:=Nat) (λi=>[(12,int i)]) [10,5,3] (λi=>i<=F.length/\∀(j:Nat) a,j<i->(j:Int)<x.ad->F[j]? =some a->∃s y ar,a=.mk 0 (q-1-j) s y ar) (λi=>F.length-i) (0) ⟨ak _,λj a h=>absurd h (cT _)⟩ ?_;rintro i r
 try dsimp only at r
 obtain⟨hi1,J⟩:=r;refine j7 9 ?_ ?_<;>intro h10
 .refine od 11 ?_;refine⟨_,rfl,λ_=>?_⟩;exact⟨mh,C,ah,by rw[show kh=2 by omega,show sh=x.sd by exact h2.1.1.2],by simp only;omega,λj a R e=>J j a (by have:=(aJ.1 e).1;omega) R e⟩
 obtain⟨k3,n3,s3,l3,a3,U⟩:=iZ (show i<F.length by omega);have hg3:=iO U;have M:=uQ (gl:=gl) x.sd _ k3 n3 s3 l3 a3 (ae _) O;refine' DM 12 103 85 18 ?a4 ?_
 case a4=>
  intro G I;refine ni 2 iQ iY ?_ (hat:=(jr U));refine' Cg 4 102 92 10 ?a5 ?_
  case a5=>
   intro G I;refine ni 2 iQ iY ?_ (hat:=(jr U));refine sH 3 ?_;refine sH 1 ?_;refine rF 1 ?_;exact I [_,_,_,_,_,_,_,_,_,_] rfl rfl
  exact I [_,_,_,_,_,_,_,_] rfl rfl
 refine jq 2 ?_ ?_<;>intro h12
 .refine od 12 ?_;exact⟨_,rfl,λh=>by cases h⟩
 refine ma 3 [0,1] mixed ?_;refine pQ 2 iQ iY ?_ (hat:=(jr U));refine ga [3,4,5] ?_;refine qB 6 M ?_;refine ga [7] ?_;refine iB<|xP 8 117 116 1 ?_;refine jq 2 ?_ ?_<;>intro h15
 .refine od 11 ?_;exact⟨_,rfl,λh=>by cases h⟩
 refine jS 5 ?_;refine qX 2 (i+1) ?_
 .refine ⟨⟨O,λj a h R e=>?_⟩,O⟩;rcases bV j i with h'|h'
  .exact J j a h' R e
  .obtain rfl:j=i:=O;rw[U] at e;cases e;exact⟨s3,l3,a3,by rw[show k3=0 by omega,show n3=q-1-(j:Int) by omega]⟩
def pE(c:List mJ):Ob:=.cells [.own 1 15 (ui c),.map 2] 98
def dR:Ob:=.row 61 15
theorem LR:jT fC c 21 [] [] λout ob'=>out=.ret (.jk 0 0)/\ob'=[pE [],dR,.jK λ_=>none]:=by
 refine nR Tryz.func21 4 0 ?_;refine rF 6 ?_;refine iP 61 15 rfl<|rF 1 ?_;refine oc (T:=λ_=>False) (LG rfl rfl rfl (by simp only[aj,aH,Nat.reduceAdd];rfl) rfl ?_);refine rF 6 ?_;refine fR<|pe ⟨_,_,rfl,rfl,rfl⟩ [2,0,1] (.jk 0 0) ([pE [],dR,.jK λ_=>none]) rfl rfl rfl ?_ rfl ?_ ?_
 .repeat (first|exact nw|exact C9|refine rl ?_|refine D3 ?_|refine Ky ?_ ?_|refine jw ?_|refine .cons (.nil rfl) ?_)
 .exact .refl _
 .exact ⟨rfl,rfl⟩
theorem Th(c:List mJ)(x:RD):ui (c++[x.dec])=ui c++[[fD x.kd,fG x.sd,.sl 1 (strs x.pd),fD x.k1,fD x.n1,fG x.s1,.sl 3 (iR x.l1),.sl 5 (im x.a1),fD x.k2,fD x.n2,fG x.s2,.sl 3 (iR x.l2),.sl 5 (im x.a2),fD x.ad,.sl 6 (qW x.cd)]]:=by
 rw[MU];rfl
theorem IV{e:mJ}{c:fB×ie}:∀{l:List (fB×ie)} {i:Nat} {f:fB->Option D},zc e i (l++[c]) f=Bb (zc e i l f) c.1 (Dj 3 e e.ps c.2 ((i+l.length:Nat):Int))
 |[],i,f=>rfl
 |a::r,i,f=>by
  rw[eN,zc,IV,zc,aj,show i+1+r.length=i+(r.length+1) by omega]
theorem Tn{d:mJ}{l:List (fB×ie)}{i:Nat}{f:fB->Option D}(h:l[i]? =some c):zc d 0 (l.take (i+1)) f=Bb (zc d 0 (l.take i) f) c.1 (Dj 3 d d.ps c.2 i):=by
 have b:=(aJ.1 h).1;rw[bo,h];show zc d 0 (l.take i++[c]) f=_;rw[IV,bj,b8 O,bU]
theorem UI{e:fB->Option D}{x:RD}{c:List fB}{t:ie}(h:¬x.kd=3):Fq e ⟨x.dec,c,t⟩=Ks e x.dec:=if_neg h
theorem UH{f:fB->Option D}{x:RD}{c:List fB}{t:ie}(h:x.kd=3):Fq f ⟨x.dec,c,t⟩=Bb (zc x.dec 0 x.cd (Ks f x.dec)) (x.sd++CK) (Dj 4 x.dec c t 0):=if_pos h
set_option maxHeartbeats 1600000 in
theorem Sm{gl:Nat->List D}(e:List mJ)(f:fB->Option D)(x:RD)(F:x.kd=1\/x.kd=2\/x.kd=3)(G:x.sd.size<=1000000)(H:e.length<=1000000)(z:x.cd.length<=1000000)(r:List fB)(k n:Int)(s:fB)(q:List iq)(c:List ie):
 jT fC gl 80 [pE e,dR,.jK f] [.jk 0 0,.d x.dec.d,.d (nU r),.d (ie.mk k n s q c).d] λout ob'=>out=.ret (.d (.jj []))/\ob'=[pE (e++[x.dec]),dR,.jK (Fq f ⟨x.dec,r,.mk k n s q c⟩)]:=by
 have C:=GI e;have I:=sZ x.cd;have U:([[D.v (.int .i64 0)],[fD 0],[fD 1],[fD 2]]:List (List D))[(x.kd).toNat]? =some [fD (x.kd-1)]:=by
  rcases F with h|h|h<;>rw[h]<;>rfl
 refine nR Tryz.func80 73 3 ?_;refine ma 7 [0,1,2,3,4,5] mixed ?_;refine A2 6 rfl (CW Xf [.tmp 15] R8 ?_);refine A2 7 rfl (ya Xf ?_);refine ga [8,9] ?_;refine nO 10 ?_;refine iB<|rF 2 ?_;rw[<- Th e x];refine Lc 3 rfl rfl rfl rfl rfl rfl ?_;refine ma 0 [0,1,2,3,4,5,7,8,11,12,13,14] mixed ?_;refine A2 6 rfl (CW acs [.const (.int .i64 0),.const (.int .i64 0),.const (.int .i64 1),.const (.int .i64 2)] KV ?_);refine A1 9 rfl (Q4 ac6 acn ⟨_,rfl,?_⟩ (he:=by exact(U)));refine ga [10,15] ?_;refine A2 (T:=λ_=>False) 16 rfl (JV Ab rfl rfl rfl rfl rfl (by simp only[aj,aH,Nat.reduceAdd];rfl) rfl rfl rfl rfl rfl rfl ?_);refine A2 17 rfl (Ax LU rfl rfl rfl rfl rfl rfl rfl rfl ?_);refine iB<|jq 9 ?_ ?_<;>intro J
 .refine rF 2 ?_;refine fR<|pc (l:=[]) rfl rfl (.jj []) (by exact .refl _) ([0,1,2]) ([pE (e++[x.dec]),dR,.jK (Ks f x.dec)]) rfl rfl rfl ?_ ?_
  .repeat (first|exact nw|refine jN ?_|refine oT ?_|refine rl ?_)
  .refine ⟨rfl,?_⟩;rw[UI J]
 refine pt 12 (ι:=Nat) (λi=>[(43,int i)]) (λi=>[pE (e++[x.dec]),dR,.jK (zc x.dec 0 (x.cd.take i) (Ks f x.dec)),.dead,tO k n s q c]) [42,41,7,5,0,2] (λi=>i<=x.cd.length) (λi=>x.cd.length-i) (0) ([0,1,2,3,4]) ?I1 ?H1 (hM:= ?M1)
 case I1=>
  exact ak _
 case M1=>
  refine mo ?_ (iU (iU (iU (iU (iU (iU (iU rA)))))))
  repeat (first|exact nw|refine jN ?_|refine oT ?_|refine rl ?_|refine bod ?_)
 case H1=>
  rintro i j
  try dsimp only at j
  refine j7 6 ?_ ?_<;>intro M
  .refine ma 5 [0,1,2,3,4,5] mixed ?_;refine A1 6 rfl (Dd ⟨_,rfl,?_⟩ (hb:=by(try simp only[db,zv,dh,aj,aH]);omega));refine ga [7,8,9] ?_;refine A2 (T:=λ_=>False) 10 rfl (JV Ab rfl rfl rfl rfl rfl (by simp only[aj,aH,Nat.reduceAdd];rfl) rfl rfl rfl rfl rfl rfl ?_);refine A2 11 rfl (Ax LU rfl rfl rfl rfl rfl rfl rfl rfl ?_);refine iB<|fN ?_;refine pc (l:=[]) rfl rfl (.jj []) (by exact .refl _) ([0,1,2]) ([pE (e++[x.dec]),dR,.jK (Bb (zc x.dec 0 (x.cd.take i) (Ks f x.dec)) (x.sd++CK) (Dj 4 x.dec r (.mk k n s q c) 0))]) rfl rfl rfl ?_ ?_
   .repeat (first|exact nw|refine jN ?_|refine oT ?_|refine rl ?_)
   .refine ⟨rfl,?_⟩;rw[UH O,aS O]
  obtain⟨R,S,V,W,Y,cA,b⟩:=zT (show i<x.cd.length by omega);have y:=Tn (d:=x.dec) (f:=Ks f x.dec) b;refine ni 7 G4 Jt ?_ (hat:=(x8 b));refine ma 6 [0,1,2,3,4,5,6,7,8,9,10,11] mixed ?_;refine A2 (T:=λ_=>False) 12 rfl (JV Ab rfl rfl rfl rfl rfl (by simp only[aj,aH,Nat.reduceAdd];rfl) rfl rfl rfl rfl rfl rfl ?_);refine A2 13 rfl (Ax LU rfl rfl rfl rfl rfl rfl rfl rfl ?_);refine iB<|jS 3 ?_;refine rF 2 ?_;refine bk (i+1) rfl ?_ ([0,1,2,3,4]) ?_
  .exact ⟨O,O⟩
  .refine mo ?_ (iU (iU (iU (iU (iU (iU (iU rA)))))))
   repeat (first|exact nw|refine jN ?_|refine ae8 y ?_|refine oT ?_|refine bod ?_)
def zd(c e:List ie)(i:Nat):List ie:=if i=0 then[] else if i=1 then c else c++e
theorem Dn(c e)(h:i<2):zd c e (i+1)=zd c e i++(if i=0 then c else e):=by
 have:i=0\/i=1:=O;rcases this with rfl|rfl<;>simp[zd]
theorem QS(c e)(h:i<2):([[D.sl 5 (im c)],[D.sl 5 (im e)]]:List (List D))[((i:Nat):Int).toNat]? =some [.sl 5 (im (if i=0 then c else e))]:=by
 have:i=0\/i=1:=O;rcases this with rfl|rfl<;>rfl
theorem MY(c e)(J:c.length<=549755813888)(M:e.length<=549755813888):
 jA fC gl 138 [.sl 1 [[.sl 5 (im c)],[.sl 5 (im e)]]] (· =.sl 5 (im (c++e))):=by
 have h:∀i,i<=2->(zd c e i).length<=1099511627776:=λi R=>by
  unfold zd;split
  .simp
  .split
   .omega
   .rw [aN];omega
 have F:=h 2 (ae _);have x:zd c e 2=c++e:=rfl;have k:([[D.sl 5 (im c)],[D.sl 5 (im e)]]:List (List D)).length=2:=rfl;generalize z:([[D.sl 5 (im c)],[D.sl 5 (im e)]]:List (List D))=L at k;refine oN Tryz.func138 36 ?_;refine vq 19 (ι:=Nat) (λi=>[(3,int (zd c e i).length),(11,int i)]) [10,9,0] (λi=>i<=2) (λi=>2-i) (0) (ak _) ?_;rintro i b
 try dsimp only at b
 refine jq 6 ?_ ?_<;>intro S
 .have q:i<2:=O;have y:=h i O;have r:=h (i+1) O;have s:((zd c e (i+1)).length:Int)=(zd c e i).length+(im (if i=0 then c else e)).length:=(by rw[Dn c e q,aN,ir];omega);have hat:L[((i:Nat):Int).toNat]? =some [.sl 5 (im (if i=0 then c else e))]:=(by rw[<- z];exact QS c e q);refine ni 6 TV YQ ?_ (hat:=hat);refine jS 9 ?_;refine jq 9 ?_ ?_<;>intro V
  .contradiction
  refine jS 4 ?_;refine qX 2 (i+1) ⟨O,O⟩ (hM:=by exact oL (j8 rfl (by exact Fit.of_eq (by show SV.d (D.v (Value.int .i64 _))=SV.d (D.v (Value.int .i64 _));congr 3;omega))))
 obtain rfl:i=2:=O;refine nC 8 (SS (zd c e 2).length F) [] ?_;refine LC 0 24 rfl rfl rfl rfl rfl ?_;refine pt 12 (ι:=Nat) (λj=>[(6,.own 0 5 (im (zd c e j))),(27,int j)]) (λj=>[.row 39 5]) [26,25] (λj=>j<=2) (λj=>2-j) (0) ([0]) (ak _) ?_;rintro j b
 try dsimp only at b
 refine j7 6 ?_ ?_<;>intro G
 .obtain rfl:j=2:=O;refine v8 12 (.sl 5 (im (zd c e 2))) ?_;rw[x]
 have U:j<2:=O;have y:=h j O;have r:=h (j+1) O;have H:=ir (zd c e j);have C:=ir (if j=0 then c else e);have I:(zd c e (j+1)).length=(zd c e j).length+(if j=0 then c else e).length:=(by rw[Dn c e U,aN]);have s:im (zd c e j)++im (if j=0 then c else e)=im (zd c e (j+1)):=(by rw[Dn c e U,ll]);have hat:L[((j:Nat):Int).toNat]? =some [.sl 5 (im (if j=0 then c else e))]:=(by rw[<- z];exact QS c e U);refine ni 6 TV YQ ?_ (hat:=hat);refine rF 7 ?_;refine oc (px mN rfl rfl rfl (.inl rfl) rfl rfl rfl (.inl rfl) Z (by(simp only[maxLen];omega)) rfl rfl rfl ?_);refine jS 5 ?_;refine rF 2 ?_;rw[s];refine ml 0 (j+1) [0] ?_;exact⟨O,O⟩
def mO(h e:Nat)(c:Int):Ob:=.cells [.jk 0 0,.d (.v (.int .i64 h)),.d (.v (.int .i64 e)),.d (.v (.int .i64 c))] 91
def jv(e:List iI)(i c:Nat)(h:Int):List Ob:=[pE (e.map (·.d)),dR,.jK (o7 e),mO i c h]
def Co:D:=.uU 133 (.agg [])
theorem xQ(e q c h)(j:c<=1099511627776):
 jT fC i 108 (jv e q c h) [.jk 3 0] λout ob'=>(q<c/\out=.ret (.d (.jj []))/\ob'=jv e (q+1) c h)\/(c<=q/\out=.vk (.d Co)/\ob'=jv e q c h):=by
 unfold jv;refine nR Tryz.func108 20 4 ?_;refine ma 2 [0,1,2,3,4,5,6,7,8] mixed ?_;refine iB<|jq 1 ?_ ?_<;>intro b
 .refine rF 2 ?_;refine o1 (Pq gN rfl rfl rfl ?_);refine oc (T:=λ_=>False) (Xy ?_);refine ss ([0,1,2,3]) (jv e q c h) rfl rfl rfl (by repeat (first|exact nw|refine jN ?_|refine oT ?_|refine rl ?_)) ?_;exact .inr ⟨O,rfl,rfl⟩
 refine jS 7 ?_;refine rF 4 ?_;refine fM ?_;refine pc (l:=[]) rfl rfl (.jj []) (by exact .refl _) ([0,1,2,3]) (jv e (q+1) c h) rfl rfl rfl ?_ ?_
 .repeat (first|exact nw|refine jN ?_|refine oT ?_|refine rl ?_)
 .exact .inl ⟨O,rfl,rfl⟩
end
theorem rK(i:¬ie.kd h=3)(c):ig (iF h c)=(h,c):=by
 suffices key:∀(n:Nat) (c:List ie),c.length=n->ig (iF h c)=(h,c) from key _ c rfl
 intro n
 induction n with
 |zero=>
  intro c b;obtain rfl:=ch b;obtain⟨k,m,s,ls,args,rfl⟩:=ie.case h
  exact oE i
 |succ n j=>
  intro c b;obtain⟨U,y,rfl⟩:∃U y,c=U++[y]:=⟨c.dropLast,c.getLast (by intro e;rw[e] at b;cases b),(eM _).symm⟩;rw[qR,qv,j U (by simpa using b)]
theorem Dr(c a e):iF c (a++e)=iF (iF c a) e:=by unfold iF;rw[eg]
theorem Wt.Qw{e:Sg}{i:List fB}{c:Int}:∀{az:List ie} {h:ie},Wt e i (iF h az) c->Wt e i h c/\∀x∈az,Wt e i x c
 |[],h,hw=>⟨hw,λx hx=>by cases hx⟩
 |a::r,h,hw=>by
  obtain⟨U,j⟩:=Wt.Qw (az:=r) (h:=.mk 3 0 .empty [] [h,a]) hw;obtain⟨q,s,b,_,_,_,ha,k⟩:=U.two (.inl rfl);cases b;rw[if_pos rfl] at k;exact⟨ha,λx hx=>by rcases bh.1 hx with rfl|hx;exact k;exact j x hx⟩
theorem abe(h:RW e c n t s o)(i:ig t=(.mk 4 0 .empty [] [A,x],a::r)):∃q,n=q+1/\Bh c s (RW e c q) (iF (jJ x a) r) (jJ x a) o:=by
 cases n with
 |zero=>exact h.elim
 |succ n=>
  refine⟨n,rfl,?_⟩;unfold RW at h;rw[i] at h;rcases h with⟨_,_,_,_,k,U,j⟩|⟨_,_,_,k,_⟩|⟨_,_,_,_,k,_⟩|⟨_,_,_,_,_,k,_⟩|⟨k,_⟩
  .cases k;cases U;exact j
  .cases k
  .cases k
  .cases k
  .exact absurd ⟨rfl,by simp⟩ k.1
theorem abd(h:RW e c n t r o)(j:ig t=(.mk 6 0 .empty [] [A,v,s],i)):∃q,n=q+1/\Bh c r (RW e c q) (iF (jJ s v) i) (jJ s v) o:=by
 cases n with
 |zero=>exact h.elim
 |succ n=>
  refine⟨n,rfl,?_⟩;unfold RW at h;rw[j] at h;rcases h with⟨_,_,_,_,k,_⟩|⟨_,_,_,k,U⟩|⟨_,_,_,_,k,_⟩|⟨_,_,_,_,_,k,_⟩|⟨k,_⟩
  .cases k
  .cases k;exact U
  .cases k
  .cases k
  .exact absurd rfl k.2.1
theorem abf(h:RW x c n t F o)(z:ig t=(.mk 2 0 s i [],y))(r:iw s x=(2,e,j))(C:e.d.ps.length=i.length):∃q,n=q+1/\Bh c F (RW x c q) (iF (ld e.d.ps i e.d.vl) y) (ld e.d.ps i e.d.vl) o:=by
 cases n with
 |zero=>exact h.elim
 |succ n=>
  refine⟨n,rfl,?_⟩;unfold RW at h;rw[z] at h;rcases h with⟨_,_,_,_,b,_⟩|⟨_,_,_,b,_⟩|⟨_,_,_,_,b,k,_,U⟩|⟨_,_,_,_,_,b,k,_⟩|⟨b,_⟩
  .cases b
  .cases b
  .cases b;rw[r] at k;cases k;exact U
  .cases b;rw[r] at k;cases k
  .exact absurd ⟨by rw[r],by rw[r];exact C⟩ (b.2.2 _ _ rfl).1
theorem abc(h:RW i c n t G o)(z:ig t=(.mk 2 0 s x [],y))(r:iw s i=(5,e,j))(C:e.rp.length=x.length):∃q io,n=q+1/\RI i c (RW i c q) e (.mk 2 0 s x []) y G io/\Tb (RW i c q) t o io:=by
 cases n with
 |zero=>exact h.elim
 |succ n=>
  unfold RW at h;rw[z] at h;rcases h with⟨_,_,_,_,b,_⟩|⟨_,_,_,b,_⟩|⟨_,_,_,_,b,k,_⟩|⟨_,_,_,_,io,b,k,_,U,F⟩|⟨b,_⟩
  .cases b
  .cases b
  .cases b;rw[r] at k;cases k
  .cases b;rw[r] at k;cases k;exact⟨n,io,rfl,U,F⟩
  .exact absurd ⟨by rw[r],by rw[r];exact C⟩ (b.2.2 _ _ rfl).2
theorem Np(h:RW i e n t s o)(r:ig t=(q,j))(c:wk i q j):o=.ok t s:=by
 cases n with
 |zero=>exact h.elim
 |succ n=>
  unfold RW at h;rw[r] at h;rcases h with⟨_,_,_,_,b,k,_⟩|⟨_,_,_,b,_⟩|⟨_,_,_,_,b,k,U,_⟩|⟨_,_,_,_,_,b,k,U,_⟩|⟨_,b⟩
  .subst b k;exact absurd ⟨rfl,by simp⟩ c.1
  .subst b;exact absurd rfl c.2.1
  .subst b;exact absurd ⟨by rw[k],by rw[k];exact U⟩ (c.2.2 _ _ rfl).1
  .subst b;exact absurd ⟨by rw[k],by rw[k];exact U⟩ (c.2.2 _ _ rfl).2
  .exact b
theorem AD(z:nS i)(q):(o7 i q=none/\(iw q i).1=0)\/∃(w:Int) (d:mJ) (ps:List fB) (ty:ie) (num:Int) (e:iI) (j:Nat) (k:Int),o7 i q=some (Dj w d ps ty num)/\iw q i=(k,e,j)/\w=k-1/\d=e.d/\
 (k=2->ps=e.d.ps)/\(k=5->ps=e.rp)/\(k=4->ps=e.d.ps/\num=j/\∃r,e.d.cs[j]? =some (r,ty)):=by
 rw[z.look];unfold yd;rcases C:iw q i with⟨k,e,j⟩;simp only;by_cases s:k=0
 .rw [if_pos s];exact .inl ⟨rfl,s⟩
 .rw [if_neg s];right;by_cases b:k=4
  .rw [if_pos b];have x:(iw q i).1=4:=by rw[C];exact b
   obtain⟨c,U,_⟩:=vt (λe F G=>by rcases(z.ok.AZ e F).k with g|g|g<;>omega) x;rw[C] at U;simp only at U;rw[U];exact⟨3,_,_,_,_,e,j,k,rfl,rfl,O,rfl,λ_=>rfl,λh=>O,λ_=>⟨rfl,rfl,c.1,U⟩⟩
  .rw [if_neg b];by_cases y:k=5
   .rw [if_pos y];exact⟨4,_,_,_,_,e,j,k,rfl,rfl,O,rfl,λh=>O,λ_=>rfl,λh=>absurd h b⟩
   .rw [if_neg y];exact⟨k-1,_,_,_,_,e,j,k,rfl,rfl,rfl,rfl,λ_=>rfl,λh=>absurd h y,λh=>absurd h b⟩
def Ag:ie->Option Nat
 | .mk k _ _ _ [f,_]=>if k=3 then(Ag f).map (· +1) else if k=2 then some 0 else none
 | .mk k _ _ _ _=>if k=2 then some 0 else none
def Kg:ie->Option Nat
 | .mk k n s ls [a,b]=>if k=5 then Kg b else Ag (.mk k n s ls [a,b])
 | .mk k n s ls args=>Ag (.mk k n s ls args)
theorem Pb(h:¬j=3):Ag (.mk j n s i e)=if j=2 then some 0 else none:=by
 match e with
 |[a,b]=>rw[Ag,if_neg h]
 |[]=>rfl
 |[a]=>rfl
 |a::b::c::r=>rfl
theorem Pc(h:¬j=5):Kg (.mk j n s i e)=Ag (.mk j n s i e):=by
 match e with
 |[a,b]=>rw[Kg,if_neg h]
 |[]=>rfl
 |[a]=>rfl
 |a::b::c::r=>rfl
theorem IF:∀(n:Nat) (t:ie),t.size<=n->(∀ m,Ag t=some m->(ig t).2.length=m/\ie.kd (ig t).1=2)/\(ie.kd (ig t).1=2->Ag t=some (ig t).2.length):=by
 intro n
 induction n with
 |zero=>intro t h;obtain⟨k,m,s,ls,args,rfl⟩:=ie.case t;simp[ie.size] at h
 |succ n j=>
  intro t h;obtain⟨k,m,s,ls,args,rfl⟩:=ie.case t
  by_cases e:k=3
  .subst e
   match args with
   |[f,a]=>
    simp only[ie.size,ij] at h;obtain⟨x,i⟩:=j f O;rw[qv,Ag,if_pos rfl];refine⟨λm U=>?_,λU=>?_⟩
    .obtain ⟨q,y,rfl⟩:=bO.1 U;obtain⟨z,C⟩:=x q y;exact⟨by simp[z],C⟩
    .rw [i U];simp
   |[]=>exact⟨λm U=>by simp[Ag] at U,λU=>by simp[ig,ie.kd] at U⟩
   |[a]=>exact⟨λm U=>by simp[Ag] at U,λU=>by simp[ig,ie.kd] at U⟩
   |a::b::c::r=>exact⟨λm U=>by simp[Ag] at U,λU=>by simp[ig,ie.kd] at U⟩
  .rw [oE e,Pb e];refine⟨λm U=>?_,λU=>?_⟩
   .split at U
    .rename_i i;cases U;exact⟨rfl,i⟩
    .cases U
   .rw [if_pos (show k=2 from U)];rfl
theorem Q8:∀(n:Nat) (t:ie),t.size<=n->Kg t=Ag (jQ (iv t) t):=by
 intro n
 induction n with
 |zero=>intro t h;obtain⟨k,m,s,ls,args,rfl⟩:=ie.case t;simp[ie.size] at h
 |succ n e=>
  intro t h;obtain⟨k,m,s,ls,args,rfl⟩:=ie.case t
  by_cases U:k=5
  .match args with
   |[a,b]=>
    simp only[ie.size,ij] at h;rw[Kg,if_pos U,iv,if_pos U,jQ];exact e b O
   |[]=>rfl
   |[a]=>rfl
   |a::b::c::r=>rfl
  .rw [Pc U,zy U];rfl
theorem Z9:∀(n:Nat) (t:ie) (d:Int),t.size<=n->(∀ m,Ag t=some m->Ag (ju F t d)=some m/\¬ie.kd (ju F t d)=5)/\(∀ m,Kg t=some m->Kg (ju F t d)=some m/\iv (ju F t d)=iv t):=by
 intro n
 induction n with
 |zero=>intro t d h;obtain⟨k,m,s,ls,args,rfl⟩:=ie.case t;simp[ie.size] at h
 |succ n x=>
  intro t d h;obtain⟨k,m,s,ls,args,rfl⟩:=ie.case t
  have key:∀q,Ag (.mk k m s ls args)=some q->Ag (ju F (.mk k m s ls args) d)=some q/\¬ie.kd (ju F (.mk k m s ls args) d)=5:=by
   intro q U;by_cases e:k=3
   .subst e
    match args,U with
    |[f,a],U=>
     simp only[ie.size,ij] at h;rw[Ag,if_pos rfl] at U;obtain⟨r,z,rfl⟩:=bO.1 U;rw[ju,if_neg Z];refine⟨?_,by simp[ie.kd]⟩;show Ag (.mk 3 m s ls [_,_])=_;rw[Ag,if_pos rfl,((x f _ O).1 r z).1];rfl
    |[],U=>simp[Ag] at U
    |[a],U=>simp[Ag] at U
    |a::b::c::r,U=>simp[Ag] at U
   .rw [Pb e] at U;split at U
    .rename_i C;subst C;rw[ju,if_neg Z,Pb Z];exact⟨by rw[if_pos rfl];exact U,by simp[ie.kd]⟩
    .cases U
  refine⟨key,λq U=>?_⟩;by_cases e:k=5
  .subst e
   match args,U with
   |[a,b],U=>
    simp only[ie.size,ij] at h;rw[Kg,if_pos rfl] at U;rw[ju,if_neg Z];show Kg (.mk 5 m s ls [_,_])=_/\iv (.mk 5 m s ls [_,_])=_;rw[Kg,if_pos rfl,iv,if_pos rfl,iv,if_pos rfl];obtain⟨j,i⟩:=(x b (if (decide ((4:Int)<=5)&&([]:List ie).isEmpty)=true then d+1 else d) O).2 q U;exact⟨j,by rw[<- i]⟩
   |[],U=>simp[Kg,Ag] at U
   |[a],U=>simp[Kg,Ag] at U
   |a::b::c::r,U=>simp[Kg,Ag] at U
  .rw [Pc e] at U;obtain⟨j,i⟩:=key q U;rw[zy e];obtain⟨y,H,I,J,M,G⟩:=ie.case (ju F (.mk k m s ls args) d)
   rw[G] at j i ⊢;exact⟨(Pc (show ¬y=5 from i)).trans j,zy (show ¬y=5 from i)⟩
theorem Z8(e i):∀(n:Nat) (t:ie),t.size<=n->Ag (ld e i t)=Ag t/\Kg (ld e i t)=Kg t:=by
 intro n
 induction n with
 |zero=>intro t h;obtain⟨k,m,s,ls,args,rfl⟩:=ie.case t;simp[ie.size] at h
 |succ n U=>
  intro t h;obtain⟨k,m,s,ls,args,rfl⟩:=ie.case t
  match args with
  |[a,b]=>
   simp only[ie.size,ij] at h;simp only[ld,lZ,Ag,Kg];rw[(U a O).1,(U b O).2];exact⟨rfl,rfl⟩
  |[]=>simp[ld,lZ,Ag,Kg]
  |[a]=>simp[ld,lZ,Ag,Kg]
  |a::b::c::r=>simp[ld,lZ,Ag,Kg]
mutual
theorem Kh(nm:fB)(ps:List fB)(us:List iq):∀(t:ie) (d:Int),nP (rW nm) (ld ps us t) d=nP (rW nm) t d
 | .mk k n s ls args,d=>by
  simp only[ld,nP];rw[Ms nm ps us args];rfl
theorem Ms(nm:fB)(ps:List fB)(us:List iq):∀(l:List ie) (b:Bool) (d:Int),rZ (rW nm) b (lZ ps us l) d=rZ (rW nm) b l d
 |[],b,d=>by simp[lZ,rZ]
 |t::r,b,d=>by
  simp only[lZ,rZ];rw[Kh nm ps us t,Ms nm ps us r];cases r<;>simp[lZ]
end
theorem NC(e h):∀(n:Nat) (t:ie),lQ n (ld e h t)=(lQ n t).map (ld e h):=by
 intro n
 induction n with
 |zero=>intro t;rfl
 |succ n U=>
  intro t
  match t with
  | .mk k m s ls [a,b]=>simp only[ld,lZ,lQ,U b,bG]
  | .mk k m s ls []=>simp[ld,lZ,lQ]
  | .mk k m s ls [a]=>simp[ld,lZ,lQ]
  | .mk k m s ls (a::b::c::r)=>simp[ld,lZ,lQ]
theorem UK{p:Int}(x:G7 h p c){ps:List fB}{us:List iq}{j:Nat}(y:p<=j)(i:(lQ (iv c) (ld ps us c))[j]? =some a)(q:nP (rW h) a 0=true)(e:List ie):
 p<=(ig (jQ (iv (oS a e)) (oS a e))).2.length/\(ig (jQ (iv (oS a e)) (oS a e))).2.length<=c.size/\iv (oS a e)=iv a:=by
 rw[NC,bt] at i;obtain⟨b,k,rfl⟩:=bO.1 i;rw[Kh] at q;obtain⟨m,ls,ar,z,C⟩:=x j b y k q;have U:=(IF _ (jQ (iv b) b) (ae _)).2 (by rw[z];rfl);rw[<- Q8 _ b (ae _),<-(Z8 ps us _ b (ae _)).2] at U;obtain⟨r,G⟩:=(Z9 (F:=qt e) _ (ld ps us b) 0 (ae _)).2 _ U;rw[tK];rw[Q8 _ _ (ae _)] at r;have s:=((IF _ _ (ae _)).1 _ r).1;have H:=nj (iv c) c;have I:=iO k;have J:=nj (iv b) b;have M:=mQ _ (jQ (iv b) b) (ae _);have R:=iJ (ig (jQ (iv b) b)).2;exact⟨by rw[s];exact C,by rw[s];omega,G⟩
theorem Q7{nm:fB}{h:ie}{firsts pre X cs:List ie}{p:Nat}:∀j,(DS nm h firsts p pre X cs j).length<=j
 |0=>ae _
 |j+1=>by
  have:=Q7 (nm:=nm) (h:=h) (firsts:=firsts) (pre:=pre) (X:=X) (cs:=cs) (p:=p) j;rw[DS,aN];split
  .simp only[aj,aH];omega
  .simp only[aH];omega
theorem Kf{i:fB}{h:ie}{c e X q:List ie}{p:Nat}:∀j,j<=p->DS i h c p e X q j=[]
 |0,_=>rfl
 |j+1,b=>by rw[DS,Kf j O,if_neg O];rfl
section
attribute [local irreducible] iK iL jI ik iW jH
theorem NH{f:FuncId}(M:iA fC f=true)
 (hf:∀(m:Int) (s:fB) (ls:List iq) (args:List ie) (d:Int),0<=m->m<=B->0<=d->d<=1099511627776->jT fC gl f [.cells [.d j] c,.cells [.d q] e] [.d (ie.mk 0 m s ls args).d,fE d,.jk 0 0,.jk 1 0] λout ob'=>out=.ret (.d (F (.mk 0 m s ls args) d).d)/\ob'=[.cells [.d j] c,.cells [.d q] e]):
 ∀(n:Nat) (k m:Int) (s:fB) (ls:List iq) (args:List ie) (d:Int),(ie.mk k m s ls args).size<=n->yk B (.mk k m s ls args)->0<=d->d+(ie.mk k m s ls args).size<=1099511627776->
  jT fC gl 152 [.cells [.d j] c,.cells [.d q] e] [.d (ie.mk k m s ls args).d,fE d,.fn (.func f) [] [.jk 0 0,.jk 1 0]] λout ob'=>out=.ret (.d (ju F (.mk k m s ls args) d).d)/\ob'=[.cells [.d j] c,.cells [.d q] e]:=by
 intro n
 induction n with
 |zero=>intro k m s ls args d h;simp[ie.size] at h
 |succ n ih=>
  intro k m s ls args d R U S V;have x:=R;simp only[ie.size] at x V;have hal:=ir args;have hsa:=iJ args;refine nR Tryz.func152 61 2 ?_;refine jq 14 ?_ ?_<;>intro I
  .obtain rfl:=I;obtain⟨k1,m1,s1,l1,a1,Y⟩:=ie.case (F (.mk 0 m s ls args) d)
   have hv:=LO U;have y:=hf m s ls args d hv.1 hv.2 S O;rw[Y] at y;refine rF 5 ?_;refine oc (BC M rfl rfl rfl rfl rfl rfl rfl rfl (y) ([0,1]) (jN (jN .nil)) rfl rfl rfl rfl (oq (jw (jw (jw .nil)))) (λs ob' J=>?_) (λs ob' J=>?_));rotate_left
   .first|exact J.elim|cases J.1
   obtain⟨W,rfl⟩:=J;cases W;refine⟨_,_,_,_,_,rfl,rfl,rfl,rfl,rfl,?_⟩;refine jD 5 ((ie.mk k1 m1 s1 l1 a1).d) [0,1] [.cells [.d j] c,.cells [.d q] e] ?_
   .rw [ju,if_pos rfl,Y];exact⟨rfl,rfl⟩
  refine jq 11 ?_ ?_<;>intro h3
  .refine jD 8 ((ie.mk k m s ls args).d) [0,1] [.cells [.d j] c,.cells [.d q] e] ?_
   .rw [ju,if_neg I,show args=[] from bE.1 O];exact⟨rfl,rfl⟩
  refine rF 14 ?_;refine oc (T:=λ_=>False) (FB mN jz rfl rfl rfl rfl rfl (by simp only[aj,aH,Nat.reduceAdd];rfl) (by(simp only[maxLen];omega)) rfl ?_);refine pt 14 (ι:=Nat) (λi=>[(32,int i)]) (λi=>[.cells [.d j] c,.cells [.d q] e,.cells [fE k,fE m,fI s,.d (.sl 3 (iR ls)),.d (.sl 5 (im args))] 39,.cells [fE 0,fE 0,fI .empty,fK,fK] 39,.cells [fE k,fE m,fI s,.d (.sl 3 (iR ls)),.arr 5 (im args).length] 39,.buf 39 5 (CI (jm F (decide (4<=k)) args d) i (im args).length) none]) [31,30,7,6,3,1,2] (λi=>i<=args.length) (λi=>args.length-i) (0) ([0,1,2,3,4,5]) (ak _) ?_;rintro i z
  try dsimp only at z
  refine j7 6 ?_ ?_<;>intro h8
  .obtain rfl:i=(im args).length:=O;refine rF 7 ?_;rw[Ll (by rw[pN];omega)];refine yR 5 rfl rfl rfl rfl ?_;refine jD 5 ((ie.mk k m s ls (jm F (decide (4<=k)) args d)).d) [0,1] [.cells [.d j] c,.cells [.d q] e] ?_
   .rw [ju,if_neg I];exact⟨rfl,rfl⟩
  obtain⟨k2,m2,s2,l2,a2,b⟩:=iZ (show i<args.length by omega);have hg1:=iO b;have C:=w0 F (decide (4<=k)) d b;obtain⟨k3,m3,s3,l3,a3,hY⟩:=ie.case (ju F (.mk k2 m2 s2 l2 a2) (if decide (4<=k)=true/\i+1=args.length then d+1 else d));refine ni 7 iQ iY ?_ (hat:=(jr b))
  refine' DM 19 47 41 6 ?a1 ?_
  case a1=>
   intro hc hK;refine sH 4 ?_;refine rF 1 ?_;exact hK [_,_,_,_,_,_] rfl rfl
  refine rF 2 ?_;refine xc (ι:=Unit) (λ_=>[(10,int (if decide (4<=k)=true/\i+1=args.length then d+1 else d))]) [8,9,32,31,30,7,6,3,1,2] (λ_=>True) rfl ?_ ?_
  .refine j7 0 ?_ ?_<;>intro h11
   .refine qX 1 (()) (by trivial) (hM:=by exact oL (j8 rfl (by exact Fit.of_eq gO)))
   refine jS 2 ?_;refine qX 2 (()) (by trivial) (hM:=by exact oL (j8 rfl (by exact Fit.of_eq gO)))
  .rintro _ G
   try dsimp only at G
   refine kp [10,8,9,32,31,30,7,6,3,1,2] ?_;have r:=ih k2 m2 s2 l2 a2 (if decide (4<=k)=true/\i+1=args.length then d+1 else d) O (LP U I b) (by split<;>omega) (by split<;>omega);rw[hY] at r C;have H:(CI (jm F (decide (4<=k)) args d) i (im args).length).set i [fD k3,fD m3,fG s3,.sl 3 (iR l3),.sl 5 (im a3)]=CI (jm F (decide (4<=k)) args d) (i+1) (im args).length:=Lj C O;refine ma 0 [0,1,2,3,4,5] mixed ?_;refine A2 6 rfl (ck Y8 rfl rfl (r) [0,1] rfl (jN (jN .nil)) (oq (jw (jw .nil))) ?_);refine A1 7 rfl (mH iQ iY rfl rfl rfl rfl rfl rfl O ⟨_,rfl,?_⟩);refine A2 8 rfl (o6 jz rfl rfl rfl rfl rfl rfl rfl rfl rfl rfl rfl rfl ⟨rfl,by(rw[Lk (by rw[pN];omega) O];omega)⟩ rfl ?_);refine iB<|jS 3 ?_;refine rF 2 ?_;simp only[cb];rw[H];refine ml 0 (i+1) [0,1,2,3,4,5] ?_;exact⟨O,O⟩
theorem NI{f:FuncId}(I:iA fC f=true)
 (hf:∀(m:Int) (s:fB) (ls:List iq) (args:List ie) (d:Int),0<=m->m<=B->0<=d->d<=1099511627776->jT fC gl f [.cells [.d e] c] [.d (ie.mk 0 m s ls args).d,fE d,.jk 0 0] λout ob'=>out=.ret (.d (F (.mk 0 m s ls args) d).d)/\ob'=[.cells [.d e] c]):
 ∀(n:Nat) (k m:Int) (s:fB) (ls:List iq) (args:List ie) (d:Int),(ie.mk k m s ls args).size<=n->yk B (.mk k m s ls args)->0<=d->d+(ie.mk k m s ls args).size<=1099511627776->
  jT fC gl 152 [.cells [.d e] c] [.d (ie.mk k m s ls args).d,fE d,.fn (.func f) [] [.jk 0 0]] λout ob'=>out=.ret (.d (ju F (.mk k m s ls args) d).d)/\ob'=[.cells [.d e] c]:=by
 intro n
 induction n with
 |zero=>intro k m s ls args d h;simp[ie.size] at h
 |succ n ih=>
  intro k m s ls args d J U M R;have q:=J;simp only[ie.size] at q R;have hal:=ir args;have hsa:=iJ args;refine nR Tryz.func152 61 1 ?_;refine jq 14 ?_ ?_<;>intro G
  .obtain rfl:=G;obtain⟨k1,m1,s1,l1,a1,V⟩:=ie.case (F (.mk 0 m s ls args) d)
   have W:=LO U;have r:=hf m s ls args d W.1 W.2 M O;rw[V] at r;refine rF 5 ?_;refine oc (BC I rfl rfl rfl rfl rfl rfl rfl rfl (r) ([0]) (jN .nil) rfl rfl rfl rfl (oq (jw (jw .nil))) (λs ob' H=>?_) (λs ob' H=>?_));rotate_left
   .first|exact H.elim|cases H.1
   obtain⟨S,rfl⟩:=H;cases S;refine⟨_,_,_,_,_,rfl,rfl,rfl,rfl,rfl,?_⟩;refine jD 5 ((ie.mk k1 m1 s1 l1 a1).d) [0] [.cells [.d e] c] ?_
   .rw [ju,if_pos rfl,V];exact⟨rfl,rfl⟩
  refine jq 11 ?_ ?_<;>intro h3
  .refine jD 8 ((ie.mk k m s ls args).d) [0] [.cells [.d e] c] ?_
   .rw [ju,if_neg G,show args=[] from bE.1 O];exact⟨rfl,rfl⟩
  refine rF 14 ?_;refine oc (T:=λ_=>False) (FB mN jz rfl rfl rfl rfl rfl (by simp only[aj,aH,Nat.reduceAdd];rfl) (by(simp only[maxLen];omega)) rfl ?_);refine pt 14 (ι:=Nat) (λi=>[(32,int i)]) (λi=>[.cells [.d e] c,.cells [fE k,fE m,fI s,.d (.sl 3 (iR ls)),.d (.sl 5 (im args))] 39,.cells [fE 0,fE 0,fI .empty,fK,fK] 39,.cells [fE k,fE m,fI s,.d (.sl 3 (iR ls)),.arr 4 (im args).length] 39,.buf 39 5 (CI (jm F (decide (4<=k)) args d) i (im args).length) none]) [31,30,7,6,3,1,2] (λi=>i<=args.length) (λi=>args.length-i) (0) ([0,1,2,3,4]) (ak _) ?_;rintro i x
  try dsimp only at x
  refine j7 6 ?_ ?_<;>intro h8
  .obtain rfl:i=(im args).length:=O;refine rF 7 ?_;rw[Ll (by rw[pN];omega)];refine yR 4 rfl rfl rfl rfl ?_;refine jD 5 ((ie.mk k m s ls (jm F (decide (4<=k)) args d)).d) [0] [.cells [.d e] c] ?_
   .rw [ju,if_neg G];exact⟨rfl,rfl⟩
  obtain⟨k2,Y,s2,l2,a2,b⟩:=iZ (show i<args.length by omega);have hg1:=iO b;have y:=w0 F (decide (4<=k)) d b;obtain⟨k3,m3,s3,l3,a3,hY⟩:=ie.case (ju F (.mk k2 Y s2 l2 a2) (if decide (4<=k)=true/\i+1=args.length then d+1 else d));refine ni 7 iQ iY ?_ (hat:=(jr b))
  refine' DM 19 47 41 6 ?a1 ?_
  case a1=>
   intro hc hK;refine sH 4 ?_;refine rF 1 ?_;exact hK [_,_,_,_,_,_] rfl rfl
  refine rF 2 ?_;refine xc (ι:=Unit) (λ_=>[(10,int (if decide (4<=k)=true/\i+1=args.length then d+1 else d))]) [8,9,32,31,30,7,6,3,1,2] (λ_=>True) rfl ?_ ?_
  .refine j7 0 ?_ ?_<;>intro h11
   .refine qX 1 (()) (by trivial) (hM:=by exact oL (j8 rfl (by exact Fit.of_eq gO)))
   refine jS 2 ?_;refine qX 2 (()) (by trivial) (hM:=by exact oL (j8 rfl (by exact Fit.of_eq gO)))
  .rintro _ z
   try dsimp only at z
   refine kp [10,8,9,32,31,30,7,6,3,1,2] ?_;have j:=ih k2 Y s2 l2 a2 (if decide (4<=k)=true/\i+1=args.length then d+1 else d) O (LP U G b) (by split<;>omega) (by split<;>omega);rw[hY] at j y;have C:(CI (jm F (decide (4<=k)) args d) i (im args).length).set i [fD k3,fD m3,fG s3,.sl 3 (iR l3),.sl 5 (im a3)]=CI (jm F (decide (4<=k)) args d) (i+1) (im args).length:=Lj y O;refine ma 0 [0,1,2,3,4,5] mixed ?_;refine A2 6 rfl (ck Y8 rfl rfl (j) [0] rfl (jN .nil) (oq (jw (jw .nil))) ?_);refine A1 7 rfl (mH iQ iY rfl rfl rfl rfl rfl rfl O ⟨_,rfl,?_⟩);refine A2 8 rfl (o6 jz rfl rfl rfl rfl rfl rfl rfl rfl rfl rfl rfl rfl ⟨rfl,by(rw[Lk (by rw[pN];omega) O];omega)⟩ rfl ?_);refine iB<|jS 3 ?_;refine rF 2 ?_;simp only[cb];rw[C];refine ml 0 (i+1) [0,1,2,3,4] ?_;exact⟨O,O⟩
theorem OS(z:0<=e/\e<=1099511627776)(j:0<=h/\h<=1099511627776)(C:B<=1099511627776)(m s i c F)(q:0<=m)(r:m<=B)(x:0<=F)(y:F<=1099511627776):
 jT fC gl 145 [.cells [fE h] 3,.cells [fE e] 3] [.d (ie.mk 0 m s i c).d,fE F,.jk 0 0,.jk 1 0] λout ob'=>out=.ret (.d (mr e h (.mk 0 m s i c) F).d)/\ob'=[.cells [fE h] 3,.cells [fE e] 3]:=by
 refine nR Tryz.func145 19 2 ?_;refine jS 13 ?_;refine j7 3 ?_ ?_<;>intro b
 .refine jD 9 ((ie.mk 0 m s i c).d) [0,1] [.cells [fE h] 3,.cells [fE e] 3] ?_
  .rw [mr,if_neg O];exact⟨rfl,rfl⟩
 refine jS 4 ?_;refine jD 11 ((ie.mk 0 (m+e) s i c).d) [0,1] [.cells [fE h] 3,.cells [fE e] 3] ?_
 .rw [mr,if_pos O];exact⟨rfl,rfl⟩
theorem SE(x:iA fC C=true)
 (y:∀(m:Int) (s:fB) (i:List iq) (c:List ie) (d:Int),0<=m->m<=B->0<=d->d<=1099511627776->jT fC gl C [.cells [.d j] e,.cells [.d q] h] [.d (ie.mk 0 m s i c).d,fE d,.jk 0 0,.jk 1 0] λout ob'=>out=.ret (.d (F (.mk 0 m s i c) d).d)/\ob'=[.cells [.d j] e,.cells [.d q] h])
 (G m s i c) (r:yk B (.mk G m s i c)) (z:(ie.mk G m s i c).size<=1099511627776):
  jT fC gl 134 [.cells [.d j] e,.cells [.d q] h] [.d (ie.mk G m s i c).d,.fn (.func C) [] [.jk 0 0,.jk 1 0]] λout ob'=>out=.ret (.d (ju F (.mk G m s i c) 0).d)/\ob'=[.cells [.d j] e,.cells [.d q] h]:=by
 have hw:=NH (gl:=gl) x y _ G m s i c 0 (ae _) r (aP _) O;obtain⟨k1,U,s1,l1,a1,b⟩:=ie.case (ju F (.mk G m s i c) 0)
 rw[b] at hw ⊢;refine nR Tryz.func134 8 2 ?_;refine nC 10 hw [0,1] ?_;refine B5 4 [0,1] [.cells [.d j] e,.cells [.d q] h] ⟨rfl,rfl⟩
theorem Ir(q:iA fC y=true)
 (r:∀(m:Int) (s:fB) (h:List iq) (c:List ie) (d:Int),0<=m->m<=B->0<=d->d<=1099511627776->jT fC gl y [.cells [.d i] e] [.d (ie.mk 0 m s h c).d,fE d,.jk 0 0] λout ob'=>out=.ret (.d (F (.mk 0 m s h c) d).d)/\ob'=[.cells [.d i] e])
 (z m s h c) (j:yk B (.mk z m s h c)) (x:(ie.mk z m s h c).size<=1099511627776):
  jT fC gl 134 [.cells [.d i] e] [.d (ie.mk z m s h c).d,.fn (.func y) [] [.jk 0 0]] λout ob'=>out=.ret (.d (ju F (.mk z m s h c) 0).d)/\ob'=[.cells [.d i] e]:=by
 have hw:=NI (gl:=gl) q r _ z m s h c 0 (ae _) j (aP _) O;obtain⟨k1,U,s1,l1,a1,b⟩:=ie.case (ju F (.mk z m s h c) 0)
 rw[b] at hw ⊢;refine nR Tryz.func134 8 1 ?_;refine nC 10 hw [0] ?_;refine B5 4 [0] [.cells [.d i] e] ⟨rfl,rfl⟩
theorem zH(r:0<=m0/\m0<=1099511627776)(i:0<=fr/\fr<=1099511627776)(x:B<=1099511627776)(z m s e c)(h:yk B (.mk z m s e c))(j:(ie.mk z m s e c).size<=1099511627776):
 jA fC gl 116 [(ie.mk z m s e c).d,fD m0,fD fr] (· =(lJ (.mk z m s e c) m0 fr).d):=by
 have b:=SE (gl:=gl) ae0 (OS r i x) z m s e c h j;obtain⟨k1,y,s1,l1,a1,U⟩:=ie.case (ju (mr m0 fr) (.mk z m s e c) 0)
 rw[U] at b;refine oN Tryz.func116 13 ?_;refine jq 15 ?_ ?_<;>intro q
 .refine v8 8 ((ie.mk z m s e c).d) ?_;rw[lJ,if_pos q]
 refine rF 5 ?_;refine o1 (AP ?_);refine nC 0 b [2,1] ?_;refine v8 4 ((ie.mk k1 y s1 l1 a1).d) ?_;rw[lJ,if_neg q,U]
theorem O7(F:B<=1099511627776)(e h i j q)(x:yk B (.mk e h i j q))(y:(ie.mk e h i j q).size<=1099511627776)(m s r c R)(G:0<=m)(H:m<=B)(z:0<=R)(C:R<=1099511627776):
 jT fC gl 135 [.cells [.d (.sl 5 (im [.mk e h i j q]))] 37] [.d (ie.mk 0 m s r c).d,fE R,.jk 0 0] λout ob'=>out=.ret (.d (j6 (.mk e h i j q) (.mk 0 m s r c) R).d)/\ob'=[.cells [.d (.sl 5 (im [.mk e h i j q]))] 37]:=by
 have k:=zH (gl:=gl) (m0:=R) (fr:=0) ⟨z,C⟩ ⟨O,O⟩ F e h i j q x y;obtain⟨k1,I,s1,l1,a1,U⟩:=ie.case (lJ (.mk e h i j q) R 0)
 rw[U] at k;have b:(im [.mk e h i j q]).length=1:=rfl;refine nR Tryz.func135 36 1 ?_;refine sH 12 ?_;refine jq 11 ?_ ?_<;>intro J
 .refine jD 10 ((ie.mk 0 m s r c).d) [0] [.cells [.d (.sl 5 (im [.mk e h i j q]))] 37] ?_
  .rw [j6,if_pos O];exact⟨rfl,rfl⟩
 refine j7 9 ?_ ?_<;>intro M
 .refine sH 5 ?_;refine jD 12 ((ie.mk 0 (m-(im [.mk e h i j q]).length) s r c).d) [0] [.cells [.d (.sl 5 (im [.mk e h i j q]))] 37] ?_
  .rw [j6,if_neg O,if_neg O];exact⟨rfl,rfl⟩
 refine sH 5 ?_;refine sH 1 ?_;refine ni 0 iQ iY ?_ (hat:=by exact((by rw[b,show(((1:Nat):Int)-1-(m-R)).toNat=0 by omega];rfl)));refine ny 2 k ?_;refine jD 6 ((ie.mk k1 I s1 l1 a1).d) [0] [.cells [.d (.sl 5 (im [.mk e h i j q]))] 37] ?_
 .rw [j6,if_neg O,if_pos O,U];exact⟨rfl,rfl⟩
theorem NX(G:B<=1099511627776)(e h i j q)(y:yk B (.mk e h i j q))(z:(ie.mk e h i j q).size<=1099511627776)(J m s r c)(x:yk B (.mk J m s r c))(C:(ie.mk J m s r c).size<=1099511627776):
 jA fC gl 110 [(ie.mk J m s r c).d,(ie.mk e h i j q).d] (· =(jJ (.mk J m s r c) (.mk e h i j q)).d):=by
 have b:=Ir (gl:=gl) Zc (O7 G e h i j q y z) J m s r c x C;obtain⟨k1,H,s1,l1,a1,U⟩:=ie.case (ju (j6 (.mk e h i j q)) (.mk J m s r c) 0)
 rw[U] at b;have I:jA fC gl 109 [(ie.mk J m s r c).d,.sl 5 (im [.mk e h i j q])] (· =(ie.mk k1 H s1 l1 a1).d):=by
  refine oN Tryz.func109 12 ?_;refine jq 15 ?_ ?_<;>intro F
  .exfalso;rw[ir] at F;simp at F
  refine rF 5 ?_;refine o1 (AP ?_);refine nC 0 b [1] ?_;refine od 4 ?_;rfl
 rw[jJ,U];refine oN Tryz.func110 9 ?_;refine oR 11 mN [.tmp 6] jz ?_;refine ny 0 I ?_;refine od 4 ?_;rfl
theorem Mj(z:B<=1099511627776)(c)(C:∀v∈c,yk B v/\v.size<=1099511627776)(F:c.length<=1099511627776)(m s i e R)(G:0<=m)(H:m<=B)(j:0<=R)(q:R<=1099511627776):
 jT fC gl 135 [.cells [.d (.sl 5 (im c))] 37] [.d (ie.mk 0 m s i e).d,fE R,.jk 0 0] λout ob'=>out=.ret (.d (qt c (.mk 0 m s i e) R).d)/\ob'=[.cells [.d (.sl 5 (im c))] 37]:=by
 have k:=ir c;refine nR Tryz.func135 36 1 ?_;refine sH 12 ?_;refine jq 11 ?_ ?_<;>intro J
 .refine jD 10 ((ie.mk 0 m s i e).d) [0] [.cells [.d (.sl 5 (im c))] 37] ?_
  .rw [qt,if_pos O];exact⟨rfl,rfl⟩
 refine j7 9 ?_ ?_<;>intro M
 .refine sH 5 ?_;refine jD 12 ((ie.mk 0 (m-(im c).length) s i e).d) [0] [.cells [.d (.sl 5 (im c))] 37] ?_
  .rw [qt,if_neg O,if_neg O,k];exact⟨rfl,rfl⟩
 obtain⟨k2,r,s2,l2,a2,b⟩:=iZ (show c.length-1-(m-R).toNat<c.length by omega);have U:=C _ (aO b);have x:=zH (gl:=gl) (m0:=R) (fr:=0) ⟨j,q⟩ ⟨O,O⟩ z k2 r s2 l2 a2 U.1 U.2;obtain⟨k1,I,s1,l1,a1,y⟩:=ie.case (lJ (.mk k2 r s2 l2 a2) R 0)
 rw[y] at x;have h:(im c)[(((im c).length:Int)-1-(m-R)).toNat]? =some [fD k2,fD r,fG s2,.sl 3 (iR l2),.sl 5 (im a2)]:=(by rw[show(((im c).length:Int)-1-(m-R)).toNat=c.length-1-(m-R).toNat by omega,rm b];rfl);refine sH 5 ?_;refine sH 1 ?_;refine ni 0 iQ iY ?_ (hat:=h);refine ny 2 x ?_;refine jD 6 ((ie.mk k1 I s1 l1 a1).d) [0] [.cells [.d (.sl 5 (im c))] 37] ?_
 .rw [qt,if_neg O,if_pos O,ba,b,cY,y];exact⟨rfl,rfl⟩
theorem IA(x:B<=1099511627776)(e)(y:∀v∈e,yk B v/\v.size<=1099511627776)(j:e.length<=1099511627776)(F m s h c)(i:yk B (.mk F m s h c))(q:(ie.mk F m s h c).size<=1099511627776):
 jA fC gl 109 [(ie.mk F m s h c).d,.sl 5 (im e)] (· =(oS (.mk F m s h c) e).d):=by
 have b:=Ir (gl:=gl) Zc (Mj x e y j) F m s h c i q;obtain⟨k1,z,s1,l1,a1,U⟩:=ie.case (ju (qt e) (.mk F m s h c) 0)
 rw[U] at b;have r:=ir e;refine oN Tryz.func109 12 ?_;refine jq 15 ?_ ?_<;>intro C
 .refine v8 8 ((ie.mk F m s h c).d) ?_;rw[ch (show e.length=0 by omega)];rfl
 refine rF 5 ?_;refine o1 (AP ?_);refine nC 0 b [1] ?_;refine v8 4 ((ie.mk k1 z s1 l1 a1).d) ?_;rw[tK,U]
mutual
theorem K6{B:Int}:∀(t:ie) (d:Int),oD B t->Hv (λn _=>0<=n/\n<=B) t d
 | .mk k n s ls args,d,h=>by
  rw[Hv];split
  .rename_i hk;have:=wm h hk;exact⟨this.1,this.2.1⟩
  .exact HO args _ d h.2.1
theorem HO{B:Int}:∀(l:List ie) (b:Bool) (d:Int),CD B l->Jf (λn _=>0<=n/\n<=B) b l d
 |[],_,_,_=>trivial
 |t::r,b,d,h=>⟨K6 t _ h.1,HO r b d h.2⟩
end
theorem Xg(h:oD B t):yk B t:=K6 t 0 h
theorem Wt.num(h:Wt e i t c)(j:c+t.size<=B+1):yk B t:=Xg (h.sh j)
theorem OV:∀(n:Nat) (k:Int) (s:fB) (args:List iq) (m:Int),(iq.mk k s args).size<=n->((iq.mk k s args).size:Int)<=m->m<=1099511627776->
 jA fC gl 157 [(iq.mk k s args).d,fD m] (· =fD (m-(iq.mk k s args).size)):=by
 intro n
 induction n with
 |zero=>intro k s args m h;simp[iq.size] at h
 |succ n y=>
  intro k s args m z C M;have j:=jn args;have F:=pO args;simp only[iq.size] at z C;refine oN Tryz.func157 24 ?_;refine sH 9 ?_;refine vq 13 (ι:=Nat) (λi=>[(1,int (m-1-iG (args.take i))),(12,int i)]) [11,10] (λi=>i<=args.length) (λi=>args.length-i) (0) (ak _) ?_ (hM:=by exact oL (j8 rfl (by exact Fit.of_eq (by show SV.d (D.v (Value.int .i64 (m-1)))=_;simp[iG]))));rintro i U
  try dsimp only at U
  refine j7 6 ?_ ?_<;>intro R
  .obtain rfl:i=args.length:=O;have c:m-1-iG (args.take args.length)=m-(iq.mk k s args).size:=(by rw[bT,iq.size];omega);refine rF 7 ?_;rw[c];refine v8 5 (fD (m-(iq.mk k s args).size)) ?_;rfl
  obtain⟨G,H,I,b⟩:=kj (show i<args.length by omega);have q:=pJ b;have J:=u9 b;have r:=rq args i;have x:=rq args (i+1);have e:=y G H I (m-1-iG (args.take i)) O O O;refine ni 6 oz oP ?_ (hat:=(lj b));refine jq 12 ?_ ?_<;>intro S
  .omega
  refine ny 5 e ?_;refine jS 5 ?_;refine qX 2 (i+1) ⟨O,O⟩ (hM:=by exact oL (j8 rfl (by exact Fit.of_eq (by rw[u9 b];show SV.d (D.v (Value.int .i64 _))=SV.d (D.v (Value.int .i64 _));congr 3;omega))))
theorem SH:∀(n:Nat) (k q:Int) (s:fB) (ls:List iq) (args:List ie) (m:Int),(ie.mk k q s ls args).size<=n->((ie.mk k q s ls args).size:Int)<=m->m<=1099511627776->
 jA fC gl 142 [(ie.mk k q s ls args).d,fD m] (· =fD (m-(ie.mk k q s ls args).size)):=by
 intro n
 induction n with
 |zero=>intro k q s ls args m h;simp[ie.size] at h
 |succ n G=>
  intro k q s ls args m H I hb;have C:=jn ls;have J:=pO ls;have M:=ir args;have R:=iJ args;simp only[ie.size] at H I;refine oN Tryz.func142 37 ?_;refine sH 9 ?_;refine vq 13 (ι:=Nat) (λi=>[(1,int (m-1-iG (ls.take i))),(14,int i)]) [13,12,2] (λi=>i<=ls.length) (λi=>ls.length-i) (0) (ak _) ?_ (hM:=by exact oL (j8 rfl (by exact Fit.of_eq (by show SV.d (D.v (Value.int .i64 (m-1)))=_;simp[iG]))));rintro i U
  try dsimp only at U
  refine jq 6 ?_ ?_<;>intro h3
  .obtain ⟨S,V,W,b⟩:=kj (show i<ls.length by omega);have F:=pJ b;have z:=u9 b;have r:=rq ls i;have x:=rq ls (i+1);have c:=OV (gl:=gl) _ S V W (m-1-iG (ls.take i)) (ae _) O O;refine ni 6 oz oP ?_ (hat:=(lj b));refine ny 8 c ?_;refine jS 5 ?_;refine qX 2 (i+1) ⟨O,O⟩ (hM:=by exact oL (j8 rfl (by exact Fit.of_eq (by rw[u9 b];show SV.d (D.v (Value.int .i64 _))=SV.d (D.v (Value.int .i64 _));congr 3;omega))))
  obtain rfl:i=ls.length:=O;have e:iG (ls.take ls.length)=iG ls:=(by rw[bT]);refine vq 15 (ι:=Nat) (λj=>[(1,int (m-1-iG ls-ij (args.take j))),(25,int j)]) [24,23] (λj=>j<=args.length) (λj=>args.length-j) (0) (ak _) ?_ (hM:=by exact oL (j8 rfl (by exact Fit.of_eq (by show SV.d (D.v (Value.int .i64 (m-1-iG (ls.take ls.length))))=_;rw[e];simp[ij]))));rintro j U
  try dsimp only at U
  refine j7 6 ?_ ?_<;>intro h8
  .obtain rfl:j=args.length:=O;have y:m-1-iG ls-ij (args.take args.length)=m-(ie.mk k q s ls args).size:=(by rw[bT,ie.size];omega);refine rF 7 ?_;rw[y];refine v8 5 (fD (m-(ie.mk k q s ls args).size)) ?_;rfl
  obtain⟨k1,Y,s1,l1,a1,b⟩:=iZ (show j<args.length by omega);have hg1:=iO b;have z:=qb b;have r:=qp args j;have x:=qp args (j+1);have c:=G k1 Y s1 l1 a1 (m-1-iG ls-ij (args.take j)) O O O;refine ni 6 iQ iY ?_ (hat:=(jr b));refine jq 12 ?_ ?_<;>intro h10
  .omega
  refine ny 5 c ?_;refine jS 5 ?_;refine qX 2 (j+1) ⟨O,O⟩ (hM:=by exact oL (j8 rfl (by exact Fit.of_eq (by rw[qb b];show SV.d (D.v (Value.int .i64 _))=SV.d (D.v (Value.int .i64 _));congr 3;omega))))
theorem Hy(i q s e c)(h:(ie.mk i q s e c).size<=200000):jA fC gl 113 [(ie.mk i q s e c).d] (· =fF false):=by
 have b:=SH (gl:=gl) _ i q s e c 200000 (ae _) O O;refine oN Tryz.func113 6 ?_;refine ny 9 b ?_;refine od 5 ?_;rw[decide_eq_false O]
theorem N1{f:FuncId}(C:iA fC f=true)
 (V:∀(k m:Int) (s:fB) (ls:List iq) (args:List ie) (d:Int),0<=d->d<=1099511627776->jT fC gl f [.cells [.d e] c] [.d (ie.mk k m s ls args).d,fE d,.jk 0 0] λout ob'=>out=.ret (fH (G (.mk k m s ls args) d))/\ob'=[.cells [.d e] c]):
 ∀(n:Nat) (k m:Int) (s:fB) (ls:List iq) (args:List ie) (d:Int),(ie.mk k m s ls args).size<=n->0<=d->d+(ie.mk k m s ls args).size<=1099511627776->
  jT fC gl 155 [.cells [.d e] c] [.d (ie.mk k m s ls args).d,fE d,.fn (.func f) [] [.jk 0 0]] λout ob'=>out=.ret (fH (nP G (.mk k m s ls args) d))/\ob'=[.cells [.d e] c]:=by
 intro n
 induction n with
 |zero=>intro k m s ls args d h;simp[ie.size] at h
 |succ n W=>
  intro k m s ls args d F H I;have r:=F;simp only[ie.size] at r I;have Y:=ir args;have hsa:=iJ args;have J:=V k m s ls args d H O;refine nR Tryz.func155 41 1 ?_;refine rF 12 ?_;refine oc (BC C rfl rfl rfl rfl rfl rfl rfl rfl (J) ([0]) (jN .nil) rfl rfl rfl rfl (oq (jw (jw .nil))) (λs ob' z=>?_) (λs ob' z=>?_));rotate_left
  .first|exact z.elim|cases z.1
  obtain⟨M,rfl⟩:=z;cases M;refine⟨_,_,_,_,_,rfl,rfl,rfl,rfl,rfl,?_⟩;refine jq 2 ?_ ?_<;>intro R
  .refine jD 7 (fF true) [0] [.cells [.d e] c] ?_
   .rw [nP,R,Bool.true_or];exact⟨rfl,rfl⟩
  refine pt 12 (ι:=Nat) (λi=>[(17,int i)]) (λi=>[.cells [.d e] c,.cells [fE k,fE m,fI s,.d (.sl 3 (iR ls)),.d (.sl 5 (im args))] 39]) [16,15,3,1,2] (λi=>i<=args.length/\∀(j:Nat) t,j<i->args[j]? =some t->nP G t (if decide (4<=k)=true/\j+1=args.length then d+1 else d)=false) (λi=>args.length-i) (0) ([0,1]) ⟨ak _,λj t h=>absurd h (cT _)⟩ ?_;rintro i U
  try dsimp only at U
  refine j7 6 ?_ ?_<;>intro h4
  .refine jD 11 (fF false) [0] [.cells [.d e] c] ?_
   .rw [nP,R,Bool.false_or,xE (λj t q=>U.2 j t (by have:=(aJ.1 q).1;omega) q)];exact⟨rfl,rfl⟩
  obtain⟨k2,m2,s2,l2,a2,b⟩:=iZ (show i<args.length by omega);have hg1:=iO b;refine ni 7 iQ iY ?_ (hat:=(jr b));refine' DM 19 32 26 6 ?a1 ?_
  case a1=>
   intro hc hK;refine sH 4 ?_;refine rF 1 ?_;exact hK [_,_,_,_,_,_] rfl rfl
  refine rF 2 ?_;refine xc (ι:=Unit) (λ_=>[(9,int (if decide (4<=k)=true/\i+1=args.length then d+1 else d))]) [8,17,16,15,3,1,2] (λ_=>True) rfl ?_ ?_
  .refine j7 0 ?_ ?_<;>intro h7
   .refine qX 1 (()) (by trivial) (hM:=by exact oL (j8 rfl (by exact Fit.of_eq gO)))
   refine jS 2 ?_;refine qX 2 (()) (by trivial) (hM:=by exact oL (j8 rfl (by exact Fit.of_eq gO)))
  .rintro _ x
   try dsimp only at x
   have y:=W k2 m2 s2 l2 a2 (if decide (4<=k)=true/\i+1=args.length then d+1 else d) O (by split<;>omega) (by split<;>omega);refine nC 5 y [0] ?_;refine jq 2 ?_ ?_<;>intro S
   .refine jD 11 (fF true) [0] [.cells [.d e] c] ?_
    .rw [nP,yz b (by simpa only[decide_eq_true_eq] using S),Bool.or_true];exact⟨rfl,rfl⟩
   refine jS 4 ?_;refine rF 2 ?_;refine bk (i+1) rfl ?_ ([0,1]) ?_
   .exact ⟨⟨O,λj t hj q=>by
    rcases bV j i with h|h
    .exact U.2 j t h q
    .obtain rfl:j=i:=O;rw[b] at q;cases q
     simpa only[decide_eq_true_eq] using S⟩,O⟩
   .exact mz
end
section
attribute [local irreducible] iK iL jI ik iW
def Mk(c:List fB)(s:fB):Int:=match c.findIdx? (· =s) with
 |some i=>i
 |none=> -1
theorem SN{c:List fB}{i:Nat}(h:i<c.length)(e:s∉c.take i)(j:c[i]=s):Mk c s=i:=by
 unfold Mk;rw[xY h e j]
theorem IC(h:s∉c):Mk c s= -1:=by
 unfold Mk;rw[xZ h]
theorem ID(c s):(s∉c/\Mk c s= -1)\/∃i,∃h:i<c.length,s∉c.take i/\c[i]=s/\Mk c s=i:=by
 by_cases b:s∈c
 .right;have U:(c.findIdx? (· =s)).isSome=true:=by rw[List.findIdx?_isSome];simpa using b
  obtain⟨i,k⟩:=dS.1 U;obtain⟨q,r,x⟩:=fw.1 k;refine⟨i,q,λy=>?_,by simpa using r,by unfold Mk;rw[k]⟩;obtain⟨j,z,e⟩:=dH.1 y;simp only[bj] at z;have:=x j O;simp only[eP] at e;simp[e] at this
 .exact .inl ⟨b,IC b⟩
theorem O8(c s)(q:c.length<=281474976710656):
 jA fC j 153 [nU c,fG s] (· =fD (Mk c s)):=by
 have U:=jU c;refine oN Tryz.func153 19 ?_;refine vq 14 (ι:=Nat) (λi=>[(8,int i)]) [7,0,1] (λi=>i<=c.length/\s∉c.take i) (λi=>c.length-i) (0) ⟨ak _,by simp⟩ ?_;rintro i b
 try dsimp only at b
 refine j7 6 ?_ ?_<;>intro r
 .refine od 11 ?_;have h:=b.2;rw[aS O] at h;rw[IC h]
 refine ni 15 yv Cs ?_ (hat:=by exact(u7 O));refine jq 4 ?_ ?_<;>intro k
 .refine od 12 ?_;rw[SN (show i<c.length by omega) b.2 k.symm]
 refine jS 4 ?_;refine rF 2 ?_;refine bi (i+1) rfl ?_ ?_
 .exact ⟨⟨O,sj O b.2 (λe=>k e.symm)⟩,O⟩
 .exact mz
theorem Lp(c e)(hl:c.length<=e.length)(F:c.length<=281474976710656):∀(n:Nat) (k:Int) (s:fB) (args:List iq),(iq.mk k s args).size<=n->(iq.mk k s args).size<=1099511627776->
 jA fC gl 136 [(iq.mk k s args).d,nU c,.sl 3 (iR e)] (· =((iq.mk k s args).subst c e).d):=by
 have V:=jU c;have W:=jn e;intro n
 induction n with
 |zero=>intro k s args h;simp[iq.size] at h
 |succ n Y=>
  intro k s args hn hb;have hsz:iG args<=n:=by simp[iq.size] at hn;omega
  have J:=jn args;have hlb:=pO args;simp only[iq.size] at hb;refine oN Tryz.func136 45 ?_;refine jq 14 ?_ ?_<;>intro h1
  .refine ny 6 (O8 c s F) ?_;refine j7 9 ?_ ?_<;>intro h3
   .refine od 10 ?_;have j:k=4:=O;rcases ID c s with⟨q,_⟩|⟨i,M,r,x,q⟩
    .simp only[iq.subst,if_pos j,xZ q];rfl
    .omega
   refine rF 4 ?_;rcases ID c s with⟨_,q⟩|⟨i,M,r,x,q⟩
   .omega
   obtain⟨G,H,I,b⟩:=kj (show i<e.length by omega);rw[q];refine ni 0 oz oP ?_ (hat:=(lj b));refine od 7 ?_;have j:k=4:=O;have hf:=xY M r x;simp only[iq.subst,if_pos j,hf,ba,b,cY];rfl
  refine rF 25 ?_;refine iP 121 3 rfl<|pt 0 (ι:=Nat) (λi=>[(30,int i)]) (λi=>[.cells [fE k,fI s,.d (.sl 3 (iR args))] 121,.cells [fE 0,fI .empty,fK] 121,.cells [fE k,fI s,.own 3 3 (iR (nH c e (args.take i)))] 121,.row 121 3]) [29,28,8,6,1,2] (λi=>i<=args.length) (λi=>args.length-i) (0) ([0,1,2,3]) ?I1 ?H1 (hM:= ?M1)
  case I1=>
   exact ak _
  case M1=>
   refine mo ?_ (iU (iU (iU (iU (iU (iU (iU rA)))))))
   repeat (first|exact nw|exact C9|refine jN ?_|refine D3 ?_|refine Ky ?_ ?_|refine jw ?_|refine .cons (.nil rfl) ?_)
  case H1=>
   rintro i y
   try dsimp only at y
   refine j7 6 ?_ ?_<;>intro h9
   .refine od 12 ?_;have j:¬k=4:=O;simp only[iq.subst,if_neg j];rw[aS O];rfl
   obtain⟨G,H,I,b⟩:=kj (show i<args.length by omega);obtain⟨k2,s2,a2,z⟩:=iq.case ((iq.mk G H I).subst c e)
   have R:=pJ b;have U:iR (nH c e (args.take i))++[[fD k2,fG s2,.sl 3 (iR a2)]]=iR (nH c e (args.take (i+1))):=by
    rw[Dy b,yV,z];rfl
   have S:=jn (nH c e (args.take i));have C:=Aq c e (args.take i);simp only[bj] at C;refine ni 6 oz oP ?_ (hat:=(lj b));refine ma 5 [0,1,2,3,4] mixed ?_;refine A2 (T:=λ_=>False) 5 rfl (oK ae1 rfl rfl rfl rfl (Y G H I O O) (oq (jw (jw .nil))) (λd hd=>?_));rw[z] at hd;obtain rfl:=hd;refine A2 6 rfl (CW tr [.tmp 39] pC ?_);refine A2 7 rfl (ya tr ?_);refine ga [8] ?_;refine nO 9 ?_;refine iB<|jS 3 ?_;refine rF 2 ?_;rw[U];refine ml 0 (i+1) [0,1,2,3] ?_;exact⟨O,O⟩
end
section
attribute [local irreducible] iK iL jI ik iW jH
theorem SR(e q m s h c r)(i:0<=r)(j:r<=1099511627776):
 jT fC gl 156 [.cells [fI e] 9] [.d (ie.mk q m s h c).d,fE r,.jk 0 0] λout ob'=>out=.ret (fH (rW e (.mk q m s h c) r))/\ob'=[.cells [fI e] 9]:=by
 refine nR Tryz.func156 15 1 ?_;refine xP 12 13 9 4 ?_;refine B5 4 [0] [.cells [fI e] 9] ⟨rfl,rfl⟩
theorem VA(h j m s e c)(i:(ie.mk j m s e c).size<=1099511627776):
 jA fC gl 140 [(ie.mk j m s e c).d,fG h] (· =fF (nP (rW h) (.mk j m s e c) 0)):=by
 have b:=N1 (gl:=gl) adx (SR h) _ j m s e c 0 (ae _) (aP _) O;refine oN Tryz.func140 8 ?_;refine rF 10 ?_;refine o1 (AP ?_);refine nC 0 b [1] ?_;refine od 4 ?_;rfl
theorem JN(c e)(W:0<c.length)(Y:c.length<=e.length)(I:c.length<=281474976710656):∀(n:Nat) (k m:Int) (s:fB) (ls:List iq) (args:List ie),(ie.mk k m s ls args).size<=n->(ie.mk k m s ls args).size<=1099511627776->
 jA fC H 111 [(ie.mk k m s ls args).d,nU c,.sl 3 (iR e)] (· =(ld c e (.mk k m s ls args)).d):=by
 intro n
 induction n with
 |zero=>intro k m s ls args h;simp[ie.size] at h
 |succ n ih=>
  intro k m s ls args J hb;simp only[ie.size] at J hb;have hal:=ir args;have hsa:=iJ args;have hll:=jn ls;have hsl:=xF ls;have hpl:=jU c;have hml:=zu (ps:=c) (us:=e) args;refine oN Tryz.func111 54 ?_;refine jq 14 ?_ ?_<;>intro h1
  .omega
  refine rF 27 ?_;refine iP 121 3 rfl<|pt 0 (ι:=Nat) (λi=>[(22,int i)]) (λi=>[.cells [fE k,fE m,fI s,.d (.sl 3 (iR ls)),.d (.sl 5 (im args))] 39,.cells [fE 0,fE 0,fI .empty,fK,fK] 39,.cells [fE k,fE m,fI s,.own 3 3 (iR ((ls.map λx=>x.subst c e).take i)),fK] 39,.row 121 3]) [21,20,7,6,3,1,2] (λi=>i<=ls.length) (λi=>ls.length-i) (0) ([0,1,2,3]) ?I2 ?H2 (hM:= ?M2)
  case I2=>
   exact ak _
  case M2=>
   refine mo ?_ (iU (iU (iU (iU (iU (iU (iU (iU rA))))))))
   repeat (first|exact nw|exact C9|refine jN ?_|refine D3 ?_|refine Ky ?_ ?_|refine jw ?_|refine .cons (.nil rfl) ?_)
  case H2=>
   rintro i U
   try dsimp only at U
   refine jq 6 ?_ ?_<;>intro h6
   .obtain ⟨k2,s2,a2,b⟩:=kj (show i<ls.length by omega);have M:=As b;obtain⟨z,C,F,G⟩:=iq.case ((iq.mk k2 s2 a2).subst c e)
    have q:=Lp (gl:=H) c e Y I _ k2 s2 a2 (ae _) O;rw[G] at q;have r:(ls.map λx=>x.subst c e)[i]? =some (.mk z C F):=(by rw[bt,b,bH,G]);have y:iR ((ls.map λx=>x.subst c e).take i)++[[fD z,fG C,.sl 3 (iR F)]]=iR ((ls.map λx=>x.subst c e).take (i+1)):=FR r;have R:=jn ((ls.map λx=>x.subst c e).take i);have S:=bj (i:=i) (l:=ls.map λx=>x.subst c e);refine ni 6 oz oP ?_ (hat:=(lj b));refine ma 5 [0,1,2,3,4] mixed ?_;refine qB 5 q ?_;refine A2 6 rfl (CW tr [.tmp 31] pC ?_);refine A2 7 rfl (ya tr ?_);refine ga [8] ?_;refine nO 9 ?_;refine iB<|jS 3 ?_;refine rF 2 ?_;rw[y];refine ml 0 (i+1) [0,1,2,3] ?_;exact⟨O,O⟩
   obtain rfl:i=ls.length:=O;refine rF 7 ?_;rw[aS (by rw[bc];omega)];refine rF 8 ?_;refine iP 39 5 rfl<|pt 0 (ι:=Nat) (λj=>[(39,int j)]) (λj=>[.cells [fE k,fE m,fI s,.d (.sl 3 (iR ls)),.d (.sl 5 (im args))] 39,.cells [fE 0,fE 0,fI .empty,fK,fK] 39,.cells [fE k,fE m,fI s,.own 3 3 (iR (ls.map λx=>x.subst c e)),.own 4 5 (im ((lZ c e args).take j))] 39,.row 121 3,.row 39 5]) [38,37,7,6,1,2] (λj=>j<=args.length) (λj=>args.length-j) (0) ([0,1,2,3,4]) ?I3 ?H3 (hM:= ?M3)
   case I3=>
    exact ak _
   case M3=>
    refine mo ?_ (iU (iU (iU (iU (iU (iU (iU rA)))))))
    repeat (first|exact nw|exact C9|refine jN ?_|refine oT ?_|refine D3 ?_|refine Ky ?_ ?_|refine jw ?_|refine .cons (.nil rfl) ?_)
   case H3=>
    rintro j U
    try dsimp only at U
    refine j7 6 ?_ ?_<;>intro h11
    .obtain rfl:j=args.length:=O;refine rF 6 ?_;rw[aS O];refine v8 6 ((ie.mk k m s (ls.map λx=>x.subst c e) (lZ c e args)).d) ?_;rw[ld]
    obtain⟨k2,V,s2,l2,a2,b⟩:=iZ (show j<args.length by omega);have M:=iO b;obtain⟨z,m3,C,l3,F,G⟩:=ie.case (ld c e (.mk k2 V s2 l2 a2))
    have q:=ih k2 V s2 l2 a2 O O;have r:=Cu (ps:=c) (us:=e) b;rw[G] at q r;have y:im ((lZ c e args).take j)++[[fD z,fD m3,fG C,.sl 3 (iR l3),.sl 5 (im F)]]=im ((lZ c e args).take (j+1)):=E0 r;have R:=ir ((lZ c e args).take j);have S:=bj (i:=j) (l:=lZ c e args);refine ni 6 iQ iY ?_ (hat:=(jr b));refine ma 5 [0,1,2,3,4] mixed ?_;refine qB 5 q ?_;refine A2 6 rfl (CW mN [.tmp 48] jz ?_);refine A2 7 rfl (ya mN ?_);refine ga [8] ?_;refine nO 9 ?_;refine iB<|jS 3 ?_;refine rF 2 ?_;rw[y];refine ml 0 (j+1) [0,1,2,3,4] ?_;exact⟨O,O⟩
def Jk(e:List iI)(c:Nat)(h:Int):qZ->Out->List Ob->Prop
 | .ok u U,out,ob'=> ∃(k m:Int) (s:fB) (ls:List iq) (args b:List ie),ig u=(.mk k m s ls args,b)/\out=.ret (.d (.jj [(ie.mk k m s ls args).d,.sl 5 (im b)]))/\ob'=jv e U c h
 | .ja,out,ob'=> ∃U,out=.vk (.d Co)/\ob'=jv e U c h
def RU(i:Nat->List D)(h:List iI)(j:List fB)(c:Int)(e n:Nat):Prop:=
 ∀(k m:Int) (s:fB) (ls:List iq) (args:List ie) (d:Nat) (o:qZ) (b:Int),d<=e->RW h e n (.mk k m s ls args) d o->(ie.mk k m s ls args).size+30000*(e-d)<=1000000000000->Wt (jY h) j (.mk k m s ls args) c->
  jT fC i 68 (jv h d e b) [.jk 3 0,.d (ie.mk k m s ls args).d] (Jk h e b o)
def GY(e:List iI)(c:Nat)(i:Int)(h:ie)(j:List ie):Qo->Out->List Ob->Prop
 | .stuck d1,out,ob'=>out=.ret (.d (.jj [h.d,.sl 5 (im j),.v (.bool false)]))/\ob'=jv e d1 c i
 | .step u d1,out,ob'=> ∃(k m:Int) (s:fB) (ls:List iq) (args b:List ie),u=iF (.mk k m s ls args) b/\out=.ret (.d (.jj [(ie.mk k m s ls args).d,.sl 5 (im b),.v (.bool true)]))/\ob'=jv e d1 c i
 | .ja,out,ob'=> ∃U,out=.vk (.d Co)/\ob'=jv e U c i
theorem Jk.ret{c:List iI}{most:Nat}{e:Int}{o:qZ}{v:SV}{ob':List Ob}(h:Jk c most e o (.ret v) ob'):∃(u:ie) (U:Nat) (k m:Int) (s:fB) (ls:List iq) (args b:List ie),o=.ok u U/\ig u=(.mk k m s ls args,b)/\v=.d (.jj [(ie.mk k m s ls args).d,.sl 5 (im b)])/\ob'=jv c U most e:=by
 cases o with
 |ok u U=>obtain⟨k,m,s,ls,args,b,h1,h2,i⟩:=h;cases h2;exact⟨u,U,k,m,s,ls,args,b,rfl,h1,rfl,i⟩
 |ja=>obtain⟨_,h1,_⟩:=h;cases h1
theorem Jk.vk{i:List iI}{c:Nat}{j:Int}{o:qZ}{v:SV}{e:List Ob}(h:Jk i c j o (.vk v) e):∃b,o=.ja/\v=.d Co/\e=jv i b c j:=by
 cases o with
 |ok u b=>obtain⟨_,_,_,_,_,_,_,k,_⟩:=h;cases k
 |ja=>obtain⟨b,U,k⟩:=h;cases U;exact⟨b,rfl,rfl,k⟩
theorem u6(l p):(im l).drop ((p:Nat):Int).toNat=im (l.drop p):=by
 rw[cb]
 induction l generalizing p with
 |nil=>simp[im]
 |cons a r b=>cases p with
  |zero=>simp[im]
  |succ p=>simp only[im,ff,b]
theorem U9(i:nS c)(e):PtD ((o7 c e).getD (.v (.pointer none))):=by
 rcases AD i e with⟨h,_⟩|⟨_,_,_,_,_,_,_,_,h,_⟩<;>rw[h]
 .exact .inl rfl
 .exact .inr ⟨_,rfl⟩
theorem BL(e:nS c){nm:fB}(h:Vr ((o7 c nm).getD (.v (.pointer none)))=false):(iw nm c).1=0:=by
 rcases AD e nm with⟨_,b⟩|⟨_,_,_,_,_,_,_,_,b,_⟩
 .exact b
 .rw [b] at h;cases h
theorem L5(V:nS e){nm:fB}(h:Vr ((o7 e nm).getD (.v (.pointer none)))=true):∃(i:Int) (sg:fB) (U:List fB) (q v1:Int) (r:fB) (s:List iq) (x:List ie) (y z:Int) (C:fB) (F:List iq) (G:List ie) (H:Int) (c:List (fB×ie)) (I:List fB) (rt:ie) (j:Nat) (k:Int) (ps:List fB) (J M:Int) (st:fB) (lt:List iq) (b:List ie) (num:Int),
 (o7 e nm).getD (.v (.pointer none))=.cp [fD (k-1),.cp [fD i,fG sg,.sl 1 (strs U),fD q,fD v1,fG r,.sl 3 (iR s),.sl 5 (im x),fD y,fD z,fG C,.sl 3 (iR F),.sl 5 (im G),fD H,.sl 6 (qW c)],.sl 1 (strs ps),fD J,fD M,fG st,.sl 3 (iR lt),.sl 5 (im b),fD num]/\
 iw nm e=(k,⟨.mk i sg U (.mk q v1 r s x) (.mk y z C F G) H c,I,rt⟩,j)/\(k=2->ps=U)/\(k=5->ps=I)/\(k=4->ps=U/\num=j/\∃R,c[j]? =some (R,.mk J M st lt b)):=by
 rcases AD V nm with⟨S,_⟩|⟨w,d,ps,⟨J,M,st,lt,b⟩,num,⟨⟨i,sg,U,⟨q,v1,r,s,x⟩,⟨y,z,C,F,G⟩,H,c⟩,I,rt⟩,j,k,S,W,rfl,rfl,Y,h4,h5⟩
 .rw [S] at h;cases h
 .exact ⟨i,sg,U,q,v1,r,s,x,y,z,C,F,G,H,c,I,rt,j,k,ps,J,M,st,lt,b,num,by rw[S];rfl,W,Y,h4,h5⟩
mutual
theorem L4(us:List iq):∀l:iq,l.subst [] us=l
 | .mk k s args=>by
  rw[iq.subst];split
  .rfl
  .rw [Is us args]
theorem Is(us:List iq):∀l:List iq,nH [] us l=l
 |[]=>by simp[nH]
 |a::r=>by rw[nH,L4 us a,Is us r]
end
mutual
theorem K0(us:List iq):∀t:ie,ld [] us t=t
 | .mk k n s ls args=>by
  rw[ld,HF us args]
  congr 1
  exact(bZ λx _=>L4 us x).trans (List.map_id _)
theorem HF(us:List iq):∀l:List ie,lZ [] us l=l
 |[]=>rfl
 |t::r=>by rw[lZ,K0 us t,HF us r]
end
theorem Ad(e i)(q:e.length<=i.length)(j:e.length<=281474976710656)(x m s h c)(r:(ie.mk x m s h c).size<=1099511627776):
 jA fC gl 111 [(ie.mk x m s h c).d,nU e,.sl 3 (iR i)] (· =(ld e i (.mk x m s h c)).d):=by
 rcases cX e.length with h0|h0
 .obtain rfl:=ch h0;rw[K0];refine oN Tryz.func111 54 ?_;refine j7 14 ?_ ?_<;>intro b
  .contradiction
  refine v8 8 ((ie.mk x m s h c).d) ?_;rfl
 .exact JN e i h0 q j _ x m s h c (ae _) r
theorem OR(s c n):lJ (.mk 2 0 s c []) n 0=.mk 2 0 s c []:=by
 rw[lJ];split
 .rfl
 .rw [ju,if_neg Z];rfl
theorem O2 (y : RI q c (RW q c n) e h s W r) :
    (s.length <= ym e -> r = .stuck W) /\ ∀ x, s[ym e]? = some x -> ∃ F, RW q c n x W F /\ (F = .ja -> r = .ja) /\ ∀ k d1, F = .ok k d1 ->
      ((∀ i b us, ¬ qQ q e (ig k).1 (ig k).2 i b us) -> r = .stuck d1) /\ (∀ i b us, qQ q e (ig k).1 (ig k).2 i b us -> ∃ i b us, qQ q e (ig k).1 (ig k).2 i b us /\ (c <= d1 -> r = .ja) /\
        (d1 < c -> (ld e.d.ps us b).size <= 20000 /\ (rb e h s (ig k).2 i b us).size <= 20000 /\ r = .step (rb e h s (ig k).2 i b us) (d1 + 1))) := by
  refine ⟨λS => ?_, λx I => ?_⟩
  · rcases y with ⟨_, j⟩ | ⟨x, j, _⟩
    · exact j
    · have := (aJ.1 j).1; omega
  · rcases y with ⟨j, _⟩ | ⟨V, j, z⟩
    · have := (aJ.1 I).1; omega
    · rw [I] at j; cases j
      rcases z with ⟨z, U⟩ | ⟨k, d1, z, U⟩
      · exact ⟨_, z, λ_ => U, λ_ _ h => (by cases h)⟩
      · refine ⟨_, z, λh => (by cases h), λJ M G => ?_⟩
        cases G
        rcases U with ⟨U, C⟩ | ⟨i, b, us, U, C⟩
        · exact ⟨λ_ => C, λi b us h => absurd h (U i b us)⟩
        · refine ⟨λh => absurd U (h i b us), λ_ _ _ _ => ⟨i, b, us, U, λG => ?_, λG => ?_⟩⟩
          · rcases C with ⟨_, H⟩ | ⟨H, _⟩
            · exact H
            · omega
          · rcases C with ⟨H, _⟩ | ⟨_, R⟩
            · omega
            · exact R
theorem Mq{i:fB}{h:ie}{q:List ie}{p:Nat}{c X cs:List ie}{x:ie}:∀{j m:Nat},j<=m->x∈DS i h q p c X cs j->x∈DS i h q p c X cs m
 |j,0,k,b=>by
  obtain rfl:j=0:=O;exact b
 |j,m+1,k,b=>by
  by_cases e:j=m+1
  .subst e;exact b
  .rw [DS];exact cQ _ (Mq (m:=m) O b)
theorem O1{cs:List ie}(c:x∈DS e.d.nm h (az.take (e.d.ar.toNat+1+e.d.cs.length)) e.d.ar.toNat (az.take e.d.ar.toNat) (lQ cs.length (ld e.d.ps us cty)) cs cs.length):x.size<=(rb e h az cs i cty us).size:=by
 obtain⟨q,b⟩:=b7 c;have k:=iO b;unfold rb;rw[jG,jG];omega
set_option maxHeartbeats 3200000 in
theorem O3 {C : List iI} (hFE : nS C) {ps : List fB} {c : Int} (hcc : 0 <= c /\ c <= 1000000000) {r n : Nat} (hm : r <= 1000000) (hW : RU gl C ps c r n)
    (kd : Int) (sd : fB) (pd : List fB) (k1 n1 : Int) (s1 : fB) (l1 : List iq) (a1 : List ie) (k2 n2 : Int) (s2 : fB) (l2 : List iq) (a2 : List ie) (ad : Int) (F : List (fB × ie)) (rp : List fB) (rt : ie) (kr nr : Int) (sr1 : fB) (lr : List iq) (ar : List ie) (num : Int)
    (hem : (⟨.mk kd sd pd (.mk k1 n1 s1 l1 a1) (.mk k2 n2 s2 l2 a2) ad F, rp, rt⟩ : iI) ∈ C) (hk : kd = 3) (G : fB) (z : List iq) (y : List ie) (d : Nat) (Y : Int) (hdm : d <= r)
    (hh : Wt (jY C) ps (.mk 2 0 G z []) c) (hzh : (ie.mk 2 0 G z []).size <= 1000000000000) (ha : ∀ x ∈ y, Wt (jY C) ps x c) (hza : ij y <= 1000000000000) (hgas : ∀ x ∈ y, x.size + 30000 * (r - d) <= 1000000000000)
    (io : Qo) (hRI : RI C r (RW C r n) ⟨.mk kd sd pd (.mk k1 n1 s1 l1 a1) (.mk k2 n2 s2 l2 a2) ad F, rp, rt⟩ (.mk 2 0 G z []) y d io) :
    jT fC gl 112 (jv C d r Y) [.jk 3 0, .d (ie.mk 2 0 G z []).d, .d (.sl 5 (im y)), .d (.cp [.v (.int .i64 4), .cp [.v (.int .i64 kd), .v (.string sd), .sl 1 (strs pd), .v (.int .i64 k1), .v (.int .i64 n1), .v (.string s1), .sl 3 (iR l1), .sl 5 (im a1), .v (.int .i64 k2), .v (.int .i64 n2), .v (.string s2), .sl 3 (iR l2), .sl 5 (im a2), .v (.int .i64 ad), .sl 6 (qW F)], .sl 1 (strs rp), .v (.int .i64 kr), .v (.int .i64 nr), .v (.string sr1), .sl 3 (iR lr), .sl 5 (im ar), .v (.int .i64 num)])]
      (GY C r Y (.mk 2 0 G z []) y io) := by
  have hE := hFE.ok
  have hent := hE.AZ _ hem
  obtain ⟨har0, har1⟩ := hent.ar hk
  obtain ⟨hty, htz⟩ := hent.ty
  have hcl0 := hent.cl
  have hpd := hent.ps
  simp only [mJ.ar, mJ.ty, mJ.cs, mJ.ps] at har0 har1 hty htz hcl0 hpd
  obtain ⟨P, rfl⟩ : ∃ P : Nat, ad = P := ⟨ad.toNat, O⟩
  have hpz := nE _ (.mk k1 n1 s1 l1 a1) (ae _)
  have hbd := x9 (gl := gl) (B := 1099511627776) k1 n1 s1 l1 a1 (hty.sh O) O
  have hbl : (im (lQ (iv (.mk k1 n1 s1 l1 a1)) (.mk k1 n1 s1 l1 a1))).length = iv (.mk k1 n1 s1 l1 a1) := by rw [ir, jx _ _ (ae _)]
  obtain ⟨kE, mE, sE, lE, aE, hEnd⟩ := ie.case (jQ (iv (.mk k1 n1 s1 l1 a1)) (.mk k1 n1 s1 l1 a1))
  rw [hEnd] at hbd
  have hccl := sZ F
  have hal := ir y
  have hsa := iJ y
  generalize hE' : (⟨.mk kd sd pd (.mk k1 n1 s1 l1 a1) (.mk k2 n2 s2 l2 a2) (P : Int) F, rp, rt⟩ : iI) = e at hRI
  have heA : ym e = P + 1 + F.length + (iv (.mk k1 n1 s1 l1 a1) - P) := by rw [<- hE']; unfold ym; simp only [mJ.ar, mJ.ty, mJ.cs, cb]
  have heP : e.d.ar.toNat = P := by rw [<- hE']; simp only [mJ.ar, cb]
  have heC : e.d.cs = F := by rw [<- hE']; rfl
  have heN : e.d.nm = sd := by rw [<- hE']; rfl
  have hePs : e.d.ps = pd := by rw [<- hE']; rfl
  have heAr : e.d.ar = (P : Int) := by rw [<- hE']; rfl
  have hek : e.d.k = 3 := by rw [<- hE']; exact hk
  have hem' : e ∈ C := by rw [<- hE']; exact hem
  have hent' := hE.AZ _ hem'
  obtain ⟨hI1, hI2⟩ := O2 hRI
  generalize hA : ym e = A at heA hI1 hI2
  have hAt : (P : Int) + 1 + ((qW F).length : Int) + ((im (lQ (iv (.mk k1 n1 s1 l1 a1)) (.mk k1 n1 s1 l1 a1))).length : Int) - P = (A : Int) := O
  unfold jv
  refine nR Tryz.func112 264 4 ?_; refine ny 23 hbd ?_; refine ma 9 [0, 1, 2, 3, 4, 5, 6, 7, 8, 9, 10] mixed ?_; refine iB<|jS 4 ?_; refine jS 1 ?_; refine jS 2 ?_; refine sH 1 ?_
  refine rF 5 ?_; rw [hAt]
  refine jq 7 ?_ ?_ <;> intro h5
  · refine jD 11 (.jj [(ie.mk 2 0 G z []).d, .sl 5 (im y), .v (.bool false)]) [0, 1, 2, 3] (jv C d r Y) ?_
    · rw [hI1 O]; exact ⟨rfl, rfl⟩
  obtain ⟨kx, mx, sx, lx, ax, hgx⟩ := iZ (show A < y.length by omega)
  have hwx := ha _ (aO hgx)
  have hgg := hgas _ (aO hgx)
  obtain ⟨o', hRx, hti, hoi⟩ := hI2 _ hgx
  have hWx := hW kx mx sx lx ax d o' Y hdm hRx hgg hwx
  refine ni 7 iQ iY ?_ (hat := (jr hgx)); refine rF 1 ?_; refine oc (iX ab0 rfl rfl rfl rfl (hWx) [0, 1, 2, 3] (jN (oT (.cons rfl .jK (jN .nil)))) rfl rfl rfl rfl (jw (oq .nil)) (λs ob' hq => ?_) (λs ob' hq => ?_))
  rotate_left
  · obtain ⟨d', ho', V, rfl⟩ := hq.vk
    cases V; refine ⟨_, _, _, _, _, rfl, rfl, rfl, rfl, rfl, ?_⟩; refine ss ([0, 1, 2, 3]) (jv C d' r Y) rfl rfl rfl (by repeat (first | exact nw | refine jN ?_ | refine oT ?_ | refine rl ?_)) ?_
    rw [hti ho']; exact ⟨d', rfl, rfl⟩
  obtain ⟨⟨kq, mq, sq, lq, aq⟩, d1, kh, mh, sh, lh, ah, cs, ho', hS, V, rfl⟩ := hq.ret; cases V; obtain ⟨hst, hct0⟩ := hoi _ _ ho'
  subst ho'
  rw [hS] at hst hct0
  obtain ⟨hj1, hj2, hj3, hj4⟩ := vB hE hcc.1 n hRx hdm hwx; obtain ⟨hqok, hqH, hqA, _⟩ := Wt.spine _ (ae _) hj1
  have hss := mQ _ (.mk kq mq sq lq aq) (ae _)
  rw [hS] at hss hqH hqA
  simp only at hss hqH hqA hst hct0
  have hcsl := ir cs
  have hcss := iJ cs
  refine ⟨_, _, _, _, _, rfl, rfl, rfl, rfl, rfl, ?_⟩; refine ma 9 [0, 1, 2, 3, 4, 5, 6, 7, 8] mixed ?_; refine A2 (T := λ_ => False) 9 rfl (FC LU rfl rfl rfl rfl rfl rfl ?_); refine ga [10] ?_; refine iB<|ma 3 [0, 1, 2, 3] mixed ?_; refine asp 93 (λH => ?_) (λH => ?_)
  · (try simp (decide := true) only [lP] at H)
    refine A7 4 rfl ?_ (hlit := gP); refine A7 5 rfl ?_ (hlit := gP); refine A1 6 rfl (oH ⟨_, rfl, ?_⟩); refine ga [7] ?_; refine P6 97 (λH => ?_) (λH => ?_)
    · simp (decide := true) only [lP] at H
    (try simp (decide := true) only [lP] at H); refine A7 8 rfl ?_ (hlit := gP); refine A7 9 rfl ?_ (hlit := gP); refine A7 10 rfl ?_ (hlit := gP); refine A7 11 rfl ?_ (hlit := gP); refine A7 12 rfl ?_ (hlit := gP); refine A1 13 rfl (oH ⟨_, rfl, ?_⟩); refine ga [14] ?_; refine P6 104 (λH => ?_) (λH => ?_)
    · simp (decide := true) only [lP] at H
    (try simp (decide := true) only [lP] at H); refine A7 15 rfl ?_ (hlit := gP); refine A7 16 rfl ?_ (hlit := gP); refine A7 17 rfl ?_ (hlit := gP); refine A7 18 rfl ?_ (hlit := gP); refine A7 19 rfl ?_ (hlit := gP); refine A7 20 rfl ?_ (hlit := gP); refine A7 21 rfl ?_ (hlit := gP); refine A7 22 rfl ?_ (hlit := gP); refine A7 23 rfl ?_ (hlit := gP); refine A7 24 rfl ?_ (hlit := gP); refine A7 25 rfl ?_ (hlit := gP); refine A7 26 rfl ?_ (hlit := gP); refine A1 27 rfl (oH ⟨_, rfl, ?_⟩); refine iB<|Eo 1 ?_; refine jD 11 (.jj [(ie.mk 2 0 G z []).d, .sl 5 (im y), .v (.bool false)]) [0, 1, 2, 3] (jv C d1 r Y) ?_
    · rw [hst λi cty us h => ?_]
      · exact ⟨rfl, rfl⟩
      · obtain ⟨s', e2, nm', h3, W, h5, h6, h7⟩ := h
        simp only [ie.mk.injEq] at h3
        obtain ⟨hq2, _, rfl, rfl, _⟩ := h3
        first
          | (rw [hF] at W
             simp only [bW] at W
             obtain ⟨h8, rfl, rfl⟩ := W
             first
               | omega
               | (rw [heN] at h5; exact absurd (show sg' = sd from h5) (by assumption)))
          | (have h8 := BL hFE (nm := sh) (by assumption)
             rw [W] at h8
             simp at h8)
          | omega
  (try simp (decide := true) only [lP] at H); refine A6 4 rfl (mv ⟨_, rfl, ?_⟩); refine A6 5 rfl (SZ TZ rfl rfl (U9 hFE sh) ⟨_, rfl, ?_⟩); refine A1 6 rfl (sP ⟨_, rfl, ?_⟩); refine ga [7] ?_; refine asp 97 (λH => ?_) (λH => ?_)
  · (try simp (decide := true) only [lP] at H)
    refine A7 8 rfl ?_ (hlit := gP); refine A7 9 rfl ?_ (hlit := gP); refine A7 10 rfl ?_ (hlit := gP); refine A7 11 rfl ?_ (hlit := gP); refine A7 12 rfl ?_ (hlit := gP); refine A1 13 rfl (oH ⟨_, rfl, ?_⟩); refine ga [14] ?_; refine P6 104 (λH => ?_) (λH => ?_)
    · simp (decide := true) only [lP] at H
    (try simp (decide := true) only [lP] at H); refine A7 15 rfl ?_ (hlit := gP); refine A7 16 rfl ?_ (hlit := gP); refine A7 17 rfl ?_ (hlit := gP); refine A7 18 rfl ?_ (hlit := gP); refine A7 19 rfl ?_ (hlit := gP); refine A7 20 rfl ?_ (hlit := gP); refine A7 21 rfl ?_ (hlit := gP); refine A7 22 rfl ?_ (hlit := gP); refine A7 23 rfl ?_ (hlit := gP); refine A7 24 rfl ?_ (hlit := gP); refine A7 25 rfl ?_ (hlit := gP); refine A7 26 rfl ?_ (hlit := gP); refine A1 27 rfl (oH ⟨_, rfl, ?_⟩); refine iB<|Eo 1 ?_; refine jD 11 (.jj [(ie.mk 2 0 G z []).d, .sl 5 (im y), .v (.bool false)]) [0, 1, 2, 3] (jv C d1 r Y) ?_
    · rw [hst λi cty us h => ?_]
      · exact ⟨rfl, rfl⟩
      · obtain ⟨s', e2, nm', h3, W, h5, h6, h7⟩ := h
        simp only [ie.mk.injEq] at h3
        obtain ⟨hq2, _, rfl, rfl, _⟩ := h3
        first
          | (rw [hF] at W
             simp only [bW] at W
             obtain ⟨h8, rfl, rfl⟩ := W
             first
               | omega
               | (rw [heN] at h5; exact absurd (show sg' = sd from h5) (by assumption)))
          | (have h8 := BL hFE (nm := sh) (by assumption)
             rw [W] at h8
             simp at h8)
          | omega
  (try simp (decide := true) only [lP] at H); refine A6 8 rfl (mv ⟨_, rfl, ?_⟩)
  obtain ⟨kg, sg', pg, u1, v1, x1, y1, z1, u2, v2, x2, y2, z2, ag, cg, rg, rt', jf, kf, pf, kK, mK, sK, lK, aK, nf, hm1, hF, _, _, hF4⟩ := L5 hFE (nm := sh) (by simpa using H)
  rw [hm1]
  refine A6 9 rfl (XB ⟨_, rfl, ?_⟩); refine A6 10 rfl (WL Ab ⟨_, rfl, ?_⟩); refine A6 11 rfl (Vi KV ⟨_, rfl, ?_⟩); refine A6 12 rfl (ine ⟨_, rfl, ?_⟩); refine A1 13 rfl (sP ⟨_, rfl, ?_⟩); refine ga [14] ?_; refine asp 104 (λH => ?_) (λH => ?_)
  · (try simp (decide := true) only [lP] at H)
    refine A7 15 rfl ?_ (hlit := gP); refine A7 16 rfl ?_ (hlit := gP); refine A7 17 rfl ?_ (hlit := gP); refine A7 18 rfl ?_ (hlit := gP); refine A7 19 rfl ?_ (hlit := gP); refine A7 20 rfl ?_ (hlit := gP); refine A7 21 rfl ?_ (hlit := gP); refine A7 22 rfl ?_ (hlit := gP); refine A7 23 rfl ?_ (hlit := gP); refine A7 24 rfl ?_ (hlit := gP); refine A7 25 rfl ?_ (hlit := gP); refine A7 26 rfl ?_ (hlit := gP); refine A1 27 rfl (oH ⟨_, rfl, ?_⟩); refine iB<|Eo 1 ?_; refine jD 11 (.jj [(ie.mk 2 0 G z []).d, .sl 5 (im y), .v (.bool false)]) [0, 1, 2, 3] (jv C d1 r Y) ?_
    · rw [hst λi cty us h => ?_]
      · exact ⟨rfl, rfl⟩
      · obtain ⟨s', e2, nm', h3, W, h5, h6, h7⟩ := h
        simp only [ie.mk.injEq] at h3
        obtain ⟨hq2, _, rfl, rfl, _⟩ := h3
        first
          | (rw [hF] at W
             simp only [bW] at W
             obtain ⟨h8, rfl, rfl⟩ := W
             first
               | omega
               | (rw [heN] at h5; exact absurd (show sg' = sd from h5) (by assumption)))
          | (have h8 := BL hFE (nm := sh) (by assumption)
             rw [W] at h8
             simp at h8)
          | omega
  (try simp (decide := true) only [lP] at H); refine A6 15 rfl (mv ⟨_, rfl, ?_⟩); refine A6 16 rfl (XB ⟨_, rfl, ?_⟩); refine A6 17 rfl (WL Ab ⟨_, rfl, ?_⟩); refine A6 18 rfl (Vi YP ⟨_, rfl, ?_⟩); refine A6 19 rfl (XB ⟨_, rfl, ?_⟩); refine A6 20 rfl (WL R8 ⟨_, rfl, ?_⟩); refine A6 21 rfl (Vi R7 ⟨_, rfl, ?_⟩); refine A6 22 rfl (mv ⟨_, rfl, ?_⟩); refine A6 23 rfl (XB ⟨_, rfl, ?_⟩); refine A6 24 rfl (WL R8 ⟨_, rfl, ?_⟩); refine A6 25 rfl (Vi R7 ⟨_, rfl, ?_⟩); refine A6 26 rfl (sne ⟨_, rfl, ?_⟩); refine A1 27 rfl (sP ⟨_, rfl, ?_⟩); refine iB<|jq 1 ?_ ?_ <;> intro h9
  · refine jD 11 (.jj [(ie.mk 2 0 G z []).d, .sl 5 (im y), .v (.bool false)]) [0, 1, 2, 3] (jv C d1 r Y) ?_
    · rw [hst λi cty us h => ?_]
      · exact ⟨rfl, rfl⟩
      · obtain ⟨s', e2, nm', h3, W, h5, h6, h7⟩ := h
        simp only [ie.mk.injEq] at h3
        obtain ⟨hq2, _, rfl, rfl, _⟩ := h3
        first
          | (rw [hF] at W
             simp only [bW] at W
             obtain ⟨h8, rfl, rfl⟩ := W
             first
               | omega
               | (rw [heN] at h5; exact absurd (show sg' = sd from h5) (by assumption)))
          | (have h8 := BL hFE (nm := sh) (by assumption)
             rw [W] at h8
             simp at h8)
          | omega
  have hkh : kh = 2 := O
  subst hkh
  have hkf : kf = 4 := O
  subst hkf
  obtain ⟨rfl, rfl⟩ : mh = 0 /\ ah = [] := (by
    rcases hqH.2.2 with h3 | h3 | h3 | h3 | h3
    · omega
    · omega
    · exact ⟨h3.2.1, ch h3.2.2.2⟩
    · omega
    · omega)
  have hee := yF hE hem' (n9 hF Z) (by rw [heN]; first | exact Eq.symm (by assumption) | exact (Decidable.not_not.mp (by assumption)).symm)
  have hF' : iw sh C = (4, e, jf) := (by rw [hF, <- hee])
  have hcg : F = cg := (by rw [<- heC, hee]; rfl)
  have hpg : pd = pg := (by rw [<- hePs, hee]; rfl)
  obtain ⟨hpf, hnf, nm', hci⟩ := hF4 rfl
  rw [<- hcg] at hci
  rw [<- hpg] at hpf
  refine rF 3 ?_; rw [hpf, hnf]
  clear hF
  have hct1 : ∀ xs : List ie, xs.length = iv (.mk kK mK sK lK aK) -> qQ C e (.mk 2 0 sh lh []) xs jf (.mk kK mK sK lK aK) lh := (λxs hl => ⟨sh, e, nm', rfl, hF', rfl, by rw [heC]; exact hci, hl⟩)
  have hno : ∀ i cty us, qQ C e (.mk 2 0 sh lh []) cs i cty us -> jf = i /\ ie.mk kK mK sK lK aK = cty /\ lh = us /\ cs.length = iv (.mk kK mK sK lK aK) := (λi cty us h => by
    obtain ⟨s', e2, nm2, h3, W, h5, h6, h7⟩ := h
    simp only [ie.mk.injEq] at h3
    obtain ⟨_, _, rfl, rfl, _⟩ := h3
    rw [hF'] at W
    simp only [bW] at W
    obtain ⟨_, rfl, rfl⟩ := W
    rw [heC, hci] at h6
    simp only [an, bW] at h6
    obtain ⟨_, rfl⟩ := h6; exact ⟨rfl, rfl, rfl, h7⟩)
  obtain ⟨hi1, hi2, hi3, hi4, hi5, _, hi7⟩ := xl hE hem' hqH (hct1 (List.replicate (iv (.mk kK mK sK lK aK)) iu) (List.length_replicate ..))
  rw [heC] at hi1
  rw [hePs] at hi3 hi4
  rw [heAr] at hi7
  have hlv := Ad (gl := gl) pd lh O O kK mK sK lK aK O
  obtain ⟨I, J, M, R, S, hTY⟩ := ie.case (ld pd lh (.mk kK mK sK lK aK))
  rw [hTY] at hlv
  have hpTY : iv (.mk I J M R S) = iv (.mk kK mK sK lK aK) := (by rw [<- hTY, By])
  have hTW : Wt (jY C) ps (.mk I J M R S) 0 := (by rw [<- hTY]; exact hi4.Ny O hi2)
  have hpCT := nE _ (.mk kK mK sK lK aK) (ae _)
  have hb5 := x9 (gl := gl) (B := ((ie.mk I J M R S).size : Int)) I J M R S (hTW.sh O) O
  obtain ⟨kF, mF, sF, lF, aF, hEnd5⟩ := ie.case (jQ (iv (.mk I J M R S)) (.mk I J M R S))
  rw [hEnd5] at hb5
  have hXl := jx (iv (.mk I J M R S)) (.mk I J M R S) (ae _)
  have hXt := ir (lQ (iv (.mk I J M R S)) (.mk I J M R S))
  have hXW := hTW.yN (iv (.mk I J M R S)) (ae _)
  refine xo (ι := Unit) (λ_ => [(20, .d (.sl 5 (im (lQ (iv (.mk I J M R S)) (.mk I J M R S)))))]) (λ_ => [pE (C.map (·.d)), dR, .jK (o7 C), mO d1 r Y, tO 2 0 G z [], zO, tO 2 0 sh lh []]) [19, 18, 16, 15, 14, 11, 8, 5, 0, 2] (λ_ => True) rfl ?A1 ?B1
  case A1 =>
    refine ma 0 [0, 1, 2, 3, 4, 5, 6, 7, 8, 9] mixed ?_; refine ki (rs := [10, 15]) gN rfl ⟨?_, ?_, trivial⟩
    · skip
      refine A4 10 rfl (cv ae4 rfl rfl (hlv) (oq (jw (jw .nil))) ?_); refine ki (rs := [11, 15]) gN rfl ⟨?_, ?_, trivial⟩
      · skip
        refine A4 11 rfl (cv Zb rfl rfl (hb5) (jw (jw (jw .nil))) ?_); refine ga [12, 13, 14] ?_; refine A2 15 rfl (AW jz ?_); refine ga [16] ?_; refine nO 17 ?_; refine iB<|ml 0 () [0, 1, 2, 3, 4, 5, 7] ?_
        trivial
      · skip
        refine A4 15 rfl (AW jz ?_); refine qB 11 hb5 ?_; refine ga [12, 13, 14, 16] ?_; refine nO 17 ?_; refine iB<|ml 0 () [0, 1, 2, 3, 4, 5, 7] ?_
        trivial
    · skip
      refine A4 15 rfl (AW jz ?_); refine qB 10 hlv ?_; refine qB 11 hb5 ?_; refine ga [12, 13, 14, 16] ?_; refine nO 17 ?_; refine iB<|ml 0 () [0, 1, 2, 3, 4, 5, 7] ?_
      trivial
  case B1 =>
    rintro _ hcut
    try dsimp only at hcut
    refine jq 10 ?_ ?_ <;> intro h12
    · refine jD 11 (.jj [(ie.mk 2 0 G z []).d, .sl 5 (im y), .v (.bool false)]) [0, 1, 2, 3] (jv C d1 r Y) ?_
      · rw [hst λi cty us h => ?_]
        · exact ⟨rfl, rfl⟩
        · have := (hno i cty us h).2.2.2; omega
    have hpl : cs.length = iv (.mk kK mK sK lK aK) := O
    obtain ⟨i', cty', us', hct', htir, hstp⟩ := hct0 _ _ _ (hct1 cs hpl); obtain ⟨rfl, rfl, rfl, _⟩ := hno _ _ _ hct'; refine rF 5 ?_; refine oc (iX RH rfl rfl rfl rfl (xQ C d1 r Y O) [0, 1, 2, 3] (jN (oT (.cons rfl .jK (jN .nil)))) rfl rfl rfl rfl (jw .nil) (λs ob' hq => ?_) (λs ob' hq => ?_))
    rotate_left
    · rcases hq with ⟨_, V, _⟩ | ⟨hle, V, rfl⟩
      · cases V
      cases V; refine ⟨_, _, _, _, _, rfl, rfl, rfl, rfl, rfl, ?_⟩; refine ss ([0, 1, 2, 3]) (jv C d1 r Y) rfl rfl rfl (by repeat (first | exact nw | refine jN ?_ | refine oT ?_ | refine rl ?_)) ?_
      rw [htir hle]; exact ⟨_, rfl, rfl⟩
    rcases hq with ⟨hlt, V, rfl⟩ | ⟨_, V, _⟩
    rotate_left
    · cases V
    cases V; obtain ⟨hz1, hz2, hio⟩ := hstp hlt
    rw [hePs, hTY] at hz1
    have hPc : P <= cs.length := O
    have htl : (y.take P).length = P := (by rw [bj]; omega)
    have htl2 := ir (y.take P)
    have hdl : (cs.drop P).length = cs.length - P := bK
    have hdl2 := ir (cs.drop P)
    have hgl : (y.take P ++ cs.drop P).length = cs.length := (by rw [aN]; omega)
    have hgl2 := ir (y.take P ++ cs.drop P)
    have hez := nj (iv (.mk I J M R S)) (.mk I J M R S)
    obtain ⟨HY, hHY⟩ : ∃ f : Nat -> List ie, f = DS sd (.mk 2 0 G z []) (y.take (P + 1 + F.length)) P (y.take P) (lQ (iv (.mk I J M R S)) (.mk I J M R S)) cs := ⟨_, rfl⟩
    have hY0 : HY P = [] := (by rw [hHY]; exact Kf P (ae _))
    have hYl : ∀ j, (HY j).length <= j := (λj => by rw [hHY]; exact Q7 j)
    have hIT : rb e (.mk 2 0 G z []) y cs jf (.mk kK mK sK lK aK) lh = iF (iF (iF (y.getD (P + 1 + jf) iu) (cs.drop P)) (HY cs.length)) (y.drop (A + 1)) := (by
      rw [rb, heP, hePs, hTY, heN, heC, hA, hHY, hpTY, <- hpl])
    have hYz : ∀ j x, j <= cs.length -> x ∈ HY j -> x.size <= 20000 := (λj x hj hx => by
      have h3 : x ∈ DS sd (.mk 2 0 G z []) (y.take (P + 1 + F.length)) P (y.take P) (lQ cs.length (.mk I J M R S)) cs cs.length := (by
        rw [hHY, hpTY, <- hpl] at hx; exact Mq hj hx)
      refine aQ (O1 (e := e) (h := .mk 2 0 G z []) (az := y) (i := jf) (cty := .mk kK mK sK lK aK) (us := lh) (cs := cs) ?_) hz2
      rw [heN, heP, heC, hePs, hTY]; exact h3)
    obtain ⟨km, mm, sm, lm, am, hgm⟩ := iZ (show P + 1 + jf < y.length by omega)
    have hidx40 : (im y)[((P : Int) + 1 + (jf : Int)).toNat]? = some [.v (.int .i64 km), .v (.int .i64 mm), .v (.string sm), .sl 3 (iR lm), .sl 5 (im am)] := (by rw [show ((P : Int) + 1 + (jf : Int)).toNat = P + 1 + jf by omega, rm hgm]; rfl)
    have hcat := MY (gl := gl) (y.take P) (cs.drop P) O O
    have hF1 : (P : Int) + 1 + ((qW F).length : Int) = ((P + 1 + F.length : Nat) : Int) := O
    have hft : (im y).take ((P : Int) + 1 + ((qW F).length : Int)).toNat = im (y.take (P + 1 + F.length)) := (by rw [hF1]; exact qG y _)
    have hfl : (y.take (P + 1 + F.length)).length = P + 1 + F.length := (by rw [bj]; omega)
    have hfl2 := ir (y.take (P + 1 + F.length))
    refine ⟨_, _, _, _, _, rfl, rfl, rfl, rfl, rfl, ?_⟩; refine ma 3 [0, 1] mixed ?_; refine A1 2 rfl (pa iQ iY rfl rfl rfl rfl rfl rfl O (qG y P) ⟨_, rfl, ?_⟩); refine ga [3, 4] ?_; refine A1 5 rfl (sJ iQ iY rfl rfl rfl rfl rfl rfl O (u6 cs P) ⟨_, rfl, ?_⟩); refine A2 6 rfl (CW acr [.tmp 146, .tmp 149] Zu ?_); refine qB 7 hcat ?_; refine ga [8] ?_; refine iB<|rF 5 ?_; refine o1 (sJ iQ iY rfl rfl rfl rfl rfl rfl O (u6 cs P) ?_); refine nC 0 (KX (cs.drop P) O) [] ?_; refine pt 11 (ι := Nat) (λj => [(24, int j), (23, .own 7 5 (im (cs.drop P ++ HY j)))]) (λj => [pE (C.map (·.d)), dR, .jK (o7 C), mO (d1 + 1) r Y, tO 2 0 G z [], zO, tO 2 0 sh lh [], .row 39 5]) [22, 20, 19, 18, 16, 15, 14, 11, 8, 5, 2] (λj => P <= j /\ j <= cs.length) (λj => cs.length - j) (P) ([0, 1, 2, 3, 4, 5, 6, 8]) ⟨ae _, hPc⟩ ?_ (hM := by exact oL (iU (j8 rfl (by exact Fit.of_eq (by rw [hY0, bR]; rfl)))))
    rintro j k
    try dsimp only at k
    refine j7 9 ?_ ?_ <;> intro h18
    · obtain rfl : j = cs.length := O
      have hol := ir (cs.drop P ++ HY cs.length)
      have hol2 := hYl cs.length
      rw [aN] at hol
      have hdA : (im y).drop ((A : Int) + 1).toNat = im (y.drop (A + 1)) := (by rw [show ((A : Int) + 1).toNat = A + 1 by omega]; exact (u6 y (A + 1)))
      have hdAl := ir (y.drop (A + 1))
      have hdAl2 : (y.drop (A + 1)).length = y.length - (A + 1) := bK
      refine ma 6 [0, 1] mixed ?_; refine A1 2 rfl (Mm ⟨_, rfl, ?_⟩); refine ga [3, 4, 5, 6] ?_; refine A1 7 rfl (Mm ⟨_, rfl, ?_⟩); refine pQ 8 iQ iY ?_ (hat := hidx40); refine ga [9, 10, 11, 12] ?_; refine A1 13 rfl (Mm ⟨_, rfl, ?_⟩); refine A1 14 rfl (sJ iQ iY rfl rfl rfl rfl rfl rfl O (hdA) ⟨_, rfl, ?_⟩); refine A2 15 rfl (px mN rfl rfl rfl (.inl rfl) rfl rfl rfl (.inl rfl) Z (by (simp only [maxLen]; omega)) rfl rfl rfl ?_); refine nO 16 ?_; refine ga [17, 18] ?_; refine iB<|jD 2 (.jj [(ie.mk km mm sm lm am).d, .sl 5 (im (cs.drop P ++ HY cs.length) ++ im (y.drop (A + 1))), .v (.bool true)]) [0, 1, 2, 3] (jv C (d1 + 1) r Y) ?_
      · rw [hio]
        refine ⟨km, mm, sm, lm, am, cs.drop P ++ HY cs.length ++ y.drop (A + 1), ?_, ?_, rfl⟩
        · rw [hIT, ba, hgm, cY, Dr, Dr]
        · rw [ll (cs.drop P ++ HY cs.length)]
    obtain ⟨kA, mA, sA, lA, aA, hgA⟩ := iZ (show j < (lQ (iv (.mk I J M R S)) (.mk I J M R S)).length by omega)
    have hAz := iO hgA
    have hhas := VA (gl := gl) sd kA mA sA lA aA O
    have hAj : (lQ (iv (.mk I J M R S)) (.mk I J M R S)).getD j iu = .mk kA mA sA lA aA := (by rw [ba, hgA]; rfl)
    have hn1 : nP (rW sd) (.mk kA mA sA lA aA) 0 = false -> HY (j + 1) = HY j := (λh => by rw [hHY]; exact O9 hAj (λh2 => by rw [h] at h2; exact absurd h2.2 Z))
    refine ma 6 [0, 1] mixed ?_; refine pQ 2 iQ iY ?_ (hat := (jr hgA)); refine ga [3, 4, 5, 6, 7] ?_; refine qB 8 hhas ?_; refine ga [9] ?_; refine iB<|jq 1 ?_ ?_ <;> intro h20
    · refine jS 6 ?_; refine ml 2 (j + 1) ([0, 1, 2, 3, 4, 5, 6, 7]) ⟨⟨O, O⟩, O⟩ (hM := by exact oL (iU (yu rfl (by first | exact Fit.of_eq (by rw [hn1 (by simpa using h20)]; rfl) | exact Fit.of_eq (by rw [hnx]; rfl)) (iU (iU (iU (iU (iU (iU (iU (iU (iU (iU (iU rA))))))))))))))
    have hAh : nP (rW sd) (.mk kA mA sA lA aA) 0 = true := (by simpa using h20)
    obtain ⟨kC, mC, sC, lC, aC, hgC⟩ := iZ (show j < cs.length by omega)
    have hCj : cs.getD j iu = .mk kC mC sC lC aC := (by rw [ba, hgC]; rfl)
    have hCw := hqA _ (aO hgC)
    have hCz := iO hgC
    obtain ⟨gv, hgv⟩ : ∃ x, x = (y.take P ++ cs.drop P).take j := ⟨_, rfl⟩
    have hgv2 : gv = y.take P ++ (cs.drop P).take (j - P) := (by rw [hgv, di, htl, aS O])
    have hgvl : gv.length = j := (by rw [hgv, bj]; omega)
    have hgvw : ∀ x ∈ gv, Wt (jY C) ps x c /\ x.size <= 1000000000000 := (λx hx => by
      rw [hgv] at hx
      rcases bn.1 (bJ hx) with hx | hx
      · have hx := bJ hx
        have := hgas x hx
        exact ⟨ha x hx, O⟩
      · have hx := cF hx
        obtain ⟨q, hq⟩ := b7 hx
        have := iO hq
        exact ⟨hqA x hx, O⟩)
    have hAW := hXW.2 j _ hgA
    have hins := IA (gl := gl) (B := 1099511627776) (aP _) gv (λv hv => ⟨(hgvw v hv).1.num (by have := (hgvw v hv).2; omega), by have := (hgvw v hv).2; omega⟩) O kA mA sA lA aA (hAW.num O) O
    have hW1 : Wt (jY C) ps (oS (.mk kA mA sA lA aA) gv) c := (by
      have h3 := Wt.o9 hcc.1 (λx hx => (hgvw x hx).1) gv.length (ae _) (hAW.up (show (0 : Int) + (j : Int) <= c + (gv.length : Int) by omega))
      rw [y0 _ _ _ (ae _), bT] at h3; exact h3)
    have hps1 := hFE.pos e hem' hek (nm', .mk kK mK sK lK aK) (by rw [heC]; exact aO hci)
    rw [heN, heAr] at hps1
    dsimp only at hps1
    have hps2 := UK hps1 (ps := pd) (us := lh) (j := j) (a := .mk kA mA sA lA aA) O (by rw [hTY, <- hpTY]; exact hgA) hAh gv
    have b : Em (.mk 2 0 G z []) (y.take (P + 1 + F.length)) P (.mk kA mA sA lA aA) gv (.mk kC mC sC lC aC) = Mp (.mk 2 0 G z []) (y.take (P + 1 + F.length)) P (oS (.mk kA mA sA lA aA) gv) (.mk kC mC sC lC aC) := (by
      rw [Em, y0 _ _ _ (ae _), bT])
    obtain ⟨k6, m6, s6, l6, a6, hT1⟩ := ie.case (oS (.mk kA mA sA lA aA) gv)
    rw [hT1] at hins hW1 hps2 b
    have hpA := nE _ (.mk kA mA sA lA aA) (ae _)
    have hb6 := x9 (gl := gl) (B := c + ((ie.mk k6 m6 s6 l6 a6).size : Int)) k6 m6 s6 l6 a6 (hW1.sh O) O
    have hx6 := jx (iv (.mk k6 m6 s6 l6 a6)) (.mk k6 m6 s6 l6 a6) (ae _)
    have hU6 := hW1.yN (iv (.mk k6 m6 s6 l6 a6)) (ae _)
    unfold Mp at b
    obtain ⟨k7, m7, s7, l7, a7, hU⟩ := ie.case (jQ (iv (.mk k6 m6 s6 l6 a6)) (.mk k6 m6 s6 l6 a6))
    rw [hU] at hb6 hU6 hps2 b
    have hN1 : iv (.mk k6 m6 s6 l6 a6) <= 20000 := O
    generalize hN : iv (.mk k6 m6 s6 l6 a6) = N at hb6 hx6 hU6 b hN1
    generalize hxs : lQ N (.mk k6 m6 s6 l6 a6) = xs6 at hb6 hx6 b
    have hx6t := ir xs6
    have hjt : (im (y.take P ++ cs.drop P)).take ((j : Nat) : Int).toNat = im gv := (by rw [hgv]; exact qG _ j)
    refine rF 3 ?_; refine xo (ι := Unit) (λ_ => [(25, .d (.sl 5 (im xs6))), (26, .jk 8 0)]) (λ_ => [pE (C.map (·.d)), dR, .jK (o7 C), mO (d1 + 1) r Y, tO 2 0 G z [], zO, tO 2 0 sh lh [], .row 39 5, tO k7 m7 s7 l7 a7]) [24, 23, 22, 20, 19, 18, 16, 15, 14, 11, 8, 5, 2] (λ_ => True) rfl ?A3 ?B3
    case A3 =>
      refine ma 0 [0, 1] mixed ?_; refine pQ 2 iQ iY ?_ (hat := (jr hgA)); refine ga [3, 4, 5] ?_; refine A1 6 rfl (pa iQ iY rfl rfl rfl rfl rfl rfl O (hjt) ⟨_, rfl, ?_⟩); refine ki (rs := [7, 12]) gN rfl ⟨?_, ?_, trivial⟩
      · skip
        refine A4 7 rfl (cv ae5 rfl rfl (hins) (oq (jw .nil)) ?_); refine ki (rs := [8, 12]) gN rfl ⟨?_, ?_, trivial⟩
        · skip
          refine A4 8 rfl (cv Zb rfl rfl (hb6) (jw (jw (jw .nil))) ?_); refine ga [9, 10, 11] ?_; refine A2 12 rfl (AW jz ?_); refine ga [13] ?_; refine nO 14 ?_; refine iB<|ml 0 () [0, 1, 2, 3, 4, 5, 6, 7, 8] ?_
          trivial
        · skip
          refine A4 12 rfl (AW jz ?_); refine qB 8 hb6 ?_; refine ga [9, 10, 11, 13] ?_; refine nO 14 ?_; refine iB<|ml 0 () [0, 1, 2, 3, 4, 5, 6, 7, 8] ?_
          trivial
      · skip
        refine A4 12 rfl (AW jz ?_); refine qB 7 hins ?_; refine qB 8 hb6 ?_; refine ga [9, 10, 11, 13] ?_; refine nO 14 ?_; refine iB<|ml 0 () [0, 1, 2, 3, 4, 5, 6, 7, 8] ?_
        trivial
    case B3 =>
      rintro _ hcut
      try dsimp only at hcut
      refine rF 8 ?_; rw [show ((im xs6).length : Int) = (N : Int) by omega]
      obtain ⟨hok7, _, _, _⟩ := Wt.spine _ (ae _) hU6.1
      have hsp := DA (gl := gl) k7 m7 s7 l7 a7 hok7 O
      rcases hS7 : ig (.mk k7 m7 s7 l7 a7) with ⟨⟨k8, m8, s8, l8, a8⟩, us⟩
      rw [hS7] at hsp hps2 b
      dsimp only at hsp hps2 b
      have husl := ir us
      refine ny 2 hsp ?_; refine jS 20 ?_; refine jS 1 ?_; refine o1 (pa iQ iY rfl rfl rfl rfl rfl rfl O (hft) ?_); refine pt 5 (ι := Nat × Int × Int × fB × List iq × List ie) (λ⟨q, k9, m9, s9, l9, a9⟩ => [(200, int q)]) (λ⟨q, k9, m9, s9, l9, a9⟩ => [pE (C.map (·.d)), dR, .jK (o7 C), mO (d1 + 1) r Y, tO 2 0 G z [], zO, tO 2 0 sh lh [], .row 39 5, tO k7 m7 s7 l7 a7, tO k8 m8 s8 l8 a8, tO k9 m9 s9 l9 a9]) [199, 198, 30, 29, 27, 25, 24, 23, 22, 20, 19, 18, 16, 15, 14, 11, 8, 5, 2] (λ⟨q, k9, m9, s9, l9, a9⟩ => q <= P + 1 + F.length /\ iF (.mk 2 0 G z []) (((y.take (P + 1 + F.length)).map λx => lJ x (N : Int) 0).take q) = .mk k9 m9 s9 l9 a9) (λ⟨q, k9, m9, s9, l9, a9⟩ => P + 1 + F.length - q) ((0, 2, 0, G, z, [])) ([0, 1, 2, 3, 4, 5, 6, 7, 8, 9, 10]) ⟨ak _, rfl⟩ ?_
      rintro ⟨q, k9, m9, s9, l9, a9⟩ k
      try dsimp only at k
      refine jq 6 ?_ ?_ <;> intro h26
      · obtain ⟨kb, mb, sb, lb, ab, hgb⟩ := iZ (show q < (y.take (P + 1 + F.length)).length by omega)
        have hbm := bJ (aO hgb)
        have hbw := ha _ hbm
        have hbz := hgas _ hbm
        have hlb := zH (gl := gl) (m0 := (N : Int)) (fr := 0) (B := 1099511627776) ⟨O, O⟩ ⟨O, O⟩ (aP _) kb mb sb lb ab (hbw.num O) O
        obtain ⟨kc, mc, sc, lc, ac, hlc⟩ := ie.case (lJ (.mk kb mb sb lb ab) (N : Int) 0)
        rw [hlc] at hlb
        have hgm2 : ((y.take (P + 1 + F.length)).map λx => lJ x (N : Int) 0)[q]? = some (.mk kc mc sc lc ac) := (by rw [bt, hgb, bH, hlc])
        have hnw := uN (gl := gl) 3 [.mk k9 m9 s9 l9 a9, .mk kc mc sc lc ac]
        refine ni 6 iQ iY ?_ (hat := (jr hgb)); refine ma 5 [0, 1, 2] mixed ?_; refine qB 3 hlb ?_; refine A2 4 rfl (CW mN [.tmp 204, .tmp 207] jz ?_); refine qB 5 hnw ?_; refine nO 6 ?_; refine iB<|jS 3 ?_; refine ml 2 (q + 1, 3, 0, .empty, [], [.mk k9 m9 s9 l9 a9, .mk kc mc sc lc ac]) [0, 1, 2, 3, 4, 5, 6, 7, 8, 9, 10] ?_
        exact ⟨⟨O, by rw [ph hgm2, k.2]⟩, show P + 1 + F.length - (q + 1) < P + 1 + F.length - q by omega⟩
      obtain rfl : q = P + 1 + F.length := O
      have hFF := k.2
      rw [aS (by rw [bc]; omega)] at hFF
      rw [OR, hFF] at b
      have hlC := zH (gl := gl) (m0 := (N : Int)) (fr := 0) (B := 1099511627776) ⟨O, O⟩ ⟨O, O⟩ (aP _) kC mC sC lC aC (hCw.num O) O
      obtain ⟨kV, mV, sV, lV, aV, hV⟩ := ie.case (lJ (.mk kC mC sC lC aC) (N : Int) 0)
      rw [hV] at hlC b
      refine ni 9 iQ iY ?_ (hat := (jr hgC)); refine ny 2 hlC ?_; refine pt 12 (ι := Nat × Int × Int × fB × List iq × List ie) (λ⟨i, kv, U, sv, lv, av⟩ => [(218, int i)]) (λ⟨i, kv, U, sv, lv, av⟩ => [pE (C.map (·.d)), dR, .jK (o7 C), mO (d1 + 1) r Y, tO 2 0 G z [], zO, tO 2 0 sh lh [], .row 39 5, tO k7 m7 s7 l7 a7, tO k8 m8 s8 l8 a8, tO k9 m9 s9 l9 a9, tO kv U sv lv av]) [217, 33, 30, 29, 27, 25, 24, 23, 22, 20, 19, 18, 16, 15, 14, 11, 8, 5, 2] (λ⟨i, kv, U, sv, lv, av⟩ => i <= N /\ oy N (.mk kV mV sV lV aV) = oy (N - i) (.mk kv U sv lv av)) (λ⟨i, kv, U, sv, lv, av⟩ => N - i) ((0, kV, mV, sV, lV, aV)) ([0, 1, 2, 3, 4, 5, 6, 7, 8, 9, 10, 11]) ⟨ak _, rfl⟩ ?_
      rintro ⟨i, kv, U, sv, lv, av⟩ k
      try dsimp only at k
      refine jq 6 ?_ ?_ <;> intro h32
      · refine ma 10 [0, 1] mixed ?_; refine A1 2 rfl (isu ⟨_, rfl, ?_⟩); refine ga [3] ?_; refine A1 4 rfl (isu ⟨_, rfl, ?_⟩); refine qB 5 (Zn ((N : Int) - 1 - i)) ?_; refine A2 6 rfl (CW mN [.tmp 221, .tmp 226] jz ?_); refine qB 7 (uN 3 [.mk kv U sv lv av, .mk 0 ((N : Int) - 1 - i) .empty [] []]) ?_; refine nO 8 ?_; refine iB<|jS 3 ?_; refine ml 2 (i + 1, 3, 0, .empty, [], [.mk kv U sv lv av, .mk 0 ((N : Int) - 1 - i) .empty [] []]) [0, 1, 2, 3, 4, 5, 6, 7, 8, 9, 10, 11] ?_
        · refine ⟨⟨O, ?_⟩, show N - (i + 1) < N - i by omega⟩
          rw [k.2, show N - i = (N - (i + 1)) + 1 by omega, oy, show (((N - (i + 1) : Nat) : Int)) = (N : Int) - 1 - i by omega]
      obtain rfl : i = N := O
      have hBB := k.2
      rw [bL, oy] at hBB
      rw [hBB] at b
      have hap := GM (gl := gl) k9 m9 s9 l9 a9 (us.drop P) (by rw [bK]; omega)
      obtain ⟨kw, mw, sw, lw, aw, hAp⟩ := ie.case (iF (.mk k9 m9 s9 l9 a9) (us.drop P))
      rw [hAp] at hap b
      have hyes := Ke (nm := sd) (h := .mk 2 0 G z []) (f := y.take (P + 1 + F.length)) (p := P) (pre := y.take P) (X := lQ (iv (.mk I J M R S)) (.mk I J M R S)) (cs := cs) (j := j) O hAj hCj hAh
      rw [<- hgv2, b, <- hHY] at hyes
      have hszY := hYz (j + 1) (rP xs6 (.mk 3 0 .empty [] [.mk kw mw sw lw aw, .mk kv U sv lv av])) O (by rw [hyes]; simp)
      have hszL := It xs6 (.mk 3 0 .empty [] [.mk kw mw sw lw aw, .mk kv U sv lv av])
      have hwd := Hy (gl := gl) 3 0 .empty [] [.mk kw mw sw lw aw, .mk kv U sv lv av] O
      have hbi := TA (gl := gl) 3 0 .empty [] [.mk kw mw sw lw aw, .mk kv U sv lv av] xs6 O
      obtain ⟨kz, mz', sz, lz, az', hLm⟩ := ie.case (rP xs6 (.mk 3 0 .empty [] [.mk kw mw sw lw aw, .mk kv U sv lv av]))
      rw [hLm] at hbi hyes
      have hnx : im (cs.drop P ++ HY j) ++ [[.v (.int .i64 kz), .v (.int .i64 mz'), .v (.string sz), .sl 3 (iR lz), .sl 5 (im az')]] = im (cs.drop P ++ HY (j + 1)) := (by rw [hyes, <- bq, ll (cs.drop P ++ HY j)]; rfl)
      have hol := ir (cs.drop P ++ HY j)
      have hol2 := hYl j
      rw [aN] at hol
      refine ma 6 [0, 1, 2] mixed ?_; refine A1 3 rfl (sJ iQ iY rfl rfl rfl rfl rfl rfl O (u6 us P) ⟨_, rfl, ?_⟩); refine ga [5] ?_; refine qB 4 hap ?_; refine A2 6 rfl (CW mN [.tmp 234, .tmp 235] jz ?_); refine qB 7 (uN 3 [.mk kw mw sw lw aw, .mk kv U sv lv av]) ?_; refine nO 8 ?_; refine iB<|ny 5 hwd ?_; refine vw 2 ?_; refine ny 6 hbi ?_; refine oR 0 mN [.tmp 245] jz ?_; refine oc (ya mN ?_); refine jS 6 ?_; refine ml 2 (j + 1) ([0, 1, 2, 3, 4, 5, 6, 7]) ⟨⟨O, O⟩, O⟩ (hM := by exact oL (iU (yu rfl (by first | exact Fit.of_eq (by rw [hn1 (by simpa using h20)]; rfl) | exact Fit.of_eq (by rw [hnx]; rfl)) (iU (iU (iU (iU (iU (iU (iU (iU (iU (iU (iU rA))))))))))))))
structure AY (es:List iI) (ps:List fB) (c:Int) (most N:Nat) (o:qZ) (q d:Nat) (h:ie) (az:List ie):Prop where
 qn:q<=N
 dm:d<=most
 rw:RW es most q (iF h az) d o
 hw:Wt (jY es) ps h c
 aw:∀x∈az,Wt (jY es) ps x c
 sz:(iF h az).size+30000*(most-d)<=1000000000000
theorem AY.part(H:AY r s c e N o q z h j):h.size+ij j+j.length<=1000000000000/\∀x∈j,x.size+30000*(e-z)<=1000000000000:=by
 have U:=jG h j;have y:=H.sz;refine⟨O,λx b=>?_⟩;obtain⟨i,k⟩:=b7 b;have:=iO k;omega
theorem AY.step(H:AY j r c e N o q R h i)(C:q'<q)(F:R<e)(G:h'.size<=20000)(s:RW j e q' (iF h' az') (R+1) o)(y:Wt (jY j) r h' c)(z:∀x∈az',x∈i)(I:ij az'+az'.length<=ij i+i.length):
 AY j r c e N o q' (R+1) h' az':=by
 have k:=jG h i;have U:=jG h' az';have J:=H.sz;have M:=H.qn;exact⟨O,O,s,y,λx b=>H.aw x (z x b),O⟩
theorem AY.spine{es:List iI}{r:List fB}{c:Int}{i N q y:Nat}{o:qZ}{h:ie}{j:List ie}(H:AY es r c i N o q y h j):AY es r c i N o q y (ig h).1 ((ig h).2++j)/\zX h:=by
 obtain⟨b,k,U,s⟩:=Wt.spine _ (ae _) H.hw;have e:iF (ig h).1 ((ig h).2++j)=iF h j:=by rw[Dr,s]
 exact⟨⟨H.qn,H.dm,by rw[e];exact H.rw,k,λx hx=>by rcases bn.1 hx with hx|hx;exact U x hx;exact H.aw x hx,by rw[e];exact H.sz⟩,b⟩
structure YE (es:List iI) (ps:List fB) (c:Int) (most N:Nat) (o:qZ) (q0:Nat) (h0:ie) (az:List ie) (i q d:Nat) (h:ie):Prop where
 il:i<=az.length
 st:AY es ps c most N o q d (oS h (az.take i)) (az.drop i)
 ha:∀x∈az,Wt (jY es) ps x c
 hw:Wt (jY es) ps h (c+i)
 hz:h.size<=h0.size
 ez:i=0->ie.kd h=4/\0<az.length/\q=q0
 nz:0<i->(oS h (az.take i)).size<=20000/\q<q0
theorem Vu(A e c):oS (.mk 4 0 .empty [] [A,e]) c=.mk 4 0 .empty [] [ju (qt c) A 0,ju (qt c) e 1]:=by
 rw[tK,ju,if_neg Z];rfl
theorem YE.next(hc:0<=c){d:Nat}{ls:List iq}(L:YE J M c j N o W Y e i q d (.mk 4 n s ls z))(R:i<e.length):
 ∃(b k:Int) (U:fB) (r:List iq) (y:List ie) (A:ie) (q':Nat),z=[A,.mk b k U r y]/\q=q'+1/\(j<=d->o=.ja)/\(d<j->YE J M c j N o W Y e (i+1) q' (d+1) (.mk b k U r y)):=by
 obtain⟨A,⟨b,k,U,r,y⟩,rfl,rfl,rfl,rfl,hA,hB⟩:=L.hw.two (.inr (.inl rfl));rw[if_neg Z] at hB;have H:e[i]? =some e[i]:=aZ R;have C:e.drop i=e[i]::e.drop (i+1):=dL R;have hR:=L.st.rw;rw[Vu,C] at hR;obtain⟨q',rfl,S⟩:=abe hR (rK (by simp[ie.kd]) _);have I:jJ (ju (qt (e.take i)) (.mk b k U r y) 1) e[i]=oS (.mk b k U r y) (e.take (i+1)):=by
  rw[bo,H,dq,<-Mh];rfl
 rw[I] at S;refine⟨b,k,U,r,y,A,q',rfl,rfl,λhm=>?_,λhm=>?_⟩
 .rcases S with⟨_,F⟩|⟨F,_⟩
  .exact F
  .omega
 .rcases S with⟨F,_⟩|⟨_,F,h5⟩
  .omega
  .have G:Wt (jY J) M (.mk b k U r y) (c+((i+1:Nat):Int)):=by rw[show c+((i+1:Nat):Int)=c+(i:Int)+1 by omega];exact hB
   have V:Wt (jY J) M (oS (.mk b k U r y) (e.take (i+1))) c:=by
    have h6:=Wt.o9 hc (λx G=>L.ha x (bJ G)) (given:=e.take (i+1)) (e.take (i+1)).length (ae _) (t:=.mk b k U r y) (by rw[bj,b8 O];exact G);rw[y0 _ _ _ (ae _),bT] at h6;exact h6
   have hsz:ij (e.drop i)=e[i].size+ij (e.drop (i+1)):=by rw[C,ij]
   have hL:=L.st.step (q':=q') (h':=oS (.mk b k U r y) (e.take (i+1))) (az':=e.drop (i+1)) O hm F h5 V (λx G=>by rw[C];exact bB _ G) (by rw[bK,bK];omega);have h7:=L.hz;simp only[ie.size,ij] at h7;refine⟨R,hL,L.ha,G,by simp only[ie.size];omega,λh=>O,λ_=>⟨F,?_⟩⟩;rcases cX i with h8|h8
   .have:=(L.ez h8).2.2;omega
   .have:=(L.nz h8).2;omega
theorem Wt.yy:∀(n:Nat) {t:ie} {c:Int},t.size<=n->Wt e i t c->¬ie.kd (ig t).1=3:=by
 intro n
 induction n with
 |zero=>intro t c h;obtain⟨k,m,s,ls,args,rfl⟩:=ie.case t;simp[ie.size] at h
 |succ n j=>
  intro t c h hw;obtain⟨k,m,s,ls,args,rfl⟩:=ie.case t
  by_cases U:k=3
  .subst U;obtain⟨a,b,rfl,_,_,_,ha,q⟩:=hw.two (.inl rfl);simp only[ie.size,ij] at h;rw[qv];exact j O ha
  .rw [oE U];exact U
theorem XH(x:nS q)(z:Wt (jY q) y (.mk 2 n s r i) c):n=0/\i=[]/\Vr ((o7 q s).getD (.v (.pointer none)))=true/\∀k e j,iw s q=(k,e,j)->(k=2->e.d.ps.length=r.length)/\(k=5->e.rp.length=r.length):=by
 rcases z.2.2 with h|h|h|h|h
 .omega
 .omega
 .obtain ⟨_,C,b,F⟩:=h;refine⟨C,ch F,?_,λk e j G=>?_⟩
  .cases H:Vr ((o7 q s).getD (.v (.pointer none))) with
   |true=>rfl
   |false=>
    have I:=BL x H;unfold jY oM at b;simp only[I,if_true,dK] at b;cases b
  .unfold jY oM at b;rw[G] at b;simp only at b;refine⟨λU=>?_,λU=>?_⟩
   .subst U;rw[if_neg Z,if_neg Z,if_neg Z] at b
    simpa using b
   .subst U;rw[if_neg Z,if_neg Z,if_pos rfl] at b
    simpa using b
 .omega
 .omega
theorem GY.ret{y:List iI}{most:Nat}{z:Int}{k1 e:Int}{i:fB}{j:List iq}{q r:List ie}{c:Qo}{v:SV}{ob':List Ob}(h:GY y most z (.mk k1 e i j q) r c (.ret v) ob'):∃(k m:Int) (s:fB) (ls:List iq) (args U:List ie) (b:Bool) (d2:Nat),v=.d (.jj [(ie.mk k m s ls args).d,.sl 5 (im U),fF b])/\ob'=jv y d2 most z/\
 (b=false->c=.stuck d2/\ie.mk k m s ls args=.mk k1 e i j q/\U=r)/\(b=true->c=.step (iF (.mk k m s ls args) U) d2):=by
 cases c with
 |step u d1=>obtain⟨k,m,s,ls,args,U,rfl,h2,x⟩:=h;cases h2;exact⟨k,m,s,ls,args,U,true,d1,rfl,x,λh=>(by cases h),λ_=>rfl⟩
 |stuck d1=>obtain⟨h2,x⟩:=h;cases h2;exact⟨k1,e,i,j,q,r,false,d1,rfl,x,λ_=>⟨rfl,rfl,rfl⟩,λh=>by cases h⟩
 |ja=>obtain⟨_,h1,_⟩:=h;cases h1
theorem GY.vk{j:List iI}{c:Nat}{q:Int}{r:ie}{s:List ie}{i:Qo}{v:SV}{e:List Ob}(h:GY j c q r s i (.vk v) e):∃k,i=.ja/\v=.d Co/\e=jv j k c q:=by
 cases i with
 |step u d1=>obtain⟨_,_,_,_,_,_,_,b,_⟩:=h;cases b
 |stuck d1=>obtain⟨b,_⟩:=h;cases b
 |ja=>obtain⟨k,U,b⟩:=h;cases U;exact⟨k,rfl,rfl,b⟩
theorem AY.iota{j:List iI}(F:ko j){z:List fB}{c:Int}(G:0<=c){i N q d x:Nat}(S:i<=1000000){o:qZ}{h:ie}{C:List ie}{e:iI}(H:AY j z c i N o (q+1) d h C)(I:e∈j)(J:e.d.k=3){r:ie}{s:List ie}(y:RI j i (RW j i q) e h C d (.step (iF r s) x))(M:RW j i q (iF r s) x o):
 AY j z c i N o q x r s/\r.size<=20000:=by
 obtain⟨b,V,k,W⟩:=WD F G I J H.hw H.aw H.dm y;obtain⟨U,R⟩:=b.Qw;have Y:=jG r s;have h8:=H.qn;exact⟨⟨O,k,M,U,R,O⟩,O⟩
set_option maxHeartbeats 3200000 in
theorem SO(hFE:nS r){ps:List fB}(hcc:0<=c/\c<=1000000000)(hm:e<=1000000)(ih:∀n,n<N->RU M r ps c e n):RU M r ps c e N:=by
 intro k m s ls args d0 o I hdm0 hR0 hz0 hw0;have hE:=hFE.ok;obtain⟨hok0,hH0,hA0,V⟩:=Wt.spine _ (ae _) hw0;have hsz0:=mQ _ (.mk k m s ls args) (ae _);have hkd0:=Wt.yy _ (ae _) hw0;rcases hS0:ig (.mk k m s ls args) with⟨⟨k0,m0,s0,l0,a0⟩,az0⟩;have hl0:=iJ az0;rw[hS0] at hH0 hA0 V hsz0 hkd0;dsimp only at hH0 hA0 V hsz0;have hspn:=DA (gl:=M) k m s ls args hok0 (by rw[hS0];dsimp only;omega);rw[hS0] at hspn;dsimp only at hspn;have hI0:AY r ps c e N o N d0 (.mk k0 m0 s0 l0 a0) az0:=⟨ae _,hdm0,by rw[V];exact hR0,hH0,hA0,by rw[V];exact hz0⟩;unfold jv;refine nR Tryz.func68 170 4 ?_;refine ny 10 hspn ?_;refine pt 9 (ι:=Nat×Nat×Int×Int×fB×List iq×List ie×List ie) (λ⟨q,d1,k1,m1,s1,l1,a1,y⟩=>[(7,.d (.sl 5 (im y)))]) (λ⟨q,d1,k1,m1,s1,l1,a1,y⟩=>[pE (r.map (·.d)),dR,.jK (o7 r),mO d1 e I,tO k m s ls args,zO,tO k1 m1 s1 l1 a1]) [6,4,0] (λ⟨q,d1,k1,m1,s1,l1,a1,y⟩=>AY r ps c e N o q d1 (.mk k1 m1 s1 l1 a1) y/\¬k1=3) (λ⟨q,d1,k1,m1,s1,l1,a1,y⟩=>q) ((N,d0,k0,m0,s0,l0,a0,az0)) ([0,1,2,3,4,5,6]) ⟨hI0,hkd0⟩ ?_;rintro⟨q,d1,k1,m1,s1,l1,a1,y⟩ F
 try dsimp only at F
 obtain⟨G,hk3⟩:=F;have hal:=ir y;have hll:=jn l1;obtain⟨hpt,hpe⟩:=G.part;have hazl:=iJ y;have C:=rK (h:=.mk k1 m1 s1 l1 a1) hk3 y;have hdm1:=G.dm;have hend:o=.ok (iF (.mk k1 m1 s1 l1 a1) y) d1->Jk r e I o (.ret (.d (.jj [(ie.mk k1 m1 s1 l1 a1).d,.sl 5 (im y)]))) (jv r d1 e I):=λh=>by rw[h];exact⟨_,_,_,_,_,_,C,rfl,rfl⟩
 refine rF 2 ?_;refine xo (ι:=Nat×Nat×Int×Int×fB×List iq×List ie×List ie) (λ⟨q2,d2,k2,m2,s2,l2,a2,W⟩=>[(7,.d (.sl 5 (im W)))]) (λ⟨q2,d2,k2,m2,s2,l2,a2,W⟩=>[pE (r.map (·.d)),dR,.jK (o7 r),mO d2 e I,tO k m s ls args,zO,tO k2 m2 s2 l2 a2]) [6,4,0] (λ⟨q2,d2,k2,m2,s2,l2,a2,W⟩=>AY r ps c e N o q2 d2 (.mk k2 m2 s2 l2 a2) W/\(ie.mk k2 m2 s2 l2 a2).size<=20000/\q2<q) rfl ?_ ?_
 .refine xP 7 27 24 3 ?_;refine jq 3 ?_ ?_<;>intro h3
  .have hk4:k1=4:=O;have haz:0<y.length:=O;subst hk4;refine pt 7 (ι:=Nat×Nat×Nat×Int×Int×fB×List iq×List ie) (λ⟨i,q1,d2,kL,mL,sL,lL,aL⟩=>[(8,int i)]) (λ⟨i,q1,d2,kL,mL,sL,lL,aL⟩=>[pE (r.map (·.d)),dR,.jK (o7 r),mO d2 e I,tO k m s ls args,zO,tO kL mL sL lL aL]) [7,6,4,0] (λ⟨i,q1,d2,kL,mL,sL,lL,aL⟩=>YE r ps c e N o q (.mk 4 m1 s1 l1 a1) y i q1 d2 (.mk kL mL sL lL aL)) (λ⟨i,q1,d2,kL,mL,sL,lL,aL⟩=>y.length-i) ((0,q,d1,4,m1,s1,l1,a1)) ([0,1,2,3,4,5,6]) ⟨ak _,by rw[cj];exact G,G.aw,by simpa using G.hw,ae _,λ_=>⟨rfl,haz,rfl⟩,λh=>absurd h (Nat.lt_irrefl 0)⟩ ?_;rintro⟨i,q1,d2,kL,mL,sL,lL,aL⟩ F
   try dsimp only at F
   refine xP 7 36 32 4 ?_;refine jq 2 ?_ ?_<;>intro h5
   .have hkL:kL=4:=O;have hil:i<y.length:=O;subst hkL;obtain⟨kb,mb,sb,lb,ab,A,q',rfl,rfl,ht,hok⟩:=F.next hcc.1 hil;refine rF 6 ?_;refine oc (iX RH rfl rfl rfl rfl (xQ r d2 e I O) [0,1,2,3] (jN (oT (.cons rfl .jK (jN .nil)))) rfl rfl rfl rfl (jw .nil) (λs ob' R=>?_) (λs ob' R=>?_))
    rotate_left
    .rcases R with⟨_,U,_⟩|⟨hle,U,rfl⟩
     .cases U
     cases U;refine⟨_,_,_,_,_,rfl,rfl,rfl,rfl,rfl,?_⟩;refine ss ([0,1,2,3]) (jv r d2 e I) rfl rfl rfl (by repeat (first|exact nw|refine jN ?_|refine oT ?_|refine rl ?_)) ?_;rw[ht hle];exact⟨_,rfl,rfl⟩
    rcases R with⟨hlt,U,rfl⟩|⟨_,U,_⟩;rotate_left
    .cases U
    cases U;refine⟨_,_,_,_,_,rfl,rfl,rfl,rfl,rfl,?_⟩;refine ni 6 iQ iY ?_ (hat:=rfl);refine jS 6 ?_;refine ml 3 (i+1,q',d2+1,kb,mb,sb,lb,ab) [0,1,2,3,4,5,6] ?_;exact⟨hok hlt,show y.length-(i+1)<y.length-i by omega⟩
   have hL:=F;have hi0:0<i:=(by
    rcases cX i with h|h
    .have h9:=hL.ez h;have h10:kL=4:=h9.1;omega
    .exact h)
   have hil:=hL.il;have htl:(y.take i).length=i:=(by rw[bj];omega);have hhz:=hL.hz;have hins:=IA (gl:=M) (B:=1099511627776) (aP _) (y.take i) (λv hv=>⟨(G.aw v (bJ hv)).num (by have:=hpe v (bJ hv);omega),by have:=hpe v (bJ hv);omega⟩) O kL mL sL lL aL (hL.hw.num O) O;obtain⟨kI,Y,sI,lI,aI,H⟩:=ie.case (oS (.mk kL mL sL lL aL) (y.take i))
   rw[H] at hins;refine ma 6 [0,1,2] mixed ?_;refine A1 3 rfl (pa iQ iY rfl rfl rfl rfl rfl rfl O (qG y i) ⟨_,rfl,?_⟩);refine qB 4 hins ?_;refine nO 5 ?_;refine iB<|rF 4 ?_;refine o1 (sJ iQ iY rfl rfl rfl rfl rfl rfl O (u6 y i) ?_);refine ml 3 (q1,d2,kI,Y,sI,lI,aI,y.drop i) [0,1,2,3,4,5,6] ?_;exact⟨by rw[<- H];exact hL.st,by rw[<- H];exact(hL.nz hi0).1,(hL.nz hi0).2⟩
  refine jq 8 ?_ ?_<;>intro h11
  .have hk6:k1=6:=O;subst hk6;obtain⟨A,⟨kv,nv,sv,lv,av⟩,⟨kb,nb,sb,lb,ab⟩,rfl,rfl,rfl,rfl,hA,hV,hB⟩:=G.hw.three rfl;obtain⟨q',rfl,J⟩:=abd G.rw C;simp only[ie.size,ij] at hpt;have hsu:=NX (gl:=M) (B:=1099511627776) (aP _) kv nv sv lv av (hV.num (by simp only[ie.size];omega)) (by simp only[ie.size];omega) kb nb sb lb ab (hB.num (by simp only[ie.size];omega)) (by simp only[ie.size];omega);obtain⟨kI,Y,sI,lI,aI,H⟩:=ie.case (jJ (.mk kb nb sb lb ab) (.mk kv nv sv lv av))
   rw[H] at hsu J;refine rF 3 ?_;refine oc (iX RH rfl rfl rfl rfl (xQ r d1 e I O) [0,1,2,3] (jN (oT (.cons rfl .jK (jN .nil)))) rfl rfl rfl rfl (jw .nil) (λs ob' R=>?_) (λs ob' R=>?_));rotate_left
   .rcases R with⟨_,U,_⟩|⟨hle,U,rfl⟩
    .cases U
    cases U;refine⟨_,_,_,_,_,rfl,rfl,rfl,rfl,rfl,?_⟩;refine ss ([0,1,2,3]) (jv r d1 e I) rfl rfl rfl (by repeat (first|exact nw|refine jN ?_|refine oT ?_|refine rl ?_)) ?_;rcases J with⟨_,h9⟩|⟨h9,_⟩;rw[h9];exact⟨_,rfl,rfl⟩;omega
   rcases R with⟨hlt,U,rfl⟩|⟨_,U,_⟩;rotate_left
   .cases U
   cases U;obtain⟨hq4,hq5⟩:=(show(ie.mk kI Y sI lI aI).size<=20000/\RW r e q' (iF (.mk kI Y sI lI aI) y) (d1+1) o from by rcases J with⟨h9,_⟩|⟨_,h9,h10⟩;omega;exact⟨h9,h10⟩);refine⟨_,_,_,_,_,rfl,rfl,rfl,rfl,rfl,?_⟩;refine ma 2 [0,1] mixed ?_;refine pQ 2 iQ iY ?_ (hat:=rfl);refine ga [3,4,5] ?_;refine pQ 6 iQ iY ?_ (hat:=rfl);refine ga [7] ?_;refine qB 8 hsu ?_;refine nO 9 ?_;refine iB<|ml 1 (q',d1+1,kI,Y,sI,lI,aI,y) [0,1,2,3,4,5,6] ?_;exact⟨G.step O hlt hq4 hq5 (by rw[<- H];exact Wt.sub hcc.1 hB hV) (λx hx=>hx) (ae _),hq4,O⟩
  refine j7 8 ?_ ?_<;>intro h14
  .refine jD 14 (.jj [(ie.mk k1 m1 s1 l1 a1).d,.sl 5 (im y)]) [0,1,2,3] (jv r d1 e I) ?_
   .refine hend (Np G.rw C ⟨λh=>?_,λh=>?_,λs us h=>?_⟩)
    .have h9:k1=4:=h.1;have h10:0<y.length:=eG.2 h.2;omega
    .have h9:k1=6:=h;omega
    .simp only[ie.mk.injEq] at h;omega
  have hk2:k1=2:=O;subst hk2;obtain⟨rfl,rfl,hcp,hlens⟩:=XH hFE G.hw;obtain⟨kg,sg',pg,u1,v1,x1,y1,z1,u2,v2,x2,y2,z2,ag,cg,rg,rt',jf,kf,pf,kK,mK,sK,lK,aK,nf,hm1,hF,hF2,hF5,_⟩:=L5 hFE hcp;obtain⟨hle2,hle5⟩:=hlens _ _ _ hF;have hpl:=jU pf;have hdef:kf-1=1->(strs pf).length=(iR l1).length:=(λh=>by
   have h9:kf=2:=O;rw[hpl,hll,hF2 h9];exact hle2 h9)
  have hrec:kf-1=4->(strs pf).length=(iR l1).length:=(λh=>by
   have h9:kf=5:=O;rw[hpl,hll,hF5 h9];exact hle5 h9)
  refine ma 1 [0,1,2,3,4,5,6,7,8] mixed ?_;refine A2 (T:=λ_=>False) 9 rfl (FC LU rfl rfl rfl rfl rfl rfl ?_);rw[hm1];refine ga [10] ?_;refine iB<|rF 3 ?_;refine xo (ι:=Bool) (λb=>[(85,fH b)]) (λb=>[pE (r.map (·.d)),dR,.jK (o7 r),mO d1 e I,tO k m s ls args,zO,tO 2 0 s1 l1 []]) [9,7,6,4,0] (λb=>(b=true↔kf=2)) rfl ?_ ?_
  .refine ma 0 [0] mixed ?_;refine A1 1 rfl (Gr TZ rfl rfl ⟨_,rfl,?_⟩);refine ga [2] ?_;refine P6 88 (λS=>?_) (λS=>?_)
   .simp (decide:=true) only[lP] at S
   (try simp(decide:=true) only[lP] at S);refine A6 3 rfl (mv ⟨_,rfl,?_⟩);refine A6 4 rfl (XB ⟨_,rfl,?_⟩);refine A6 5 rfl (WL Ab ⟨_,rfl,?_⟩);refine A6 6 rfl (Vi KV ⟨_,rfl,?_⟩);refine A6 7 rfl (ieq ⟨_,rfl,?_⟩);refine A1 8 rfl (oH ⟨_,rfl,?_⟩);refine ga [9] ?_;refine P6 95 (λS=>?_) (λS=>?_)
   ·(try simp(decide:=true) only[lP] at S)
    refine A7 10 rfl ?_ (hlit:=gP);refine A7 11 rfl ?_ (hlit:=gP);refine A7 12 rfl ?_ (hlit:=gP);refine A7 13 rfl ?_ (hlit:=gP);refine A7 14 rfl ?_ (hlit:=gP);refine A7 15 rfl ?_ (hlit:=gP);refine A7 16 rfl ?_ (hlit:=gP);refine A7 17 rfl ?_ (hlit:=gP);refine A7 18 rfl ?_ (hlit:=gP);refine A1 19 rfl (sP ⟨_,rfl,?_⟩);refine ga [20] ?_;refine iB<|ml 0 (false) ([0,1,2,3,4,5,6]) ⟨λh=>(by cases h),λh=>O⟩ (hM:=by exact oL (yu rfl (by first|exact .refl _|exact Fit.of_eq (by rw[decide_eq_true (by have:=hdef O;omega)];rfl)) (iU (iU (iU (iU (iU rA)))))))
   (try simp(decide:=true) only[lP] at S);refine A6 10 rfl (mv ⟨_,rfl,?_⟩);refine A6 11 rfl (XB ⟨_,rfl,?_⟩);refine A6 12 rfl (WL Ab ⟨_,rfl,?_⟩);refine A6 13 rfl (Vi T7 ⟨_,rfl,?_⟩);refine A6 14 rfl (le1 yv ⟨_,rfl,?_⟩);refine A6 15 rfl (fdb jz ⟨_,rfl,?_⟩);refine A6 16 rfl (Hg W6 ⟨_,rfl,?_⟩);refine A6 17 rfl (le1 oz ⟨_,rfl,?_⟩);refine A6 18 rfl (ieq ⟨_,rfl,?_⟩);refine A1 19 rfl (oH ⟨_,rfl,?_⟩);refine ga [20] ?_;refine iB<|ml 0 (true) ([0,1,2,3,4,5,6]) ⟨λ_=>O,λ_=>rfl⟩ (hM:=by exact oL (yu rfl (by first|exact .refl _|exact Fit.of_eq (by rw[decide_eq_true (by have:=hdef O;omega)];rfl)) (iU (iU (iU (iU (iU rA)))))))
  .rintro b j
   try dsimp only at j
   have hcut17:=j;refine kp [85,9,7,6,4,0] ?_;refine jq 0 ?_ ?_<;>intro h17
   .have hk2:kf=2:=j.1 h17;subst hk2;have hpf:pf=pg:=hF2 rfl;refine rF 1 ?_;rw[hpf];have hle2':pg.length=l1.length:=hle2 rfl;have hem:=n9 hF Z;have hent:=hE.AZ _ hem;have hvl:=hent.vl (show kg=2 from by
     rcases nY hF Z with h9|h9|h9
     .exact h9.symm
     .omega
     .omega)
    simp only[mJ.ps,mJ.vl] at hvl;have hps6:=hent.ps;simp only[mJ.ps] at hps6;obtain⟨q',rfl,J⟩:=abf G.rw C hF hle2';simp only[mJ.ps,mJ.vl] at J;have hlv:=Ad (gl:=M) pg l1 O O u2 v2 x2 y2 z2 O;obtain⟨kI,Y,sI,lI,aI,H⟩:=ie.case (ld pg l1 (.mk u2 v2 x2 y2 z2))
    rw[H] at hlv J;refine rF 2 ?_;refine oc (iX RH rfl rfl rfl rfl (xQ r d1 e I O) [0,1,2,3] (jN (oT (.cons rfl .jK (jN .nil)))) rfl rfl rfl rfl (jw .nil) (λs ob' R=>?_) (λs ob' R=>?_));rotate_left
    .rcases R with⟨_,U,_⟩|⟨hle,U,rfl⟩
     .cases U
     cases U;refine⟨_,_,_,_,_,rfl,rfl,rfl,rfl,rfl,?_⟩;refine ss ([0,1,2,3]) (jv r d1 e I) rfl rfl rfl (by repeat (first|exact nw|refine jN ?_|refine oT ?_|refine rl ?_)) ?_;rcases J with⟨_,h9⟩|⟨h9,_⟩;rw[h9];exact⟨_,rfl,rfl⟩;omega
    rcases R with⟨hlt,U,rfl⟩|⟨_,U,_⟩;rotate_left
    .cases U
    cases U;obtain⟨hq4,hq5⟩:=(show(ie.mk kI Y sI lI aI).size<=20000/\RW r e q' (iF (.mk kI Y sI lI aI) y) (d1+1) o from by rcases J with⟨h9,_⟩|⟨_,h9,h10⟩;omega;exact⟨h9,h10⟩);refine⟨_,_,_,_,_,rfl,rfl,rfl,rfl,rfl,?_⟩;refine ma 2 [0,1,2,3,4,5,6,7,8,9,10,11,12] mixed ?_;refine qB 13 hlv ?_;refine nO 14 ?_;refine iB<|ml 2 (q',d1+1,kI,Y,sI,lI,aI,y) [0,1,2,3,4,5,6] ?_;exact⟨G.step O hlt hq4 hq5 (by rw[<- H];exact(hvl.1.Ny O G.hw.1).up hcc.1) (λx hx=>hx) (ae _),hq4,O⟩
   refine rF 1 ?_;refine xo (ι:=Bool) (λb=>[(122,fH b)]) (λb=>[pE (r.map (·.d)),dR,.jK (o7 r),mO d1 e I,tO k m s ls args,zO,tO 2 0 s1 l1 []]) [9,7,6,4,0] (λb=>(b=true↔kf=5)) rfl ?_ ?_
   .refine ma 0 [0] mixed ?_;refine A1 1 rfl (Gr TZ rfl rfl ⟨_,rfl,?_⟩);refine ga [2] ?_;refine P6 125 (λS=>?_) (λS=>?_)
    .simp (decide:=true) only[lP] at S
    (try simp(decide:=true) only[lP] at S);refine A6 3 rfl (mv ⟨_,rfl,?_⟩);refine A6 4 rfl (XB ⟨_,rfl,?_⟩);refine A6 5 rfl (WL Ab ⟨_,rfl,?_⟩);refine A6 6 rfl (Vi KV ⟨_,rfl,?_⟩);refine A6 7 rfl (ieq ⟨_,rfl,?_⟩);refine A1 8 rfl (oH ⟨_,rfl,?_⟩);refine ga [9] ?_;refine P6 132 (λS=>?_) (λS=>?_)
    ·(try simp(decide:=true) only[lP] at S)
     refine A7 10 rfl ?_ (hlit:=gP);refine A7 11 rfl ?_ (hlit:=gP);refine A7 12 rfl ?_ (hlit:=gP);refine A7 13 rfl ?_ (hlit:=gP);refine A7 14 rfl ?_ (hlit:=gP);refine A7 15 rfl ?_ (hlit:=gP);refine A7 16 rfl ?_ (hlit:=gP);refine A7 17 rfl ?_ (hlit:=gP);refine A7 18 rfl ?_ (hlit:=gP);refine A1 19 rfl (sP ⟨_,rfl,?_⟩);refine ga [20] ?_;refine iB<|ml 0 (false) ([0,1,2,3,4,5,6]) ⟨λh=>(by cases h),λh=>O⟩ (hM:=by exact oL (yu rfl (by first|exact .refl _|exact Fit.of_eq (by rw[decide_eq_true (by have:=hrec O;omega)];rfl)) (iU (iU (iU (iU (iU rA)))))))
    (try simp(decide:=true) only[lP] at S);refine A6 10 rfl (mv ⟨_,rfl,?_⟩);refine A6 11 rfl (XB ⟨_,rfl,?_⟩);refine A6 12 rfl (WL Ab ⟨_,rfl,?_⟩);refine A6 13 rfl (Vi T7 ⟨_,rfl,?_⟩);refine A6 14 rfl (le1 yv ⟨_,rfl,?_⟩);refine A6 15 rfl (fdb jz ⟨_,rfl,?_⟩);refine A6 16 rfl (Hg W6 ⟨_,rfl,?_⟩);refine A6 17 rfl (le1 oz ⟨_,rfl,?_⟩);refine A6 18 rfl (ieq ⟨_,rfl,?_⟩);refine A1 19 rfl (oH ⟨_,rfl,?_⟩);refine ga [20] ?_;refine iB<|ml 0 (true) ([0,1,2,3,4,5,6]) ⟨λ_=>O,λ_=>rfl⟩ (hM:=by exact oL (yu rfl (by first|exact .refl _|exact Fit.of_eq (by rw[decide_eq_true (by have:=hrec O;omega)];rfl)) (iU (iU (iU (iU (iU rA)))))))
   .rintro b j
    try dsimp only at j
    refine kp [122,9,7,6,4,0] ?_;refine j7 0 ?_ ?_<;>intro h20
    .refine jD 15 (.jj [(ie.mk 2 0 s1 l1 []).d,.sl 5 (im y)]) [0,1,2,3] (jv r d1 e I) ?_
     .refine hend (Np G.rw C ⟨λh=>absurd h.1 (by show ¬(2:Int)=4;decide),by show ¬(2:Int)=6;decide,λs us h=>?_⟩);simp only[ie.mk.injEq] at h;obtain⟨_,_,rfl,rfl,_⟩:=h;rw[hF];exact⟨λh=>absurd h.1 (λh9=>by have h10:=hcut17.2 h9;rw[h17] at h10;cases h10),λh=>absurd h.1 (λh9=>by have h10:=j.2 h9;rw[h20] at h10;cases h10)⟩
    have hk5:kf=5:=j.1 h20;subst hk5;have hpf:pf=rg:=hF5 rfl;refine rF 6 ?_;rw[hpf];have hem:=n9 hF Z;have hkg:kg=3:=(by
     rcases nY hF Z with h9|h9|h9
     .have hk9:(5:Int)=kg:=h9;rcases(hE.AZ _ hem).k with h10|h10|h10<;>(have h11:kg=_:=h10;omega)
     .omega
     .exact h9.2)
    obtain⟨q',io,rfl,hRI,z⟩:=abc G.rw C hF (hle5 rfl);have hio:=O3 (gl:=M) hFE (ps:=ps) (c:=c) hcc (n:=q') hm (ih q' (by have:=G.qn;omega)) kg sg' pg u1 v1 x1 y1 z1 u2 v2 x2 y2 z2 ag cg rg rt' kK mK sK lK aK nf hem hkg s1 l1 y d1 I hdm1 G.hw O G.aw O hpe io hRI;rw[show(5:Int)-1=4 from rfl];refine rF 5 ?_;refine oc (iX ae3 rfl rfl rfl rfl (hio) [0,1,2,3] (jN (oT (.cons rfl .jK (jN .nil)))) rfl rfl rfl rfl (jw (oq (jw (jw .nil)))) (λs ob' R=>?_) (λs ob' R=>?_));rotate_left
    .obtain ⟨d',hio',U,rfl⟩:=R.vk;cases U;rw[hio'] at z;refine⟨_,_,_,_,_,rfl,rfl,rfl,rfl,rfl,?_⟩;refine ss ([0,1,2,3]) (jv r d' e I) rfl rfl rfl (by repeat (first|exact nw|refine jN ?_|refine oT ?_|refine rl ?_)) ?_;rw[show o=.ja from z];exact⟨_,rfl,rfl⟩
    obtain⟨kI,Y,sI,lI,aI,W,bI,d2,U,rfl,hbf,hbt⟩:=R.ret;cases U;refine⟨_,_,_,_,_,rfl,rfl,rfl,rfl,rfl,?_⟩;refine j7 15 ?_ ?_<;>intro h23
    .refine ml 3 (q',d2,kI,Y,sI,lI,aI,W) [0,1,2,3,4,5,6] ?_
     .have h9:=hbt (by simpa using h23);rw[h9] at hRI z;have hIo:=G.iota hE hcc.1 hm hem hkg hRI z;exact⟨hIo.1,hIo.2,O⟩
    refine jD 15 (.jj [(ie.mk kI Y sI lI aI).d,.sl 5 (im W)]) [0,1,2,3] (jv r d2 e I) ?_
    .obtain ⟨h9,h10,rfl⟩:=hbf (by simpa using h23);rw[h9] at z;rw[show o=.ok (iF (.mk 2 0 s1 l1 []) W) d2 from z];exact⟨kI,Y,sI,lI,aI,W,by rw[C,h10],rfl,rfl⟩
 .rintro ⟨q2,d2,k2,m2,s2,l2,a2,W⟩ j
  try dsimp only at j
  obtain⟨hI2,hz2,hq2⟩:=j;have hwd:=Hy (gl:=M) k2 m2 s2 l2 a2 O;obtain⟨hsp3,hok3⟩:=hI2.spine;have hkd3:=Wt.yy _ (ae _) hI2.hw;have hss3:=mQ _ (.mk k2 m2 s2 l2 a2) (ae _);have hspO:=K2 (gl:=M) k2 m2 s2 l2 a2 hok3;rcases hS3:ig (.mk k2 m2 s2 l2 a2) with⟨⟨k3,m3,s3,l3,a3⟩,fs⟩;rw[hS3] at hspO hsp3 hkd3 hss3;dsimp only at hspO hsp3 hss3;have hfl:=iJ fs;have hfl2:=ir fs;have hwl:=ir W;have hpt2:=hI2.part.1;have hwl2:=iJ W;have hspO2:=hspO O;refine rF 3 ?_;skip;refine ny 1 hwd ?_;refine vw 2 ?_;refine nC 13 hspO2 [] ?_;refine ma 7 [0,1,2] mixed ?_;refine A2 3 rfl (px mN rfl rfl rfl (.inl rfl) rfl rfl rfl (.inl rfl) Z (by(simp only[maxLen];omega)) rfl rfl rfl ?_);refine nO 4 ?_;refine ga [5] ?_;refine iB<|ml 1 ((q2,d2,k3,m3,s3,l3,a3,fs++W)) ([0,1,2,3,4,5,6]) ⟨⟨hsp3,hkd3⟩,hq2⟩ (hM:=by exact oL (j8 rfl (by exact Fit.p9 (by show some (D.sl 5 (im fs++im W))=_;rw[ll]))))
theorem C3(h:nS j){ps:List fB}(i:0<=c/\c<=1000000000)(q:e<=1000000)(N):RU gl j ps c e N:=by
 induction N using Nat.strongRecOn with
 |_ N b=>exact SO h i q b
def GR(e:List iI)(c:Nat)(h:Int):qZ->Out->List Ob->Prop
 | .ok u b,out,ob'=>out=.ret (.d u.d)/\ob'=jv e b c h
 | .ja,out,ob'=> ∃b,out=.vk (.d Co)/\ob'=jv e b c h
theorem OL(r:nS i){ps:List fB}(y:0<=c/\c<=1000000000)(V:e<=1000000)(k m s q h d o z)(C:d<=e)(M:RW i e n (.mk k m s q h) d o)(W:(ie.mk k m s q h).size+30000*(e-d)<=1000000000000)(R:Wt (jY i) ps (.mk k m s q h) c):
 jT fC gl 39 (jv i d e z) [.jk 3 0,.d (ie.mk k m s q h).d] (GR i e z o):=by
 have H:=C3 (gl:=gl) r y V n k m s q h d o z C M W R;have Y:=r.ok;obtain⟨T0,hT0⟩:∃x,x=ie.mk k m s q h:=⟨_,rfl⟩;unfold jv;refine nR Tryz.func39 16 4 ?_;refine rF 10 ?_;refine oc (iX ab0 rfl rfl rfl rfl (H) [0,1,2,3] (jN (oT (.cons rfl .jK (jN .nil)))) rfl rfl rfl rfl (jw (oq .nil)) (λs ob' I=>?_) (λs ob' I=>?_));rotate_left
 .obtain ⟨S,U,j,rfl⟩:=I.vk;cases j;refine⟨_,_,_,_,_,rfl,rfl,rfl,rfl,rfl,?_⟩;refine ss ([0,1,2,3]) (jv i S e z) rfl rfl rfl (by repeat (first|exact nw|refine jN ?_|refine oT ?_|refine rl ?_)) ?_;rw[U];exact⟨S,rfl,rfl⟩
 obtain⟨u,d1,kh,mh,sh,lh,ah,cs,U,hS,j,rfl⟩:=I.ret;cases j;subst U;obtain⟨J,hj2,hj3,hj4⟩:=vB Y y.1 n M C R;obtain⟨_,_,_,b⟩:=Wt.spine _ (ae _) J;have F:=mQ _ u (ae _);rw[hS] at b F;dsimp only at b F;have hcl:=iJ cs;have G:=GM (gl:=gl) kh mh sh lh ah cs O;rw[b] at G;obtain⟨ku,mu,su,lu,au,rfl⟩:=ie.case u;refine⟨_,_,_,_,_,rfl,rfl,rfl,rfl,rfl,?_⟩;refine ny 12 G ?_;refine jD 4 ((ie.mk ku mu su lu au).d) [0,1,2,3] (jv i d1 e z) ⟨rfl,rfl⟩
def GU(e:List iI)(c:Nat):tQ->Out->List Ob->Prop
 | .ok u b k,out,ob'=>out=.ret (.d u.d)/\ob'=jv e b c k
 | .ja,out,ob'=> ∃b k,out=.vk (.d Co)/\ob'=jv e b c k
def WG(i:Nat->List D)(h:List iI)(j:List fB)(e n:Nat):Prop:=
 ∀(k m:Int) (s:fB) (ls:List iq) (args:List ie) (c:Int) (d:Nat) (o:tQ) (p:Int),0<=c->0<=p->p<=20000->d<=e->RN h e n (.mk k m s ls args) d p o->c+(ie.mk k m s ls args).size+30000*(e-d)<=1000000000->Wt (jY h) j (.mk k m s ls args) c->
  jT fC i 41 (jv h d e p) [.jk 3 0,.d (ie.mk k m s ls args).d] (GU h e o)
theorem GU.ret{c:List iI}{most:Nat}{o:tQ}{v:SV}{ob':List Ob}(h:GU c most o (.ret v) ob'):∃(k m:Int) (s:fB) (ls:List iq) (args:List ie) (b:Nat) (U:Int),o=.ok (.mk k m s ls args) b U/\v=.d (ie.mk k m s ls args).d/\ob'=jv c b most U:=by
 cases o with
 |ok u b U=>obtain⟨k,m,s,ls,args,rfl⟩:=ie.case u;obtain⟨h2,e⟩:=h;cases h2;exact⟨k,m,s,ls,args,b,U,rfl,rfl,e⟩
 |ja=>obtain⟨_,_,h1,_⟩:=h;cases h1
theorem GU.vk{i:List iI}{c:Nat}{o:tQ}{v:SV}{e:List Ob}(h:GU i c o (.vk v) e):∃b k,o=.ja/\v=.d Co/\e=jv i b c k:=by
 cases o with
 |ok u b k=>obtain⟨U,_⟩:=h;cases U
 |ja=>obtain⟨b,k,j,U⟩:=h;cases j;exact⟨b,k,rfl,rfl,U⟩
theorem WC(h:RN e c n t F p o):∃q m U,n=q+1/\RW e c m t F U/\(U=.ja->o=.ja)/\∀u d1,U=.ok u d1->p+1<=20000/\
 ((ie.kd u=3->∃b,Ch (RN e c q) (ig u).2 d1 (p+1) b/\o=b.to (iF (ig u).1))/\(¬ ie.kd u=3->∃b,Ch (RN e c q) (ie.ars u) d1 (p+1) b/\o=b.to (ie.wa u))):=by
 cases n with
 |zero=>exact h.elim
 |succ n=>
  rcases h with⟨m,i,j⟩|⟨m,u,d1,b,i,j,x⟩
  .exact ⟨n,m,_,rfl,i,λ_=>j,λ_ _ h=>by cases h⟩
  .refine ⟨n,m,_,rfl,i,λh=>(by cases h),λC y z=>?_⟩;cases z;refine⟨j,λr=>?_,λr=>?_⟩
   .rcases x with⟨_,k,s⟩|⟨k,_⟩
    .exact ⟨b,k,s⟩
    .exact absurd r k
   .rcases x with⟨k,_⟩|⟨_,k,s⟩
    .exact absurd k r
    .exact ⟨b,k,s⟩
theorem xr.Yr(y)(c:List ie->ie):∀b:xr,(b.cons y).to c=b.to λl=>c (y::l)
 | .ok _ _ _=>rfl
 | .ja=>rfl
def Ce(h:List iI)(c q:Nat)(l:List ie)(F:List ie->ie)(o:tQ)(i:Nat)(e:List ie)(j:Nat)(p:Int):Prop:=
 i<=l.length/\e.length=i/\∃b,Ch (RN h c q) (l.drop i) j p b/\o=b.to λk=>F (e++k)
theorem Ce.next{d:Nat}(h:Ce e c q l F o i r d p)(s:l[i]? =some x):∃b,RN e c q x d p b/\(b=.ja->o=.ja)/\∀y d1 k,b=.ok y d1 k->Ce e c q l F o (i+1) (r++[y]) d1 k:=by
 obtain⟨S,H,V,z,C⟩:=h;have G:=(aJ.1 s).1;have hd:l.drop i=x::l.drop (i+1):=by rw[dL G,(aJ.1 s).2]
 rw[hd] at z;rcases z with⟨U,rfl⟩|⟨y,d1,k,j,U,I,rfl⟩
 .exact ⟨_,U,λ_=>C,λ_ _ _ h=>by cases h⟩
 .refine ⟨_,U,λh=>(by cases h),λW J M R=>?_⟩;cases R;exact⟨G,by rw[aN,H];rfl,j,I,by rw[C,xr.Yr];congr 1;funext Y;rw[bq];rfl⟩
theorem Ce.fin(h:Ce i c q l F o l.length e j p):o=.ok (F e) j p:=by
 obtain⟨_,_,k,b,U⟩:=h;rw[List.drop_length] at b;have:k=.ok [] j p:=b;rw[U,this];show tQ.ok (F (e++[])) j p=_;rw[bR]
theorem Sw(hFE:nS F){ps:List fB}(hm:h<=1000000)(ih:∀n,n<N->WG gl F ps h n):WG gl F ps h N:=by
 intro k m s ls args c d0 o p0 hc0 hp0 hp1 hdm0 hR0 hz0 hw0;have hE:=hFE.ok;obtain⟨q,mw,ow,rfl,hRW,hti,hok⟩:=WC hR0;have hhd:=C3 (gl:=gl) hFE (ps:=ps) (c:=c) ⟨hc0,O⟩ hm mw k m s ls args d0 ow (p0+1) hdm0 hRW O hw0;unfold jv;refine nR Tryz.func41 68 4 ?_;refine jS 13 ?_;refine jq 14 ?_ ?_<;>intro h2
 .omega
 refine rF 6 ?_;refine oc (iX ab0 rfl rfl rfl rfl (hhd) [0,1,2,3] (jN (oT (.cons rfl .jK (jN .nil)))) rfl rfl rfl rfl (jw (oq .nil)) (λs ob' J=>?_) (λs ob' J=>?_));rotate_left
 .obtain ⟨d',ho',b,rfl⟩:=J.vk;cases b;refine⟨_,_,_,_,_,rfl,rfl,rfl,rfl,rfl,?_⟩;refine ss ([0,1,2,3]) (jv F d' h (p0+1)) rfl rfl rfl (by repeat (first|exact nw|refine jN ?_|refine oT ?_|refine rl ?_)) ?_;rw[hti ho'];exact⟨d',_,rfl,rfl⟩
 obtain⟨u,d1,M,R,sh,S,x,cs,ho',hS,b,rfl⟩:=J.ret;cases b;obtain⟨hpp,hk3,hkn⟩:=hok _ _ ho';subst ho';obtain⟨hj1,hj2,hj3,hj4⟩:=vB hE hc0 mw hRW hdm0 hw0;obtain⟨_,hH,hA,I⟩:=Wt.spine _ (ae _) hj1;have hkd:=Wt.yy _ (ae _) hj1;have hss:=qa hj1;rw[hS] at I hss hH hA hkd;dsimp only at I hss hH hA;rw[hS] at hk3;have hcl:=iJ cs;have hct:=ir cs;have hah:=iJ x;have hat:=ir x;have hah2:ij x+1<=(ie.mk M R sh S x).size:=(by simp only[ie.size];omega);refine⟨_,_,_,_,_,rfl,rfl,rfl,rfl,rfl,?_⟩;refine j7 16 ?_ ?_<;>intro h5
 .have hu3:ie.kd u=3:=(by
   rw[<- I];obtain⟨j,y,rfl⟩:∃j y,cs=j++[y]:=⟨cs.dropLast,cs.getLast (by intro e;apply h5;rw[e];rfl),(eM _).symm⟩;rw[qR];rfl)
  obtain⟨so,hso,V⟩:=hk3 hu3;have hI0:Ce F h q cs (iF (.mk M R sh S x)) o 0 [] d1 (p0+1):=⟨ak _,rfl,so,hso,V⟩;refine pt 11 (ι:=Nat×List ie×Nat×Int×Int×Int×fB×List iq×List ie) (λ⟨i,j,d2,r,kf,mf,sf,lf,af⟩=>[(56,int i)]) (λ⟨i,j,d2,r,kf,mf,sf,lf,af⟩=>[pE (F.map (·.d)),dR,.jK (o7 F),mO d2 h r,tO k m s ls args,zO,tO kf mf sf lf af]) [55,54,5,4,0] (λ⟨i,j,d2,r,kf,mf,sf,lf,af⟩=>Ce F h q cs (iF (.mk M R sh S x)) o i j d2 r/\iF (.mk M R sh S x) j=.mk kf mf sf lf af/\d1<=d2/\d2<=h/\0<=r/\r<=20000) (λ⟨i,j,d2,r,kf,mf,sf,lf,af⟩=>cs.length-i) ((0,[],d1,p0+1,M,R,sh,S,x)) ([0,1,2,3,4,5,6]) ⟨hI0,rfl,ae _,hj3,O,hpp⟩ ?_;rintro⟨i,j,d2,r,kf,mf,sf,lf,af⟩ U
  try dsimp only at U
  refine j7 6 ?_ ?_<;>intro h15
  .refine jD 12 ((ie.mk kf mf sf lf af).d) [0,1,2,3] (jv F d2 h r) ?_
   .obtain ⟨hI,W,hd2,G,Y,hp3⟩:=U;obtain rfl:i=cs.length:=(by have:=hI.1;omega);rw[hI.fin,W];exact⟨rfl,rfl⟩
  obtain⟨hI,W,hd2,G,Y,hp3⟩:=U;obtain⟨kx,mx,sx,lx,ax,z⟩:=iZ (show i<cs.length by omega);have hgz:=iO z;have hxw:=hA _ (aO z);obtain⟨ox,H,htx,hnn⟩:=hI.next z
  have hih:=ih q O kx mx sx lx ax c d2 ox r hc0 Y hp3 G H O hxw;refine ni 6 iQ iY ?_ (hat:=(jr z));refine ma 5 [0,1,2] mixed ?_;refine A2 3 rfl (iX ab1 rfl rfl rfl rfl (hih) [0,1,2,3] (jN (oT (.cons rfl .jK (jN .nil)))) rfl rfl rfl rfl (jw (oq .nil)) (λs ob' J=>?_) (λs ob' J=>?_));rotate_left
  .obtain ⟨d',p',C,b,rfl⟩:=J.vk;cases b;refine⟨_,_,_,_,_,rfl,rfl,rfl,rfl,rfl,?_⟩;refine ss ([0,1,2,3]) (jv F d' h p') rfl rfl rfl (by repeat (first|exact nw|refine jN ?_|refine oT ?_|refine rl ?_)) ?_;rw[htx C];exact⟨d',p',rfl,rfl⟩
  obtain⟨ky,my,sy,ly,ay,d3,p3,C,b,rfl⟩:=J.ret;cases b;rw[C] at H;obtain⟨_,hw2,hw3,hw4,hw5,_⟩:=D7 hE q H G hc0 hxw;refine⟨_,_,_,_,_,rfl,rfl,rfl,rfl,rfl,?_⟩;refine A2 4 rfl (CW mN [.tmp 60,.tmp 63] jz ?_);refine qB 5 (uN 3 [.mk kf mf sf lf af,.mk ky my sy ly ay]) ?_;refine nO 6 ?_;refine iB<|jS 3 ?_;refine ml 2 (i+1,j++[.mk ky my sy ly ay],d3,p3,3,0,.empty,[],[.mk kf mf sf lf af,.mk ky my sy ly ay]) [0,1,2,3,4,5,6] ?_;exact⟨⟨hnn _ _ _ C,by rw[qR,W],O,hw3,O,hw5⟩,show cs.length-(i+1)<cs.length-i by omega⟩
 obtain rfl:cs=[]:=ch O;have hu:u=.mk M R sh S x:=I.symm;subst hu;obtain⟨so,hso,V⟩:=hkn hkd;have hI0:Ce F h q x (ie.wa (.mk M R sh S x)) o 0 [] d1 (p0+1):=⟨ak _,rfl,so,hso,V⟩;refine rF 23 ?_;refine iP 39 5 rfl<|pt 0 (ι:=Nat×List ie×Nat×Int) (λ⟨i,j,d2,r⟩=>[(40,int i)]) (λ⟨i,j,d2,r⟩=>[pE (F.map (·.d)),dR,.jK (o7 F),mO d2 h r,tO k m s ls args,zO,tO M R sh S x,.cells [fE M,fE R,fI sh,.d (.sl 3 (iR S)),.own 8 5 (im j)] 39,.row 39 5]) [39,38,7,4,0] (λ⟨i,j,d2,r⟩=>Ce F h q x (ie.wa (.mk M R sh S x)) o i j d2 r/\d1<=d2/\d2<=h/\0<=r/\r<=20000) (λ⟨i,j,d2,r⟩=>x.length-i) ((0,[],d1,p0+1)) ([0,1,2,3,4,5,6,7,8]) ?I2 ?H2 (hM:= ?M2)
 case I2=>
  exact⟨hI0,ae _,hj3,O,hpp⟩
 case M2=>
  refine mo ?_ (iU (iU (iU (iU (iU (iU rA))))))
  repeat (first|exact nw|exact C9|refine jN ?_|refine oT ?_|refine rl ?_|refine D3 ?_|refine Ky ?_ ?_|refine jw ?_|refine .cons (.nil rfl) ?_)
 case H2=>
  rintro⟨i,j,d2,r⟩ U
  try dsimp only at U
  refine j7 6 ?_ ?_<;>intro h9
  .refine jD 13 ((ie.mk M R sh S j).d) [0,1,2,3] (jv F d2 h r) ?_
   .obtain ⟨hI,hd2,G,Y,hp3⟩:=U;obtain rfl:i=x.length:=(by have:=hI.1;omega);rw[hI.fin];exact⟨rfl,rfl⟩
  obtain⟨hI,hd2,G,Y,hp3⟩:=U;obtain⟨kx,mx,sx,lx,ax,z⟩:=iZ (show i<x.length by omega);have hgz:=iO z;have hwx:=hH.2.1.get z;obtain⟨ox,H,htx,hnn⟩:=hI.next z
  have hxw:Wt (jY F) ps (.mk kx mx sx lx ax) (c+1):=hwx.up (by split<;>omega);have hih:=ih q O kx mx sx lx ax (c+1) d2 ox r O Y hp3 G H O hxw;have hyl:=ir j;have hyl2:=hI.2.1;refine ni 6 iQ iY ?_ (hat:=(jr z));refine ma 5 [0,1,2,3] mixed ?_;refine A2 4 rfl (iX ab1 rfl rfl rfl rfl (hih) [0,1,2,3] (jN (oT (.cons rfl .jK (jN .nil)))) rfl rfl rfl rfl (jw (oq .nil)) (λs ob' J=>?_) (λs ob' J=>?_));rotate_left
  .obtain ⟨d',p',C,b,rfl⟩:=J.vk;cases b;refine⟨_,_,_,_,_,rfl,rfl,rfl,rfl,rfl,?_⟩;refine ss ([0,1,2,3]) (jv F d' h p') rfl rfl rfl (by repeat (first|exact nw|refine jN ?_|refine oT ?_|refine rl ?_)) ?_;rw[htx C];exact⟨d',p',rfl,rfl⟩
  obtain⟨ky,my,sy,ly,ay,d3,p3,C,b,rfl⟩:=J.ret;cases b;rw[C] at H;obtain⟨_,hw2,hw3,hw4,hw5,_⟩:=D7 hE q H G O hxw;have hnx:im j++[[fD ky,fD my,fG sy,.sl 3 (iR ly),.sl 5 (im ay)]]=im (j++[.mk ky my sy ly ay]):=(by rw[ll];rfl);refine⟨_,_,_,_,_,rfl,rfl,rfl,rfl,rfl,?_⟩;refine A2 5 rfl (CW mN [.tmp 48] jz ?_);refine A2 6 rfl (ya mN ?_);refine ga [7] ?_;refine nO 8 ?_;refine iB<|jS 3 ?_;refine rF 2 ?_;rw[hnx];refine ml 0 (i+1,j++[.mk ky my sy ly ay],d3,p3) [0,1,2,3,4,5,6,7,8] ?_;exact⟨⟨hnn _ _ _ C,O,hw3,O,hw5⟩,show x.length-(i+1)<x.length-i by omega⟩
theorem OM(e:nS h){ps:List fB}(i:c<=1000000)(N):WG gl h ps c N:=by
 induction N using Nat.strongRecOn with
 |_ N b=>exact Sw e i b
def Hn(c e:Int):D:=.uU 115 (.cp [.v (.int .i64 c),.v (.int .i64 e)])
def AR:List D:=[.v (.iface 180 (.agg #[.pointer (some ⟨2,49,none⟩)]))]
theorem Yv(I:gl 1=AR)(l):
 jT fC gl 54 [.cells [.d (.v (.pointer none))] 115] [.d (.uU 115 (.cp l)),.uU 117 (.jk 0 0)] λout ob'=>out=.ret (fH true)/\ob'=[.cells [.d (.cp l)] 115]:=by
 intro g w vs C hd;have hr:=wM (n:=2) (by simp) C hd;obtain⟨x,l1,rfl,⟨y,rfl,b,eo,rfl,hc⟩,z,l2,rfl,⟨u,rfl,tb,q,rfl⟩,rfl⟩:=hd;obtain⟨us,F,⟨p,l3,rfl,hp,rfl⟩,r⟩:=C.qM 0 _ _ rfl q;have J:p=.pointer none:=hp;subst J;have hg:=C.Pe 1;rw[I] at hg;obtain⟨⟨gx,M,R⟩,_⟩:=hg;have S:gx=.iface 180 (.agg #[.pointer (some ⟨2,49,none⟩)]):=R;subst S;have U:=(C.sat _ _ _ M).1;have V:tb<w.heap.size:=(cV.1 F).1;refine(ab7 ⟨b,eo,none⟩ ⟨tb,0,none⟩ (.pointer none) w U (by simp[World.cell?,F]) (by simp[World.frozen?,F])).mono ?_;rintro e w' ⟨rfl,rfl⟩;have G:∀(W:World) (o:Obj),tb<W.heap.size->W.heap[tb]? =some (.cells #[.pointer none] 115 (0,0))->(W.alloc o).heap[tb]? =some (.cells #[.pointer none] 115 (0,0))/\tb<(W.alloc o).heap.size:=λW o H h2=>by
  refine⟨?_,by simp;omega⟩;rw[Below.heap_alloc W o tb H];exact h2
 obtain⟨a1,b1⟩:=G w (.cells #[.pointer (some ⟨tb,0,none⟩)] 117) V F;obtain⟨a2,b2⟩:=G _ (.cells #[.pointer (some ⟨2,117,none⟩),.pointer (some ⟨w.heap.size,0,none⟩),.int .u64 150] 156) b1 a1;obtain⟨a3,b3⟩:=G _ (.cells #[.pointer (some ⟨2,117,none⟩),.pointer (some ⟨w.heap.size,0,none⟩),.int .u64 150] 156) b2 a2;obtain⟨a4,b4⟩:=G _ (.cells #[.pointer (some ⟨b,eo,none⟩)] 115) b3 a3;have Y:=((((Fr.refl (λc=>c=tb) w).alloc (.cells #[.pointer (some ⟨tb,0,none⟩)] 117)).alloc (.cells #[.pointer (some ⟨2,117,none⟩),.pointer (some ⟨w.heap.size,0,none⟩),.int .u64 150] 156)).alloc (.cells #[.pointer (some ⟨2,117,none⟩),.pointer (some ⟨w.heap.size,0,none⟩),.int .u64 150] 156)).alloc (.cells #[.pointer (some ⟨b,eo,none⟩)] 115);generalize hW:(((w.alloc (.cells #[.pointer (some ⟨tb,0,none⟩)] 117)).alloc (.cells #[.pointer (some ⟨2,117,none⟩),.pointer (some ⟨w.heap.size,0,none⟩),.int .u64 150] 156)).alloc (.cells #[.pointer (some ⟨2,117,none⟩),.pointer (some ⟨w.heap.size,0,none⟩),.int .u64 150] 156)).alloc (.cells #[.pointer (some ⟨b,eo,none⟩)] 115)=W at*
 have s:(W.setCell ⟨tb,0,none⟩ (.pointer (some ⟨b,eo,none⟩))).heap[tb]? =some (.cells #[.pointer (some ⟨b,eo,none⟩)] 115 (0,0)):=by
  simp[World.setCell,dF,a4]
 have hfr:Fr (λc=>c=tb) w (W.setCell ⟨tb,0,none⟩ (.pointer (some ⟨b,eo,none⟩))):=by
  exact Y.trans ⟨rfl,rfl,rfl,by simp[World.setCell],λc hc hn=>Below.heap_setCell _ _ _ _ hn⟩
 have H:=(hr.NL (i:=0) (o':=.cells [.d (.cp l)] 115) rfl q rfl hfr ⟨_,s,⟨_,_,rfl,⟨b,eo,rfl,hc⟩,rfl⟩,r⟩ (.inl rfl) (λj f dn cur h=>by match j,h with|j+1,h=>simp at h) (λk f dn cur h=>by cases h) r).1;exact⟨g,_,H.store,H.pG,by simp,rfl,fH true,rfl,rfl,rfl⟩
theorem Wd(e:gl 1=AR)(c a):jA fC gl 35 [Hn c a] (· =.jj [fD c,fD a]):=by
 unfold Hn;refine oN Tryz.func35 23 ?_;refine rF 10 ?_;refine o1 (MG Gl ?_);refine vw 2 ?_;refine rF 11 ?_;refine o1 (X6 ?_);refine nC 0 (Yv e [fD c,fD a]) [0] ?_;refine' Cg 2 13 11 2 ?a1 ?_
 case a1=>
  intro k b;refine rF 1 ?_;refine gy<|o1 (S8 YM ?_);exact b [_,_] rfl rfl
 refine vw 2 ?_;refine ma 3 [0,1,2,3,4,5,6,7,8,9] mixed ?_;refine iB<|rF 2 ?_;refine fR<|aaf rfl rfl rfl ?_;rfl
theorem C4(e):RP fC c 38 [.cells [.d e] 49] [.jk 0 0] .ret (λU' ob'=>U'=.ret/\ob'=[.cells [.d e] 49]):=by
 refine Aa (Q0:=λout ob'=>out=.ret (.d (.jj []))/\ob'=[.cells [.d e] 49]) (U':=.ret) Tryz.func38 rfl Tryz.ntmps38 (rs:=[]) rfl rfl rfl 1 rfl (λ_ _=>rfl) rfl rfl rfl (.inl ⟨rfl,rfl,rfl⟩) ?_ ?_
 .rintro out ob' ⟨rfl,rfl⟩;exact⟨⟨_,rfl⟩,rfl,rfl⟩
 refine vc ?_;refine sr<|o1 (vu ad6 ?_);refine nx<|EM (λb=>?_) (λb=>?_)
 .simp (decide:=true) only[lP] at b
 (try simp(decide:=true) only[lP] at b);refine ue ?_;refine o1 (Wl ?_);refine BB ?_;refine Gk ?_;refine Gx ?_
 refine tL (l:=[]) rfl rfl ([0]) ([.cells [.d e] 49]) rfl rfl rfl ?_ ?_
 .repeat (first|exact nw|refine jN ?_)
 .exact ⟨rfl,rfl⟩
theorem IG(e):RP fC c 38 [.cells [.d e] 49] [.jk 0 0] (.vk Co false) (λU' ob'=>U'=.vk Co true/\ob'=[.cells [.d (Hn 14 0)] 49]):=by
 refine Aa (Q0:=λout ob'=>out=.ret (.d (.jj []))/\ob'=[.cells [.d (Hn 14 0)] 49]) (U':=.vk Co true) Tryz.func38 rfl Tryz.ntmps38 (rs:=[]) rfl rfl rfl 1 rfl (λ_ _=>rfl) rfl rfl rfl (.inr ⟨_,rfl,rfl,rfl⟩) ?_ ?_
 .rintro out ob' ⟨rfl,rfl⟩;exact⟨⟨_,rfl⟩,rfl,rfl⟩
 unfold Co;refine vc ?_;refine sr<|o1 (MG ad6 ?_);refine nx<|cd (λb=>?_) (λb=>?_)
 .simp (decide:=true) only[lP] at b
 (try simp(decide:=true) only[lP] at b);refine sr<|o1 (Ho ?_);refine o1 (ex2 ?_);refine o1 (ex2 ?_);refine nx<|EM (λk=>?_) (λk=>?_)
 .simp (decide:=true) only[lP] at k
 (try simp(decide:=true) only[lP] at k);refine kp [10,0] ?_;refine sr ?_
 refine oc (T:=λ_=>False) (Yz T8 ?_ (hl:=by simp only[aj,aH,Nat.reduceAdd];rfl));refine oc (Ug T8 ?_);refine nx<|ue ?_;refine o1 (mv ?_);refine o1 (bld NT ?_);refine oc (T:=λ_=>False) (bx NT ?_ (hl:=by simp only[aj,aH,Nat.reduceAdd];rfl));refine OD 2 rfl rfl rfl rfl rfl rfl ?_;refine o1 (S9 ?_);refine o1 (ncb ?_);refine oc (Ug Cp ?_);refine BB ?_;refine Gk ?_;refine Gx ?_;refine tL (l:=[]) rfl rfl ([0]) ([.cells [.d (Hn 14 0)] 49]) rfl rfl rfl ?_ ?_
 .repeat (first|exact nw|refine jN ?_)
 .exact ⟨rfl,rfl⟩
theorem GR.ret{c:List iI}{most:Nat}{e:Int}{o:qZ}{v:SV}{ob':List Ob}(h:GR c most e o (.ret v) ob'):∃(k m:Int) (s:fB) (ls:List iq) (args:List ie) (b:Nat),o=.ok (.mk k m s ls args) b/\v=.d (ie.mk k m s ls args).d/\ob'=jv c b most e:=by
 cases o with
 |ok u b=>obtain⟨k,m,s,ls,args,rfl⟩:=ie.case u;obtain⟨h2,U⟩:=h;cases h2;exact⟨k,m,s,ls,args,b,rfl,rfl,U⟩
 |ja=>obtain⟨_,h1,_⟩:=h;cases h1
theorem GR.vk{i:List iI}{c:Nat}{j:Int}{o:qZ}{v:SV}{e:List Ob}(h:GR i c j o (.vk v) e):∃b,o=.ja/\v=.d Co/\e=jv i b c j:=by
 cases o with
 |ok u b=>obtain⟨k,_⟩:=h;cases k
 |ja=>obtain⟨b,U,k⟩:=h;cases U;exact⟨b,rfl,rfl,k⟩
def B6(c:List iI):List Ob:=[pE (c.map (·.d)),dR,.jK (o7 c)]
def afy:qZ->D
 | .ok u d=>.jj [u.d,.v (.int .i64 d),.v .nilIface]
 | .ja=>.jj [iu.d,.v (.int .i64 0),Hn 14 0]
theorem PM(j:nS h){ps:List fB}(x:e<=1000000)(S m s i args o)(y:RW h e n (.mk S m s i args) 0 o)(M:(ie.mk S m s i args).size+30000*e<=1000000000000)(z:Wt (jY h) ps (.mk S m s i args) 0):
 jT fC gl 17 (B6 h) [.jk 0 0,.d (ie.mk S m s i args).d,fE e] λout ob'=>out=.ret (.d (afy o))/\ob'=B6 h:=by
 have q:=OL (gl:=gl) j (ps:=ps) (c:=0) ⟨aP _,O⟩ x S m s i args 0 o 0 (ak _) y O z;unfold B6;refine wj Tryz.func17 rfl Tryz.ntmps17 (rs:=[.cell 6 39,.tmp 7,.cell 8 49]) rfl rfl rfl 3 rfl ?_;refine sr<|oc (T:=λ_=>False) (bx jz ?_ (hl:=by simp only[aj,aH,Nat.reduceAdd];rfl));refine oc (T:=λ_=>False) (Yz jz ?_ (hl:=by simp only[aj,aH,Nat.reduceAdd];rfl));refine o1 (Wl ?_);refine oc (T:=λ_=>False) (Yz Cp ?_ (hl:=by simp only[aj,aH,Nat.reduceAdd];rfl));refine nx<|sr<|o1 (mv ?_);refine o1 (mv ?_);refine o1 (bld Js ?_);refine oc (T:=λ_=>False) (bx Js ?_ (hl:=by simp only[aj,aH,Nat.reduceAdd];rfl));refine o1 (Wl ?_);refine nx<|Fp ?_;refine Aw ab2 rfl rfl rfl rfl rfl ?_;refine UC 7 rfl ?_;refine kp [9,8,7,6,4] ?_;refine sr<|o1 (mv ?_);refine o1 (Hg jz ?_);refine oc (iX agl rfl rfl rfl rfl (q) [0,1,2,6] (jN (oT (.cons rfl .jK (jN .nil)))) rfl rfl rfl rfl (jw (oq .nil)) (λs ob' b=>?_) (λs ob' b=>?_));rotate_left
 .obtain ⟨R,U,rfl,rfl⟩:=b.vk;refine⟨_,_,_,_,_,rfl,rfl,rfl,rfl,rfl,?_⟩;refine⟨_,rfl,λn=>?_⟩;refine BJ (IG _) [5] (.cons rfl (.cells rfl (nQ.rfl _)) .nil) rfl rfl rfl rfl (.cons (.refl _) .nil) (λC ob' b=>?_);obtain⟨rfl,rfl⟩:=b;refine⟨_,_,_,_,rfl,rfl,rfl,rfl,?_⟩;refine FT rfl ?_;refine pc ⟨_,_,rfl,(jB rfl rfl jz rfl rfl rfl rfl),⟨_,_,rfl,rfl,⟨_,_,rfl,(jB rfl rfl Cp rfl rfl rfl rfl),rfl⟩⟩⟩ rfl (.jj [iu.d,fD 0,Hn 14 0]) (by repeat (first|exact .refl _|exact .nil|refine .agg ?_|refine .jj ?_|refine .sl ?_|refine .cons ?_ ?_)) [0,1,2] [pE (h.map (·.d)),dR,.jK (o7 h)] rfl rfl rfl (by repeat (first|exact nw|refine jN ?_|refine oT ?_|refine Nz ?_|refine rl ?_|refine GK ?_)) ?_;rw[U];exact⟨rfl,rfl⟩
 obtain⟨F,G,H,I,J,d1,U,r,rfl⟩:=b.ret;cases r;refine⟨_,_,_,_,_,rfl,rfl,rfl,rfl,rfl,?_⟩;refine oc (T:=λ_=>False) (Yz jz ?_ (hl:=by simp only[aj,aH,Nat.reduceAdd];rfl));refine oc (Ug jz ?_);refine nx<|wJ ?_;refine kp [10,9,8,7,6] ?_;refine KF ?_ (hm:=by exact mixed);refine A1 0 rfl (Hg jz ⟨_,rfl,?_⟩);refine A1 1 rfl (mv ⟨_,rfl,?_⟩);refine A1 2 rfl (ncb ⟨_,rfl,?_⟩);refine A1 3 rfl (fdb Js ⟨_,rfl,?_⟩);refine A1 4 rfl (Hg NU ⟨_,rfl,?_⟩);refine A2 5 rfl (Ug jz ?_);refine A1 6 rfl (Wl ⟨_,rfl,?_⟩);refine A2 7 rfl (Ug Cp ?_);refine iB<|Au ?_;refine yH ?_;refine Gy ?_;refine BJ (C4 _) [5] (.cons rfl (.cells rfl (nQ.rfl _)) .nil) rfl rfl rfl rfl (.cons (.refl _) .nil) (λC ob' b=>?_);obtain⟨rfl,rfl⟩:=b;refine⟨_,_,_,_,rfl,rfl,rfl,rfl,?_⟩;refine FT rfl ?_;refine pc ⟨_,_,rfl,(jB rfl rfl jz rfl rfl rfl rfl),⟨_,_,rfl,rfl,⟨_,_,rfl,(jB rfl rfl Cp rfl rfl rfl rfl),rfl⟩⟩⟩ rfl (.jj [(ie.mk F G H I J).d,fD d1,.v .nilIface]) (by exact .refl _) ([0,1,2]) ([pE (h.map (·.d)),dR,.jK (o7 h)]) rfl rfl rfl ?_ ?_
 .repeat (first|exact nw|refine jN ?_|refine oT ?_|refine rl ?_)
 .rw [U];exact⟨rfl,rfl⟩
def afx:tQ->D
 | .ok u d _=>.jj [u.d,.v (.int .i64 d),.v .nilIface]
 | .ja=>.jj [iu.d,.v (.int .i64 0),Hn 14 0]
theorem AT(h:nS c){ps:List fB}(q:most<=1000000)(S m s e args o)(r:RN c most n (.mk S m s e args) 0 0 o)(I:(ie.mk S m s e args).size+30000*most<=1000000000)(x:Wt (jY c) ps (.mk S m s e args) 0):
 jT fC gl 19 (B6 c) [.jk 0 0,.d (ie.mk S m s e args).d,fE most] λout ob'=>out=.ret (.d (afx o))/\ob'=B6 c:=by
 have i:=OM (gl:=gl) h (ps:=ps) q n S m s e args 0 0 o 0 (aP _) (aP _) Z (ak _) r O x;unfold B6;refine wj Tryz.func19 rfl Tryz.ntmps19 (rs:=[.cell 6 39,.tmp 7,.cell 8 49]) rfl rfl rfl 3 rfl ?_;refine sr<|oc (T:=λ_=>False) (bx jz ?_ (hl:=by simp only[aj,aH,Nat.reduceAdd];rfl));refine oc (T:=λ_=>False) (Yz jz ?_ (hl:=by simp only[aj,aH,Nat.reduceAdd];rfl));refine o1 (Wl ?_);refine oc (T:=λ_=>False) (Yz Cp ?_ (hl:=by simp only[aj,aH,Nat.reduceAdd];rfl));refine nx<|sr<|o1 (mv ?_);refine o1 (mv ?_);refine o1 (bld Js ?_);refine oc (T:=λ_=>False) (bx Js ?_ (hl:=by simp only[aj,aH,Nat.reduceAdd];rfl));refine o1 (Wl ?_);refine nx<|Fp ?_;refine Aw ab2 rfl rfl rfl rfl rfl ?_;refine UC 7 rfl ?_;refine kp [9,8,7,6,4] ?_;refine sr<|o1 (mv ?_);refine o1 (Hg jz ?_);refine oc (iX ab1 rfl rfl rfl rfl (i) [0,1,2,6] (jN (oT (.cons rfl .jK (jN .nil)))) rfl rfl rfl rfl (jw (oq .nil)) (λs ob' b=>?_) (λs ob' b=>?_));rotate_left
 .obtain ⟨J,M,U,rfl,rfl⟩:=b.vk;refine⟨_,_,_,_,_,rfl,rfl,rfl,rfl,rfl,?_⟩;refine⟨_,rfl,λn=>?_⟩;refine BJ (IG _) [5] (.cons rfl (.cells rfl (nQ.rfl _)) .nil) rfl rfl rfl rfl (.cons (.refl _) .nil) (λy ob' b=>?_);obtain⟨rfl,rfl⟩:=b;refine⟨_,_,_,_,rfl,rfl,rfl,rfl,?_⟩;refine FT rfl ?_;refine pc ⟨_,_,rfl,(jB rfl rfl jz rfl rfl rfl rfl),⟨_,_,rfl,rfl,⟨_,_,rfl,(jB rfl rfl Cp rfl rfl rfl rfl),rfl⟩⟩⟩ rfl (.jj [iu.d,fD 0,Hn 14 0]) (by repeat (first|exact .refl _|exact .nil|refine .agg ?_|refine .jj ?_|refine .sl ?_|refine .cons ?_ ?_)) [0,1,2] [pE (c.map (·.d)),dR,.jK (o7 c)] rfl rfl rfl (by repeat (first|exact nw|refine jN ?_|refine oT ?_|refine Nz ?_|refine rl ?_|refine GK ?_)) ?_;rw[U];exact⟨rfl,rfl⟩
 obtain⟨z,C,F,G,H,d1,R,U,j,rfl⟩:=b.ret;cases j;refine⟨_,_,_,_,_,rfl,rfl,rfl,rfl,rfl,?_⟩;refine oc (T:=λ_=>False) (Yz jz ?_ (hl:=by simp only[aj,aH,Nat.reduceAdd];rfl));refine oc (Ug jz ?_);refine nx<|wJ ?_;refine kp [10,9,8,7,6] ?_;refine KF ?_ (hm:=by exact mixed);refine A1 0 rfl (Hg jz ⟨_,rfl,?_⟩);refine A1 1 rfl (mv ⟨_,rfl,?_⟩);refine A1 2 rfl (ncb ⟨_,rfl,?_⟩);refine A1 3 rfl (fdb Js ⟨_,rfl,?_⟩);refine A1 4 rfl (Hg NU ⟨_,rfl,?_⟩);refine A2 5 rfl (Ug jz ?_);refine A1 6 rfl (Wl ⟨_,rfl,?_⟩);refine A2 7 rfl (Ug Cp ?_);refine iB<|Au ?_;refine yH ?_;refine Gy ?_;refine BJ (C4 _) [5] (.cons rfl (.cells rfl (nQ.rfl _)) .nil) rfl rfl rfl rfl (.cons (.refl _) .nil) (λy ob' b=>?_);obtain⟨rfl,rfl⟩:=b;refine⟨_,_,_,_,rfl,rfl,rfl,rfl,?_⟩;refine FT rfl ?_;refine pc ⟨_,_,rfl,(jB rfl rfl jz rfl rfl rfl rfl),⟨_,_,rfl,rfl,⟨_,_,rfl,(jB rfl rfl Cp rfl rfl rfl rfl),rfl⟩⟩⟩ rfl (.jj [(ie.mk z C F G H).d,fD d1,.v .nilIface]) (by exact .refl _) ([0,1,2]) ([pE (c.map (·.d)),dR,.jK (o7 c)]) rfl rfl rfl ?_ ?_
 .repeat (first|exact nw|refine jN ?_|refine oT ?_|refine rl ?_)
 .rw [U];exact⟨rfl,rfl⟩
theorem vj(s):jA fC (xt g) 34 [fG s] (· =.jj [(pK s).1.d,.agg [fD (pK s).2.1,fD (pK s).2.2]]):=by
 refine oN Tryz.func34 26 ?_;refine jq 14 ?_ ?_<;>intro i
 .refine v8 10 (.jj [iu.d,.agg [fD 2,fD 0]]) ?_;unfold pK;rw[if_pos O]
 obtain⟨k1,n1,s1,l1,a1,c⟩:=ie.case (jt (s.size+1) s ⟨0,none⟩).1
 have e:s.size<=1099511627776:=O;have U:=nN (s:=s) (s.size+1) ⟨0,none⟩ (ak _);refine rF 13 ?_;refine oc (iX Wg rfl rfl rfl rfl (zo s e (s.size+1) ⟨0,none⟩ (ak _) (by simp)) [2] (jN .nil) rfl rfl rfl rfl (jw .nil) (λs ob' k=>?_) (λs ob' k=>?_));rotate_left
 .first|exact k.elim|cases k.1
 obtain⟨b,rfl⟩:=k;rw[c] at b;cases b;refine⟨_,_,_,_,_,rfl,rfl,rfl,rfl,rfl,?_⟩;refine nC 7 (Tc s (jt (s.size+1) s ⟨0,none⟩).2 e U.2) [2] ?_;refine j7 12 ?_ ?_<;>intro h
 .refine ma 3 [0,1] mixed ?_;refine nO 2 ?_;refine nO 3 ?_;refine iB<|v8 2 (.jj [(ie.mk k1 n1 s1 l1 a1).d,.agg [fD (iV (rR s (jt (s.size+1) s ⟨0,none⟩).2).f),fD (ot (rR s (jt (s.size+1) s ⟨0,none⟩).2).f)]]) ?_;rw[Lx O h,c]
 refine ma 1 [0,1] mixed ?_;refine nO 2 ?_;refine nO 3 ?_;refine iB<|v8 3 (.jj [iu.d,.agg [fD (iV (rR s (jt (s.size+1) s ⟨0,none⟩).2).f),fD (ot (rR s (jt (s.size+1) s ⟨0,none⟩).2).f)]]) ?_;rw[OB O h]
theorem Qe:∀(n:Nat) (k m:Int) (s:fB) (ls:List iq) (args:List ie) (k2 G:Int) (s2:fB) (q:List iq) (b:List ie),(ie.mk k m s ls args).size<=n->(ie.mk k m s ls args).size<=1099511627776->
 jA fC gl 40 [(ie.mk k m s ls args).d,(ie.mk k2 G s2 q b).d,fF false] (· =fF (ie.same (.mk k m s ls args) (.mk k2 G s2 q b))):=by
 intro n
 induction n with
 |zero=>intro k m s ls args k2 G s2 q b h;simp[ie.size] at h
 |succ n ih=>
  intro k m s ls args k2 G s2 q b hn hb;have hsz:ij args<=n:=by simp[ie.size] at hn;omega
  have hlen:=ir args;have I:=ir b;have hlb:=Cn args;have J:=jn ls;have H:=jn q;have hlbL:=pO ls;simp only[ie.size] at hb;refine oN Tryz.func40 105 ?_;refine rV 16 21 16 5 ?_;refine rV 1 28 23 5 ?_;refine rV 1 37 30 7 ?_;refine rV 1 46 39 7 ?_;refine jq 2 ?_ ?_<;>intro h1
  .refine od 7 ?_;rw[ie.r4];rcases h1 with(((h|h)|h)|h)|h
   .simp [h]
   .simp [h]
   .simp [h]
   .have:n6 ls q=false:=by
     cases M:n6 ls q with
     |false=>rfl
     |true=>exact absurd (by have:=CF M;omega) h
    simp[this]
   .have:q8 args b=false:=by
     cases M:q8 args b with
     |false=>rfl
     |true=>exact absurd (by have:=HP M;omega) h
    simp[this]
  refine vq 9 (ι:=Nat) (λi=>[(7,int i)]) [4,3,2] (λi=>i<=ls.length/\n6 (ls.take i) (q.take i)=true) (λi=>ls.length-i) (0) ⟨ak _,by simp[n6]⟩ ?_;rintro i e
  try dsimp only at e
  refine jq 10 ?_ ?_<;>intro h4
  .obtain ⟨R,S,V,c⟩:=kj (show i<ls.length by omega);obtain⟨r,x,y,U⟩:=kj (show i<q.length by omega);have z:=pJ c;refine ma 5 [0,1,2] mixed ?_;refine pQ 3 oz oP ?_ (hat:=(lj c));refine ga [4,5,6,7] ?_;refine pQ 8 oz oP ?_ (hat:=(lj U));refine ga [9] ?_;refine qB 10 (JD _ R S V r x y (ae _) O) ?_;refine ga [11] ?_;refine iB<|xP 7 69 68 1 ?_;refine vw 2 ?_;refine jq 8 ?_ ?_<;>intro C
   .refine od 11 ?_;rw[ie.r4];rw[yG c U C];simp
   refine jS 5 ?_;refine qX 2 (i+1) ?_;exact⟨⟨O,by rw[Fl c U];simp[e.2,C]⟩,O⟩
  have hL:=e.2;rw[aS O,aS O] at hL;refine vq 12 (ι:=Nat) (λj=>[(9,int j)]) [4,3,2] (λj=>j<=args.length/\q8 (args.take j) (b.take j)=true) (λj=>args.length-j) (0) ⟨ak _,by simp[q8]⟩ ?_;rintro j e
  try dsimp only at e
  refine j7 10 ?_ ?_<;>intro h12
  .refine od 11 ?_;rw[ie.r4];have C:=e.2;rw[aS O,aS O] at C;simp[C,h1,hL]
  obtain⟨R,n',S,l',V,c⟩:=iZ (show j<args.length by omega);obtain⟨r,W,x,Y,y,U⟩:=iZ (show j<b.length by omega);have z:=iO c;refine ma 5 [0,1,2] mixed ?_;refine pQ 3 iQ iY ?_ (hat:=(jr c));refine ga [4,5,6,7] ?_;refine pQ 8 iQ iY ?_ (hat:=(jr U));refine ga [9,10] ?_;refine qB 11 (ih R n' S l' V r W x Y y O O) ?_;refine ga [12] ?_;refine iB<|jq 7 ?_ ?_<;>intro F
  .refine od 11 ?_;rw[ie.r4];rw[DH c U F];simp
  refine jS 5 ?_;refine rF 2 ?_;refine bi (j+1) rfl ?_ ?_
  .exact ⟨⟨O,by rw[Oj c U];simp[e.2,F]⟩,O⟩
  .exact mz
theorem wo(y m s i e j q r h c)(x:(ie.mk y m s i e).size<=1099511627776):
 jA fC gl 18 [(ie.mk y m s i e).d,(ie.mk j q r h c).d] (· =fF (ie.same (.mk y m s i e) (.mk j q r h c))):=by
 refine oN Tryz.func18 8 ?_;refine ny 11 (Qe _ y m s i e j q r h c (ae _) x) ?_;refine od 4 ?_;rfl
theorem Sp{c:List ie}{j:Nat}(h:c[j]? =some a):wq (c.drop j) t=.mk 5 0 .empty [] [a,wq (c.drop (j+1)) t]:=by
 rw[drop_cons h];rfl
theorem uj(x:RD)(m h:Int)(c:List ie)(k n:Int)(s:fB)(G:List iq)(e:List ie)(i:Nat)(H:i<=c.length)(h0:0<c.length)(hb:c.length<=1099511627776):
 jT fC gl 176 [pX x m c.length h,pA c] [.jk 0 0,.d (ie.mk k n s G e).d,fE i] λout ob'=>out=.ret (.d (wq (c.drop i) (.mk k n s G e)).d)/\ob'=[pX x m i h,pA (c.take i)]:=by
 have S:=ir c;obtain⟨kR,V,sR,W,Y,I⟩:=ie.case (wq (c.drop i) (.mk k n s G e))
 rw[I];refine nR Tryz.func176 38 2 ?_;refine rF 13 ?_;refine o1 (qg iQ rfl rfl ?_);refine sH 0 ?_;refine pt 4 (ι:=Nat×Int×Int×fB×List iq×List ie) (λ⟨j,U,q,r,y,z⟩=>[(7,int ((j:Int)-1))]) (λ⟨j,U,q,r,y,z⟩=>[pX x m c.length h,pA c,tO U q r y z,zO]) [6,4,0,2] (λ⟨j,U,q,r,y,z⟩=>i<=j/\j<=c.length/\wq (c.drop j) (.mk k n s G e)=.mk U q r y z) (λ⟨j,U,q,r,y,z⟩=>j) ((c.length,k,n,s,G,e)) ([0,1,2,3]) ⟨H,ae _,by rw[List.drop_length];rfl⟩ ?_;rintro⟨j,U,q,r,y,z⟩ C
 try dsimp only at C
 obtain⟨i1,i2,R⟩:=C;refine j7 8 ?_ ?_<;>intro h2
 .obtain rfl:j=i:=O;rw[R] at I;refine rF 6 ?_;cases I;refine rF 7 ?_;refine oc (xN iQ iY rfl rfl rfl rfl rfl rfl rfl rfl O O rfl rfl rfl ?_);refine rF 12 ?_;refine fR ?_;rw[qG];refine pc ⟨_,_,rfl,(jB rfl rfl jz rfl rfl rfl rfl),rfl⟩ rfl ((ie.mk kR V sR W Y).d) (by exact .refl _) ([0,1]) ([pX x m j h,pA (c.take j)]) rfl rfl rfl ?_ ?_
  .repeat (first|exact nw|refine jN ?_|refine Nz ?_)
  .exact ⟨rfl,rfl⟩
 obtain⟨b,rfl⟩:∃b,j=b+1:=⟨j-1,O⟩;obtain⟨k2,J,s2,l2,a2,F⟩:=iZ (show b<c.length by omega);have M:(im c)[(((b+1:Nat):Int)-1).toNat]? =some [D.v (.int .i64 k2),fD J,fG s2,.sl 3 (iR l2),.sl 5 (im a2)]:=by
  rw[show(((b+1:Nat):Int)-1).toNat=((b:Nat):Int).toNat by omega];exact jr F
 refine ma 4 [0,1,2,3,4] mixed ?_;refine A1 5 rfl (mH iQ iY rfl rfl rfl rfl rfl rfl O ⟨_,rfl,?_⟩);refine ga [7] ?_;refine A2 (T:=λ_=>False) 6 rfl (tC jz rfl rfl rfl rfl rfl rfl rfl rfl rfl (M) ?_);refine qB 8 (BN k2 J s2 l2 a2 U q r y z) ?_;refine nO 9 ?_;refine iB<|sH 4 ?_;refine ml 2 ((b,5,0,.empty,[],[.mk k2 J s2 l2 a2,.mk U q r y z])) ([0,1,2,3]) ⟨⟨O,O,by rw[Sp F,R]⟩,dI b⟩ (hM:=by exact oL (j8 rfl (by exact Fit.of_eq (by rw[show(((b+1:Nat):Int)-1-1)=((b:Nat):Int)-1 by omega];rfl))))
theorem Kt(l n)(e:l.length<=1099511627776):jA fC c 180 [.sl 1 (ints l),fD n] (· =.sl 1 (ints (l++[n]))):=by
 have b:=qP l;refine oN Tryz.func180 13 ?_;refine rF 14 ?_;refine oc (T:=λ_=>False) (qL DB rfl rfl rfl rfl rfl rfl (by simp only[aj,aH,Nat.reduceAdd];rfl) rfl rfl Z (by first|decide|(simp only[maxLen,aj,aH,aN,bc];omega)|omega) rfl rfl rfl ?_);refine oR 7 DB [.tmp 10] NU ?_;refine oc (ya DB ?_);refine od 4 ?_;rw[<- Gg]
def uf(ps:List fB):List iq:=ps.map λp=>.mk 4 p []
theorem IP:∀l:List D,vE l l
 |[]=>.nil
 |a::r=>.cons (.refl a) (IP r)
theorem x6{e c:List D}(h:vE e c):∀l:List (List D),vD (l++[e]) (l++[c])
 |[]=>.cons h .nil
 |a::r=>.cons (IP a) (x6 h r)
theorem UP(c)(r:c.length<=1099511627776):jA fC h 181 [nU c] (· =.sl 3 (iR (uf c))):=by
 have e:=jU c;refine oN Tryz.func181 20 ?_;refine rF 17 ?_;refine iP 121 3 rfl<|pt 0 (ι:=Nat) (λi=>[(4,int i),(3,.own 0 3 (iR (uf (c.take i))))]) (λi=>[.row 121 3]) [0] (λi=>i<=c.length) (λi=>c.length-i) (0) ([0]) (ak _) ?_ (hM:=by exact oL (iU (j8 rfl (by exact Fit.nil rfl))));rintro i b
 try dsimp only at b
 refine j7 9 ?_ ?_<;>intro s
 .refine od 12 ?_;rw[aS O]
 have k:iR (uf (c.take i))++[[D.v (.int .i64 4),fG (c[i]'O),.sl 3 []]]=iR (uf (c.take (i+1))):=(by
  rw[bo,aZ (show i<c.length by omega)];simp only[uf,bf,dq,bG,de,iR,iq.cells,yV])
 have U:∀ob,Fit ob (SV.own 0 3 (iR (uf (c.take i))++[[D.v (.int .i64 4),fG (c[i]'O),fJ]])) (SV.own 0 3 (iR (uf (c.take (i+1))))):=λob=>by rw[<- k];exact Fit.own (x6 (.cons (.refl _) (.cons (.refl _) (.cons .nil .nil))) _)
 have j:=jn (uf (c.take i));have q:(uf (c.take i)).length=i:=(by simp[uf];omega);refine ni 8 yv Cs ?_ (hat:=by exact(u7 O));refine oR 2 tr [.tmp 16] pC ?_;refine oc (ya tr ?_);refine jS 6 ?_;refine ml 2 (i+1) [0] ⟨O,O⟩ (hM:=by exact oL (iU (j8 rfl (by exact U _))))
def Hb(c:fB)(e:List fB):ie:=.mk 2 0 c (uf e) []
theorem ub(x m c e h)(j:x.pd.length<=1099511627776):
 jT fC i 174 [pX x m e.length c,pA e] [.jk 0 0,fI h] λout ob'=>out=.ret (.d (Hb h x.pd).d)/\ob'=[pX x m e.length c,pA e]:=by
 refine nR Tryz.func174 13 2 ?_;refine ny 13 (UP x.pd j) ?_;refine jD 5 ((Hb h x.pd).d) [0,1] [pX x m e.length c,pA e] ⟨rfl,rfl⟩
theorem R2{n:Int}{c:List Int}{i:Nat}(h:i<c.length)(e:ie):iF e (vars n (c.take (i+1)))=.mk 3 0 .empty [] [iF e (vars n (c.take i)),vr (n-1-c[i])]:=by
 rw[bo,aZ h];simp only[vars,bf,dq,bG,de,qR]
theorem qY(x:RD)(m j:Int)(e:List ie)(k n:Int)(s:fB)(C:List iq)(c:List ie)(h:List Int)(I:∀p∈h,0<=p/\p<e.length)(J:e.length<=1099511627776)(Y:h.length<=1099511627776):
 jT fC gl 173 [pX x m e.length j,pA e] [.jk 0 0,.d (ie.mk k n s C c).d,.d (.sl 1 (ints h))] λout ob'=>out=.ret (.d (iF (.mk k n s C c) (vars e.length h)).d)/\ob'=[pX x m e.length j,pA e]:=by
 have M:=qP h;obtain⟨kR,R,sR,S,V,F⟩:=ie.case (iF (.mk k n s C c) (vars e.length h))
 rw[F];refine nR Tryz.func173 23 2 ?_;refine pt 13 (ι:=Nat×Int×Int×fB×List iq×List ie) (λ⟨i,b,U,q,r,y⟩=>[(7,int i)]) (λ⟨i,b,U,q,r,y⟩=>[pX x m e.length j,pA e,tO b U q r y,zO]) [6,4,0,2] (λ⟨i,b,U,q,r,y⟩=>i<=h.length/\iF (.mk k n s C c) (vars e.length (h.take i))=.mk b U q r y) (λ⟨i,b,U,q,r,y⟩=>h.length-i) ((0,k,n,s,C,c)) ([0,1,2,3]) ⟨ak _,rfl⟩ ?_;rintro⟨i,b,U,q,r,y⟩ z
 try dsimp only at z
 obtain⟨i1,G⟩:=z;refine j7 9 ?_ ?_<;>intro h2
 .rw [aS O] at G;rw[G] at F;refine rF 6 ?_;cases F;refine jD 6 ((ie.mk kR R sR S V).d) [0,1] [pX x m e.length j,pA e] ⟨rfl,rfl⟩
 have W:=I _ (bS (show i<h.length by omega));have hat:=wg (gl:=gl) x m j e (h[i]'O) J O;have H:=lS (gl:=gl) b U q r y 0 (e.length-1-h[i]'O) .empty [] [];refine ma 4 [0,1,2,3] mixed ?_;refine pQ 4 u5 vM ?_ (hat:=by exact(AI O));refine ga [5] ?_;refine A2 6 rfl (ck Nb rfl rfl (hat) [0,1] rfl (jN (.cons rfl .buf .nil)) (jw (jw .nil)) ?_);refine qB 7 H ?_;refine nO 8 ?_;refine iB<|jS 4 ?_;refine ml 2 (i+1,3,0,.empty,[],[.mk b U q r y,vr (e.length-1-h[i]'O)]) [0,1,2,3] ?_;exact⟨⟨O,by rw[R2 O,G]⟩,show h.length-(i+1)<h.length-i by omega⟩
theorem xR(x m i e k n s F c h)(hp:∀p∈h,0<=p/\p<e.length)(hb:e.length<=1000000000)(R:h.length<=1000000000)(hw:Wt W Y (.mk k n s F c) h.length)(hz:(ie.mk k n s F c).size<=1000000000):
 jT fC gl 179 [pX x m e.length i,pA e] [.jk 0 0,.d (ie.mk k n s F c).d,.d (.sl 1 (ints h))] λout ob'=>out=.ret (.d (BF e.length h (.mk k n s F c)).d)/\ob'=[pX x m e.length i,pA e]:=by
 have S:=qP h;obtain⟨kR,mR,sR,lR,aR,hR⟩:=ie.case (BF e.length h (.mk k n s F c))
 have H:=hR;unfold BF at H;rw[hR];refine nR Tryz.func179 26 2 ?_;refine sH 11 ?_;refine pt 4 (ι:=Nat×Int×Int×fB×List iq×List ie) (λ⟨j,U,q,r,y,z⟩=>[(7,int ((j:Int)-1))]) (λ⟨j,U,q,r,y,z⟩=>[pX x m e.length i,pA e,tO U q r y z,zO]) [6,4,0,2] (λ⟨j,U,q,r,y,z⟩=>j<=h.length/\o9 (vars e.length h) j (.mk U q r y z)=.mk kR mR sR lR aR/\Wt W Y (.mk U q r y z) (e.length+j)/\(ie.mk U q r y z).size<=(ie.mk k n s F c).size) (λ⟨j,U,q,r,y,z⟩=>j) ((h.length,k,n,s,F,c)) ([0,1,2,3]) ⟨ae _,H,hw.up O,ae _⟩ ?_ (hM:=by exact oL (j8 rfl (by exact Fit.of_eq (by rw[S];rfl))));rintro⟨j,U,q,r,y,z⟩ C
 try dsimp only at C
 obtain⟨i1,V,i3,i4⟩:=C;refine j7 7 ?_ ?_<;>intro h2
 .obtain rfl:j=0:=O;rw[o9] at V;refine rF 6 ?_;cases V;refine jD 6 ((ie.mk kR mR sR lR aR).d) [0,1] [pX x m e.length i,pA e] ⟨rfl,rfl⟩
 obtain⟨b,rfl⟩:∃b,j=b+1:=⟨j-1,O⟩;have hpi:=hp _ (bS (show b<h.length by omega));have hat:=wg (gl:=gl) x m i e (h[b]'O) O O;have I:=rE (gl:=gl) (n0:=((b+1:Nat):Int)-1) (B:=4398046511104) O O 1 0 (e.length-1-h[b]'O) .empty [] [] 0 (ae _) ⟨λl R=>(by cases R),trivial,.inl ⟨rfl,⟨O,O⟩,rfl,rfl,rfl⟩⟩ (aP _) (by simp only[ie.size,iG,ij];omega);have G:=J5 ((e.length:Int)-1-h[b]'O) (((b+1:Nat):Int)-1) O;rw[mZ] at G;unfold vr at G;rw[G] at I;obtain⟨k3,m3,s3,l3,a3,J⟩:=ie.case (jJ (.mk U q r y z) (vr ((e.length:Int)-1-h[b]'O+(((b+1:Nat):Int)-1))))
 have M:=yX (gl:=gl) (B:=4398046511104) O 0 ((e.length:Int)-1-h[b]'O+(((b+1:Nat):Int)-1)) .empty [] [] ⟨λl R=>(by cases R),trivial,.inl ⟨rfl,⟨O,O⟩,rfl,rfl,rfl⟩⟩ (by simp only[ie.size,iG,ij];omega) U q r y z (i3.sh O) O;unfold vr at J;rw[J] at M;refine ma 4 [0,1,2,3] mixed ?_;refine pQ 4 u5 vM ?_ (hat:=by rw[show(((b+1:Nat):Int)-1).toNat=((b:Nat):Int).toNat by omega];exact AI O);refine ga [5,7] ?_;refine A2 6 rfl (ck Nb rfl rfl (hat) [0,1] rfl (jN (.cons rfl .buf .nil)) (jw (jw .nil)) ?_);refine qB 8 I ?_;refine qB 9 M ?_;refine nO 10 ?_;refine iB<|sH 4 ?_;refine rF 2 ?_;refine bk ((b,k3,m3,s3,l3,a3)) rfl ?_ ([0,1,2,3]) ?_
 .refine ⟨⟨O,?_,?_,?_⟩,dI b⟩
  .rw [<- J,<-V,o9,KP O,J5 _ _ O,show(((b+1:Nat):Int)-1)=(b:Int) by omega];rfl
  .rw [<- J];exact Wt.sub O (by rw[show(e.length:Int)+b+1=e.length+((b+1:Nat):Int) by omega];exact i3) (Wt.var O O)
  .rw [<- J];refine aQ ?_ i4;exact xH (v:=vr _) (by simp[vr,ie.size,iG,ij]) _ 0
 .refine mo ?_ (yu rfl (by exact Fit.of_eq (by rw[show(((b+1:Nat):Int)-1-1)=((b:Nat):Int)-1 by omega];rfl)) (iU (iU (iU (iU rA)))))
  repeat (first|exact nw|refine jN ?_|refine Nz ?_)
end
section
open Go.Mt (E)
inductive Ends (nm:fB):ie->Nat->List ie->Prop
 |here {us:_}:Ends nm (.mk 2 0 nm us []) 0 []
 |app {f a l:_}:Ends nm f 0 l->Ends nm (.mk 3 0 .empty [] [f,a]) 0 (l++[a])
 |pi {a b q l:_}:Ends nm b q l->Ends nm (.mk 5 0 .empty [] [a,b]) (q+1) l
theorem Ends.map{c:fB}{t:ie}{q:Nat}{l:List ie}(h:Ends c t q l)(F:ie->Int->ie):∀d:Nat,Ends c (ju F t d) q (l.map λx=>ju F x ((d+q:Nat):Int)):=by
 induction h with
 |here=>exact λd=>.here
 |app _ k=>
  intro d;have:=k d;rw[bf];exact .app this
 | @pi a b q l _ k=>
  intro d;have:=k (d+1);rw[show d+1+q=d+(q+1) by omega,show((d+1:Nat):Int)=(d:Int)+1 by omega] at this;exact .pi this
theorem Ends.get(h:Ends c t q l):iv t=q/\(∃ us,(ig (jQ q t)).1=.mk 2 0 c us [])/\(ig (jQ q t)).2=l:=by
 induction h with
 |here=>exact⟨rfl,⟨_,rfl⟩,rfl⟩
 |app _ b=>
  obtain⟨e,⟨us,k⟩,U⟩:=b;refine⟨rfl,⟨us,?_⟩,?_⟩
  .show (ig (.mk 3 0 .empty [] _)).1=_;rw[qv];exact k
  .show (ig (.mk 3 0 .empty [] _)).2=_;rw[qv,<-U];rfl
 |pi _ b=>
  obtain⟨e,k,U⟩:=b;exact⟨by rw[iv,if_pos rfl,e],k,U⟩
theorem Ends.er{I:fB->Option E}{c:fB}(e:I c=none){t:ie}{q:Nat}{l:List ie}(h:Ends c t q l):er I t=Mt.qx ((lQ q t).map (er I)) ((E.pz c).apps (l.map (er I))):=by
 induction h with
 |here=>show(I c).getD (.pz c)=_;rw[e];rfl
 | @app f a l _ k=>
  rw[bf,cD,Mt.lk];exact congrArg (λx=>E.app x (Go.Proofs.YtndbnldjidciiaaGreatDoor.er I a)) k
 | @pi a b q l _ k=>exact congrArg (E.pi (Go.Proofs.YtndbnldjidciiaaGreatDoor.er I a)) k
theorem EL:∀t,oD B t->(∀ us m ar,(ig t).1=.mk 2 m c us ar->Ends c t 0 (ig t).2)/\∀us m ar,(ig (jQ (iv t) t)).1=.mk 2 m c us ar->Ends c t (iv t) (ig (jQ (iv t) t)).2:=by
 have N:∀{t:ie},iv t=0->(∀ us m ar,(ig t).1=.mk 2 m c us ar->Ends c t 0 (ig t).2)->(∀ us m ar,(ig t).1=.mk 2 m c us ar->Ends c t 0 (ig t).2)/\∀us m ar,(ig (jQ (iv t) t)).1=.mk 2 m c us ar->Ends c t (iv t) (ig (jQ (iv t) t)).2:=λ{t} e h=>⟨h,by rw[e];exact h⟩
 refine Ff (λn=>N rfl λus m ar e=>?_) (λls=>N rfl λus m ar e=>?_) (λs ls=>N rfl λus m ar e=>?_) (λf a _ _ k _=>N rfl λus m ar e=>?_) (λa b _ _ _ _=>N rfl λus m ar e=>?_) (λa b _ _ _ U=>⟨λus m ar e=>?_,λus m ar e=>?_⟩) λa v b _ _ _ _ _ _=>N rfl λus m ar e=>?_
 .rw [oE Z] at e;cases e
 .rw [oE Z] at e;cases e
 .rw [oE Z] at e ⊢;cases e;exact .here
 .rw [qv] at e ⊢;exact .app (k.1 us m ar e)
 .rw [oE Z] at e;cases e
 .rw [oE Z] at e;cases e
 .rw [iv,if_pos rfl] at e ⊢;exact .pi (U.2 us m ar e)
 .rw [oE Z] at e;cases e
theorem Wt.Fb{sg:Sg}{ps:List fB}(h:Wt sg ps t c):∃B,oD B t:=⟨c+t.size,h.sh O⟩
def SF(l:List E):Nat->E:=λv=>if v<l.length then l.getD (l.length-1-v) .nD else .var (v-l.length)
theorem U6(l a):SF (l++[a])=λv=>match v with|0=>a|v+1=>SF l v:=by
 funext v;cases v with
 |zero=>simp[SF]
 |succ v=>
  show SF _ _=SF l v;simp only[SF,aN,aj,aH];by_cases h:v<l.length
  .rw [if_pos O,if_pos h,Mt.pR,if_pos O];congr 1;omega
  .rw [if_neg O,if_neg h];congr 1;omega
theorem XJ(t l):(Mt.q9 l.length t).sub (SF l)=t:=by
 unfold Mt.q9;rw[Mt.vS];refine Eq.trans ?_ (Mt.tU t)
 congr 1;funext n
 show SF l (n+l.length)=_;unfold SF;rw[if_neg O];congr 1;omega
theorem Rl(j:z9 I){sg:Sg}{ps:List fB}(F:0<=c)(q:∀x∈i,Wt sg ps x c):∀(n:Nat) {t:ie},n<=i.length->Wt sg ps t (c+n)->er I (o9 i n t)=(er I t).sub (SF ((i.take n).map (er I))):=by
 intro n
 induction n with
 |zero=>
  intro t _ _;refine((Mt.tU _).symm.trans ?_)
  congr 1
 |succ n s=>
  intro t G h;have k:i.getD n iu∈i:=by rw[ba,aZ O];exact bS _
  have U:=(q _ k).Y0 (m:=n) (fr:=0) O;have y:=Wt.sub (b:=t) (v:=lJ (i.getD n iu) n 0) (c:=c+n) O (by rw[show c+(n:Int)+1=c+((n+1:Nat):Int) by omega];exact h) U;obtain⟨H,b1⟩:=h.Fb;obtain⟨J,b2⟩:=U.Fb;obtain⟨M,z⟩:=(q _ k).Fb;rw[o9,s O y,Df j b1 b2,zQ j z,Mt.sub_sub]
  congr 1
  have e:(i.take (n+1)).map (er I)=(i.take n).map (er I)++[er I (i.getD n iu)]:=by
   rw[bo,aZ O,bf,ba,aZ O];rfl
  rw[e,U6];funext v;cases v with
  |zero=>
   show(Mt.q9 n (er I _)).sub _=_;have C:n=((i.take n).map (er I)).length:=by simp;omega
   have r:=XJ (er I (i.getD n iu)) ((i.take n).map (er I));rw[<- C] at r;exact r
  |succ v=>rfl
theorem SL(c):∀(n:Nat) {t:ie} {q:Nat} {l:List ie},Ends e t q l->∃b,Ends e (o9 c n t) q b:=by
 intro n
 induction n with
 |zero=>exact λh=>⟨_,h⟩
 |succ n k=>exact λh=>k (h.map (j6 (lJ (c.getD n iu) n 0)) 0)
theorem Lt:∀{l m:List E} {t u:E},l.length=m.length->Mt.qx l t=Mt.qx m u->l=m/\t=u
 |[],[],_,_,_,h=>⟨rfl,h⟩
 |a::l,b::m,t,u,e,h=>by
  obtain⟨k,U⟩:=E.pi.inj h;obtain⟨rfl,rfl⟩:=Lt (l:=l) (m:=m) (dc e) U;exact⟨by rw[k],rfl⟩
 |[],_::_,_,_,e,_=>by cases e
 |_::_,[],_,_,e,_=>by cases e
theorem Rk(I:fB->Option E)(h):∀b:List ie,er I (rP b h)=Mt.BM b.length (er I h)
 |[]=>rfl
 |x::b=>congrArg E.lam (Rk I h b)
theorem Rj(I:fB->Option E):∀(n:Nat) (b:ie),er I (oy n b)=(er I b).apps ((List.range n).map (Mt.vl n))
 |0,b=>rfl
 |n+1,b=>by
  rw[oy,Rj I n,List.range_succ_eq_map,bG,bN];show((E.app (er I b) (E.var (n:Int).toNat)).apps _)=(E.app (er I b) _).apps _
  congr 1
  exact bZ λq k=>by show E.var _=E.var _;congr 1;have:=b5.1 k;omega
theorem aal(s:z9 I)(J:0<=c)(S:I M=none)(hr:er I h=.pz R)(y:Wt j r h c)(hf:∀x∈e,Wt j r x c)(V:∀x∈given,Wt j r x c)(ha:Wt j r a c)(z:Wt j r X given.length)(C:Ends M X q l):
 er I (Em h e p X given a)=Mt.TK R (e.map (er I)) (given.map (er I)) (er I a) ((lQ q X).map (er I)) ((l.drop p).map (er I)):=by
 have k:Wt j r X (c+given.length):=z.up O;have W:=Rl s J V given.length (ae _) k;have U:=Wt.o9 J V given.length (ae _) k;obtain⟨l',b⟩:=SL given given.length C;unfold Em Mp;generalize o9 given given.length X=t1 at W U b;obtain⟨e1,⟨us,e2⟩,e3⟩:=b.get;obtain⟨f1,_,_⟩:=C.get;rw[e1,e3,Rk,jx q t1 O];obtain⟨B0,b0⟩:=z.Fb;have Y:er I t1=(er I X).sub (Mt.ls (given.map (er I))):=by
  rw[W,aS (ae _)];refine MJ s X b0 given.length _ _ z λi hi=>?_
  unfold SF Mt.ls;rw[if_pos (by simpa using hi),if_pos (by simpa using hi)]
 rw[b.er S,C.er S,Mt.Ew] at Y;have F:(lQ q X).length=q:=jx q X O;obtain⟨_,h3⟩:=Lt (by rw[Mt.qS,bc,bc,jx q t1 O,F]) Y;rw[Mt.om] at h3;obtain⟨_,h4⟩:=Mt.zh h3;rw[bc,F] at h4;unfold Mt.TK;rw[bc,F];have G:=zQ s (B:=c+h.size) (y.sh O) q;have H:=zQ s (B:=c+a.size) (ha.sh O) q;show Mt.BM q (E.app (er I _) (er I _))=_;rw[Rj,og,og,G,H,hr]
 congr 2
 .congr 1
  .show (E.pz R).apps _=_
   congr 1
   rw[bN,bN];exact bZ λx hx=>zQ s (B:=c+x.size) ((hf x hx).sh O) q
  .rw [dN,h4,dN,dN]
def vI(I:fB->Option E)(c:fB)(p:Nat)(a:ie):Mt.Nr:=
 if nP (rW c) a 0=true then .rc ((lQ (iv a) a).map (er I)) (((ig (jQ (iv a) a)).2.drop p).map (er I)) else .QW (er I a)
def z6(I:fB->Option E)(e:fB)(p:Nat)(c:fB×ie):Mt.Ns:=
 ⟨c.1,((lQ (iv c.2) c.2).take p).map (er I),((lQ (iv c.2) c.2).drop p).map (vI I e p),((ig (jQ (iv c.2) c.2)).2.drop p).map (er I)⟩
def uK(I:fB->Option E)(R:fB)(c:mJ):Mt.wi:=
 ⟨c.nm,R,((lQ (iv c.ty) c.ty).take c.ar.toNat).map (er I),((lQ (iv c.ty) c.ty).drop c.ar.toNat).map (er I),c.cs.map (z6 I c.nm c.ar.toNat)⟩
theorem C2{R:fB}{first:List E}:∀{F:List Mt.Nr} {cs g:List E} {f:Mt.Nr} {c:E},F.length=cs.length->Mt.xf R first g (F++[f]) (cs++[c])=Mt.xf R first g F cs++(match f with| .QW _=>[]| .rc b k=>[Mt.TK R first (g++cs) c b k])
 |[],[],g,f,c,_=>by cases f<;>simp[Mt.xf]
 | .QW A::F,a::cs,g,f,c,e=>by
  have:=C2 (R:=R) (first:=first) (F:=F) (cs:=cs) (g:=g++[a]) (f:=f) (c:=c) (dc e);rw[bq] at this;exact this
 | .rc b k::F,a::cs,g,f,c,e=>by
  have:=C2 (R:=R) (first:=first) (F:=F) (cs:=cs) (g:=g++[a]) (f:=f) (c:=c) (dc e);rw[bq] at this;show Mt.TK R first g a b k::Mt.xf R first (g++[a]) (F++[f]) (cs++[c])=_
  rw[this];rfl
 |[],_::_,_,_,_,e=>by cases e
 |_::_,[],_,_,_,e=>by cases e
theorem Ends.Ny(h:Ends c t q l)(e us):Ends c (ld e us t) q (l.map (ld e us)):=by
 induction h with
 |here=>exact .here
 |app _ b=>rw[bf];exact .app b
 |pi _ b=>exact .pi b
theorem aam(hI:z9 I)(hc:0<=c)(hn:I z=none){pre:List ie}(hh:er I h=.pz R)(hw:Wt s y h c)(hf:∀x∈firsts,Wt s y x c)(hp:∀x∈pre,Wt s y x c)(hpl:pre.length=p)(C:∀x∈j,Wt s y x c)(S:Wt s q e 0)(F:G7 z p e)(hl:j.length=iv e)(V:q.length<=r.length)(hu:∀u∈r,qV y u):
 ∀k,p+k<=j.length->(DS z h firsts p pre (lQ j.length (ld q r e)) j (p+k)).map (er I)=Mt.xf R (firsts.map (er I)) (pre.map (er I)) ((((lQ (iv e) e).drop p).take k).map (vI I z p)) (((j.drop p).take k).map (er I)):=by
 have hxl:=jx (iv e) e (ae _);intro k
 induction k with
 |zero=>intro _;rw[Kf _ O];simp[Mt.xf]
 |succ k ih=>
  intro hk;have G:(lQ (iv e) e)[p+k]? =some ((lQ (iv e) e)[p+k]'O):=aZ O;have M:j[p+k]? =some (j[p+k]'O):=aZ O;generalize(lQ (iv e) e)[p+k]'O=X at G;generalize(j[p+k]'O)=a at M;have e1:(lQ j.length (ld q r e)).getD (p+k) iu=ld q r X:=by
   rw[hl,NC,ba,bt,G];rfl
  have e2:j.getD (p+k) iu=a:=by rw[ba,M];rfl
  have e3:((lQ (iv e) e).drop p).take (k+1)=((lQ (iv e) e).drop p).take k++[X]:=by rw[bo,bX,G];rfl
  have e4:(j.drop p).take (k+1)=(j.drop p).take k++[a]:=by rw[bo,bX,M];rfl
  rw[<- eR,DS,bf,ih O,e1,e2,e3,e4,bf,bf,cD,cD,C2 (by simp;omega),Kh,show p+k-p=k by omega]
  congr 1
  unfold vI;by_cases H:nP (rW z) X 0=true
  .rw [if_pos ⟨O,H⟩,if_pos H];obtain⟨m,ls,ar,h1,h2⟩:=F (p+k) X O G H;have U:=(S.yN (iv e) (ae _)).2 _ X G;obtain⟨B,b⟩:=U.Fb;have hE:=((EL X b).2 _ _ _ h1);have hg:(pre++(j.drop p).take k).length=p+k:=by simp;omega
   have J:=U.Ny V hu;rw[dE] at J;have:=aal hI hc (p:=p) hn hh hw hf (given:=pre++(j.drop p).take k) (λx hx=>by
    rcases bn.1 hx with hx|hx
    .exact hp x hx
    .exact C x (cF (bJ hx))) (C a (aO M)) (by rw[hg];exact J) (hE.Ny q r)
   show[er I _]=[_];rw[this,bf,NC,bN,<-dN,bN];have Y:∀{l:List ie},(∀ x∈l,∃B,oD B x)->l.map (er I ∘ ld q r)=l.map (er I):=λhx=>bZ λx hm=>by obtain⟨B,b⟩:=hx x hm;exact PG I q r x b
   have W:=Wt.spine _ (ae _) (U.yN (iv X) (ae _)).1;rw[Y,Y]
   .intro x hx;exact(W.2.2.1 x (cF hx)).Fb
   .intro x hx;obtain⟨i,hi⟩:=b7 hx;exact((U.yN (iv X) (ae _)).2 i x hi).Fb
  .rw [if_neg (λh=>H h.2),if_neg H];rfl
theorem X8{I:fB->Option E}(hI:z9 I){y:Sg}{z:List fB}{C:List iq}{c:Int}(hc:0<=c){e:iI}{s:fB}(hn:I e.d.nm=none)(hs:I s=none){F:List iq}{h:ie}{r j:List ie}{i:Nat}{Y:fB}(hi:e.d.cs[i]? =some (Y,h))(hw:Wt y z (.mk 2 0 s F []) c)(ha:∀x∈r,Wt y z x c)(G:∀x∈j,Wt y z x c)(H:Wt y e.d.ps h 0)(J:0<=e.d.ar/\e.d.ar<=iv e.d.ty)(M:e.d.ar<=iv h)(q:G7 e.d.nm e.d.ar h)(hl:j.length=iv h)(S:e.d.ps.length<=C.length)(hu:∀u∈C,qV z u)(hal:ym e<r.length):
 er I (rb e (.mk 2 0 s F []) r j i h C)=((uK I s e.d).made i (z6 I e.d.nm e.d.ar.toNat (Y,h)) ((r.take (ym e)).map (er I)) (j.map (er I))).apps ((r.drop (ym e+1)).map (er I)):=by
 have hil:=(aJ.1 hi).1;have U:ym e=e.d.ar.toNat+1+e.d.cs.length+(iv e.d.ty-e.d.ar.toNat):=rfl;obtain⟨p,hp⟩:∃p:Nat,e.d.ar=p:=⟨e.d.ar.toNat,O⟩;rw[hp] at q J M;have b:e.d.ar.toNat=p:=O;unfold rb;rw[b] at U ⊢;have hy:=aam hI hc (p:=p) (R:=s) (firsts:=r.take (p+1+e.d.cs.length)) (pre:=r.take p) hn (show er I (.mk 2 0 s F [])=.pz s by show(I s).getD (.pz s)=_;rw[hs];rfl) hw (λx V=>ha x (bJ V)) (λx V=>ha x (bJ V)) (by simp;omega) G H q hl S hu (j.length-p) O;rw[show p+(j.length-p)=j.length by omega,aS (l:=j.drop p) (by simp),aS (l:=(lQ (iv h) h).drop p) (by rw[bK,jx _ _ (ae _)];omega)] at hy;have k:(uK I s e.d).P.length=p:=by
  show(List.map _ _).length=_;rw[bc,bj,jx _ _ (ae _),b];omega
 have W:(uK I s e.d).n1=p+1+e.d.cs.length:=by
  show _+1+(List.map _ _).length=_;rw[k,bc]
 rw[og,og,og,hy];unfold Mt.wi.made;rw[k,W]
 congr 1
 rw[<- Mt.zi]
 congr 1
 .rw [ba,ba,bt,cB,if_pos O,aZ O];rfl
 .rw [dN]
  congr 1
  show _=Mt.xf s _ _ (List.map (vI I e.d.nm p) (List.drop p _)) _;rw[<- cu,<-cu,cO,cO,b8 O,b8 O]
end
end Go.Proofs.YtndbnldjidciiaaGreatDoor
namespace Go.Mt
variable{A B L T c h n q s}
open E
theorem K8:∀(T:List E) (s:Nat->E) (A:E),Bn s (T++[A])=Bn s T++[A.sub (yc T.length s)]
 |[],_,_=>rfl
 |B::T,s,A=>by
  have:=K8 T (vG s) A;rw[Ba] at this;exact congrArg (B.sub s:: ·) this
theorem Qt(h:∀q∈c,q<L)(n):ls (vars (L+n) (c++(List.range n).map (L+ ·)))=yc n (ls (vars L c)):=by
 rw[TX];show ls (List.map _ (_++_))=ls (List.map _ (List.map _ _)++_);rw[bf,bN,bN]
 congr 2
 .exact bZ λq b=>(OT (h q b)).symm
 .refine bZ λq b=>?_
  have:=b5.1 b;show E.var (L+n-1-(L+q))=E.var (n-1-q)
  congr 1;omega
end Go.Mt
namespace Go.Proofs.YtndbnldjidciiaaGreatDoor
variable{ι A B C F G H I J L L0 M N Q R S T V W Y a args c e gl h i j k2 l m m' n n0 ob' p pl q r rs s s0 sl t u us v vs w x y z}
open Go Go.Vd Go.RowKit
section
open Go.Mt (E)
def uH(l:List Int):List Nat:=l.map Int.toNat
theorem Ri(I:fB->Option E)(h:0<=p/\p<n):er I (vr (n-1-p))=Mt.vl n.toNat p.toNat:=by
 show E.var _=E.var _;congr 1;omega
theorem xj(I:fB->Option E)(h:∀p∈c,0<=p/\p<n):(vars n c).map (er I)=Mt.vars n.toNat (uH c):=by
 show List.map _ (List.map _ _)=List.map _ (List.map _ _);rw[bN,bN];exact bZ λp b=>Ri I (h p b)
theorem VY(q:z9 I){sg:Sg}{ps:List fB}{n:Nat}{e:List Int}(h:∀p∈e,0<=p/\p<(n:Int))(j:Wt sg ps t e.length):er I (BF n e t)=(er I t).sub (Mt.ls (Mt.vars n (uH e))):=by
 obtain⟨B,b⟩:=j.Fb;have k:=Rl q (c:=n) O (xw (sg:=sg) (ps:=ps) h) e.length (by rw[uc];exact ae _) (j.up O);rw[aS (by rw[uc];exact ae _),xj I h] at k;unfold BF;rw[k];refine MJ q t b e.length _ _ j λi U=>?_
 have r:(Mt.vars n (uH e)).length=e.length:=by simp[Mt.vars,uH]
 show SF _ i=Mt.ls _ i;unfold SF Mt.ls;rw[if_pos (by rw[cb,r];exact U),if_pos (by rw[r];exact U)];rfl
theorem BX(I:fB->Option E)(t):∀b:List ie,er I (wq b t)=Mt.qx (b.map (er I)) (er I t)
 |[]=>rfl
 |x::b=>congrArg (E.pi (er I x)) (BX I t b)
def QP(c n:Nat):List Int:=(List.range n).map λj=>((c+j:Nat):Int)
theorem UL(c n):QP c (n+1)=QP c n++[((c+n:Nat):Int)]:=by simp[QP,eK]
theorem Xn(c n):(QP c n).length=n:=by simp[QP]
theorem vo(c n):uH (QP c n)=(List.range n).map (c+ ·):=by
 show List.map _ (List.map _ _)=_;rw[bN];rfl
def Jl(i:Nat)(c:List Int)(t:ie)(n:Nat)(u:ie)(e:List Int)(h:List ie):Prop:=
 u=jQ n t/\e=c++QP i n/\∀I,z9 I->h.map (er I)=Mt.Bn (Mt.ls (Mt.vars i (uH c))) ((lQ n t).map (er I))
theorem Jl.zero{b:Nat}:Jl b c t 0 t c []:=⟨rfl,by simp[QP],λ_ _=>rfl⟩
theorem Jl.snoc{b:Nat}(h:Jl b i t n (.mk 5 m s F [A,B]) e r)(G:n<iv t)(H:L=b+n)(J:∀p∈i,0<=p/\p<(b:Int))(j:∀p∈e,0<=p/\p<(L:Int))(M:Wt z C A e.length):
 Jl b i t (n+1) B (e++[(L:Int)]) (r++[BF L e A]):=by
 obtain⟨R,U,S⟩:=h;obtain⟨m',s',V,a,c,x,W,Y,_⟩:=oX n t G;rw[<- R] at x;cases x;subst H;refine⟨W.symm,by rw[U,UL,bq],λI y=>?_⟩;have hv:uH e=uH i++(List.range n).map (b+ ·):=by
  rw[U,<-vo];exact bf
 rw[bf,cD,S I y,VY y j M,Y,bf,cD,Mt.K8,bc,jx _ _ O,hv,Mt.Qt];intro q j;obtain⟨p,k,rfl⟩:=bD.1 j;have:=J p k;omega
theorem Jl.vars{x n L:Nat}{c e:List Int}{t u:ie}{i:List ie}(h:Jl x c t n u e i)(j:L=x+n)(r:∀p∈c,0<=p/\p<(x:Int)):Mt.ls (Mt.vars L (uH e))=Mt.yc n (Mt.ls (Mt.vars x (uH c))):=by
 have U:uH e=uH c++(List.range n).map (x+ ·):=by
  rw[h.2.1,<-vo];exact bf
 rw[j,U,Mt.Qt];intro q s;obtain⟨p,k,rfl⟩:=bD.1 s;have:=r p k;omega
def TL(I:fB->Option E)(L q:Nat)(c:List Int)(e:List ie)(p i:Nat):E:=(Mt.vl L q).apps (((e.take i).drop p).map λa=>(er I a).sub (Mt.ls (Mt.vars L (uH c))))
theorem GN(I:fB->Option E){L q:Nat}(h:q<L)(e:List Int)(c:List ie)(p:Nat):er I (.mk 0 ((L:Int)-1-q) .empty [] [])=TL I L q e c p p:=by
 unfold TL;rw[show(c.take p).drop p=[] from dM (by simp;omega)];exact Ri I (n:=L) (p:=q) O
theorem GO(r:z9 I)(h:er I F=TL I L q c e p i)(y:p<=i)(j:e[i]? =some a)(z:∀p∈c,0<=p/\p<(L:Int))(C:Wt s x a c.length):er I (.mk 3 0 .empty [] [F,BF L c a])=TL I L q c e p (i+1):=by
 have b:=(aJ.1 j).1;show E.app (er I F) (er I (BF L c a))=_;rw[h,VY r z C];unfold TL;rw[bo,j,fk (by rw[bj];omega),bf,Mt.zi];rfl
theorem Z6(C:z9 I){S n L e p i:Nat}{c:Int}{r s:List Int}{y:List ie}(h:Jl S r t n u s y)(F:n<=iv t)(z:L=S+n)(x:∀p∈r,0<=p/\p<(S:Int))(R:0<=c/\c<S)(G:er I V=TL I L e s (ig u).2 p i)(H:(ig u).2.length<=i):
 er I (wq y (.mk 3 0 .empty [] [V,iF (.mk 0 ((L:Int)-1-c) .empty [] []) (vars L (s.drop r.length))]))=Mt.Vy e S (uH r) c.toNat ((lQ n t).map (er I)) (((ig (jQ n t)).2.drop p).map (er I)):=by
 have hd:s.drop r.length=QP S n:=by rw[h.2.1,ec]
 have U:=h.vars z x;have k:∀p∈QP S n,0<=p/\p<(L:Int):=by
  intro p x;obtain⟨j,J,rfl⟩:=bD.1 x;have:=b5.1 J;omega
 have M:((lQ n t).map (er I)).length=n:=by rw[bc,jx _ _ F]
 rw[BX,h.2.2 I C];unfold Mt.Vy;rw[M,<-z]
 congr 1
 show E.app (er I V) (er I (iF _ _))=_;rw[og,hd,xj I k,G,vo];unfold TL;rw[aS H,U,h.1,Mt.zi,bN];show E.app _ _=E.app _ _
 congr 1
 rw[show er I (.mk 0 ((L:Int)-1-c) .empty [] [])=Mt.vl L c.toNat from Ri I (n:=L) O]
 congr 1
 show List.map _ (List.map _ _)=_;rw[bN];refine bZ λq k=>?_
 show E.var (L-1-(S+q))=E.var (n-1-q)
 congr 1;omega
theorem Jn:∀(n p:Nat) (t:ie),p+n<=iv t->lQ (p+n) t=lQ p t++lQ n (jQ p t)/\jQ (p+n) t=jQ n (jQ p t):=by
 intro n
 induction n with
 |zero=>intro p t _;exact⟨(bR _).symm,rfl⟩
 |succ n k=>
  intro p t h;obtain⟨_,_,_,a,b,U,c,e,q⟩:=oX p t O;obtain⟨i,j⟩:=k (p+1) t O;rw[show p+(n+1)=p+1+n by omega,i,j,e,c,U,bq];exact⟨rfl,rfl⟩
theorem BP{p L0:Nat}{f:Mt.Nr}:∀{F:List Mt.Nr} {j L:Nat},Mt.Mn p L0 j L (F++[f])=Mt.Mn p L0 j L F++(match f with| .QW _=>[]| .rc b k=>[Mt.Vy p (L+(Mt.Mn p L0 j L F).length) (Mt.EE p L0 (j+F.length)) (L0+(j+F.length)) b k])
 |[],j,L=>by cases f<;>simp[Mt.Mn]
 | .QW A::F,j,L=>by
  have:=BP (p:=p) (L0:=L0) (f:=f) (F:=F) (j:=j+1) (L:=L);rw[show j+1+F.length=j+(F.length+1) by omega] at this;exact this
 | .rc b k::F,j,L=>by
  have:=BP (p:=p) (L0:=L0) (f:=f) (F:=F) (j:=j+1) (L:=L+1);rw[show j+1+F.length=j+(F.length+1) by omega] at this;show Mt.Vy _ _ _ _ _ _::Mt.Mn p L0 (j+1) (L+1) (F++[f])=_;rw[this];cases f
  .rfl
  .show _::(_++[Mt.Vy p (L+1+_) _ _ _ _])=_::(_++[Mt.Vy p (L+(_+1)) _ _ _ _]);rw[eR,Nat.add_comm 1];rfl
def TJ(c:fB)(p h N:Nat)(t:ie)(j:Nat)(u:ie)(e:List ie):Prop:=
 u=jQ j t/\∀I,z9 I->e.map (er I)=Mt.Mn p h 0 (h+N) ((lQ j t).map (vI I c p))
theorem TJ.zero{b:Nat}:TJ c p b N t 0 t []:=⟨rfl,λ_ _=>rfl⟩
theorem TJ.QW(h:TJ e p M N t j (.mk 5 m s q [A,B]) i)(r:j<iv t)(x:nP (rW e) A 0=false):TJ e p M N t (j+1) B i:=by
 obtain⟨U,y⟩:=h;obtain⟨H,J,z,a,c,k,C,F,_⟩:=oX j t r;rw[<- U] at k;cases k;refine⟨C.symm,λI G=>?_⟩;rw[y I G,F,bf,cD,BP];unfold vI;rw[if_neg (by rw[x];decide)];simp
theorem TJ.rc{b:Nat}(h:TJ e p b N t j (.mk 5 m s z [A,B]) i)(C:j<iv t)(F:nP (rW e) A 0=true)(G:L=b+N+i.length)(r:uH x=Mt.EE p b j)(H:q=((b+j:Nat):Int))
 (J:∀I,z9 I->er I Y=Mt.Vy p L (uH x) q.toNat ((lQ (iv A) A).map (er I)) (((ig (jQ (iv A) A)).2.drop p).map (er I))):TJ e p b N t (j+1) B (i++[Y]):=by
 obtain⟨M,U⟩:=h;obtain⟨m',s',R,a,c,y,S,V,_⟩:=oX j t C;rw[<- M] at y;cases y;refine⟨S.symm,λI k=>?_⟩;have W:(Mt.Mn p b 0 (b+N) ((lQ j t).map (vI I e p))).length=i.length:=by rw[<- U I k,bc]
 have hx:((lQ j t).map (vI I e p)).length=j:=by rw[bc,jx _ _ O]
 rw[bf,cD,J I k,V,bf,cD,BP,W,hx,G,r,U I k,H]
 congr 1
 unfold vI;rw[if_pos F,bU];rfl
def LX(I:fB->Option E)(p i:Nat)(c:fB)(e:fB)(F h:List ie):E:=
 Mt.qx (Mt.Bn (Mt.ls (Mt.vars i (List.range p))) (F.map (er I))++Mt.Mn p i 0 (i+F.length) (F.map (vI I c p)))
  (.app ((Mt.vl (i+(F.length+(Mt.Mn p i 0 (i+F.length) (F.map (vI I c p))).length)) p).apps (h.map λa=>(er I a).sub (Mt.ls (Mt.vars (i+(F.length+(Mt.Mn p i 0 (i+F.length) (F.map (vI I c p))).length)) (Mt.EE p i F.length))))) ((E.pz e).apps (Mt.vars (i+(F.length+(Mt.Mn p i 0 (i+F.length) (F.map (vI I c p))).length)) (Mt.EE p i F.length))))
theorem wW(p):uH ((List.range p).map λ(j:Nat)=>(j:Int))=List.range p:=by
 show List.map _ (List.map _ _)=_;rw[bN];exact List.map_id _
theorem Jl.EE{q n p:Nat}{c e:List Int}{t u:ie}{i:List ie}(h:Jl q c t n u e i)(j:uH c=List.range p):uH e=Mt.EE p q n:=by
 rw[h.2.1];show List.map _ (_++_)=_;rw[bf];exact congr (congrArg _ j) (vo q n)
theorem Jl.Bu(h:Jl x c t n u e i)(q:uH c=List.range p)(r:c.length=p)(s:j<=n):uH (e.take (p+j))=Mt.EE p x j:=by
 rw[h.2.1,di,r,aS O,show p+j-p=j by omega];show List.map _ (_++_)=_;rw[bf];refine congr (congrArg _ q) ?_;rw[<- vo];show List.map _ _=List.map _ _
 congr 1
 unfold QP;rw[<- cu,List.take_range,b8 s]
theorem Jl.get{b:Nat}{xs:List ie}(h:Jl b e t n u c xs)(q:e.length=p)(i:j<n)(r:p+j<c.length):c[p+j]=((b+j:Nat):Int):=by
 have k:c[p+j]? =some ((b+j:Nat):Int):=by
  rw[h.2.1,bA O,show p+j-e.length=j by omega];unfold QP;rw[bt,fb i];rfl
 exact(aJ.1 k).2
theorem QZ(r:z9 I)(C:I c=none)(h:Jl R y t n u j z)(F:n<=iv t)(e:TJ s p R n t n v q)(G:L=R+n+q.length)(x:uH y=List.range p)(H:∀p∈j,0<=p/\p<(L:Int))(J:er I S=TL I L p j (ig u).2 p i)(M:(ig u).2.length<=i):
 er I (wq (z++q) (.mk 3 0 .empty [] [S,iF (.mk 2 0 c us []) (vars L j)]))=LX I p R s c (lQ n t) ((ig (jQ n t)).2.drop p):=by
 have k:=jx n t F;have U:q.length=(Mt.Mn p R 0 (R+n) ((lQ n t).map (vI I s p))).length:=by rw[<- e.2 I r,bc]
 unfold LX;rw[k,<-U,<-eR,<-G,BX,bf,h.2.2 I r,x,e.2 I r]
 congr 1
 show E.app (er I S) (er I (iF _ _))=_;rw[og,xj I H,J,h.EE x];unfold TL;rw[aS M,h.1,h.EE x];show E.app _ (E.apps ((I c).getD (.pz c)) _)=_;rw[C];rfl
def BG(I:fB->Option E)(p:Nat)(e:fB):Nat->List (fB×ie)->List E
 |_,[]=>[]
 |b,c::r=>LX I p b e c.1 ((lQ (iv c.2) c.2).drop p) ((ig (jQ (iv c.2) c.2)).2.drop p)::BG I p e (b+1) r
theorem FN{I:fB->Option E}{p:Nat}{nm:fB}{c:fB×ie}:∀{l:List (fB×ie)} {b:Nat},BG I p nm b (l++[c])=BG I p nm b l++[LX I p (b+l.length) nm c.1 ((lQ (iv c.2) c.2).drop p) ((ig (jQ (iv c.2) c.2)).2.drop p)]
 |[],b=>rfl
 |a::l,b=>by
  have:=FN (I:=I) (p:=p) (nm:=nm) (c:=c) (l:=l) (b:=b+1);rw[show b+1+l.length=b+(l.length+1) by omega] at this;exact congrArg (_:: ·) this
def Ur(I:fB->Option E)(p m:Nat)(e:fB)(h:ie)(c:List (fB×ie)):E:=
 Mt.qx (Mt.Bn (Mt.ls (Mt.vars 0 [])) ((lQ p h).map (er I))++Mt.qx (Mt.Bn (Mt.ls (Mt.vars p (List.range p))) ((lQ m (jQ p h)).map (er I))++[(E.pz e).apps (Mt.vars (p+m) (Mt.EE p p m))]) .nD::(BG I p e (p+1) c++(Mt.Bn (Mt.ls (Mt.vars (p+1+c.length) (List.range p))) ((lQ m (jQ p h)).map (er I))++[(E.pz e).apps (Mt.vars (p+1+c.length+m) (Mt.EE p (p+1+c.length) m))])))
  (.app ((Mt.vl (p+1+c.length+m+1) p).apps (Mt.vars (p+1+c.length+m+1) ((List.range m).map (p+1+c.length+ ·)))) (.var 0))
theorem Xj(y:z9 I){b:Nat}(S:I e=none)(x:Jl 0 [] H p u i J)(R:Jl p i u m v h r)(C:Jl b i u m w c s)(V:b=p+1+z.length)(W:M.map (er I)=BG I p e (p+1) z)
 (F:∀q∈h,0<=q/\q<((p+m:Nat):Int)) (G:∀q∈c,0<=q/\q<((b+m:Nat):Int)) (Y:L=b+m+1):
 er I (wq (J++(wq (r++[iF (.mk 2 0 e us []) (vars ((p+m:Nat):Int) h)]) (.mk 1 0 .empty vs [])::(M++(s++[iF (.mk 2 0 e us []) (vars ((b+m:Nat):Int) c)])))) (.mk 3 0 .empty [] [iF (.mk 0 ((L:Int)-1-p) .empty [] []) (vars L (c.drop p)),.mk 0 0 .empty [] []]))=Ur I p m e H z:=by
 have k:uH i=List.range p:=by
  rw[x.2.1,cf,vo];simp
 have hl:i.length=p:=by rw[x.2.1,cf,Xn]
 have hd:c.drop p=QP b m:=by rw[C.2.1,<-hl,ec]
 have U:∀q∈QP b m,0<=q/\q<(L:Int):=by
  intro q U;obtain⟨j,hj,rfl⟩:=bD.1 U;have:=b5.1 hj;omega
 have hc:er I (.mk 2 0 e us [])=.pz e:=by show(I e).getD (.pz e)=_;rw[S];rfl
 have e0:er I (.mk 0 ((L:Int)-1-p) .empty [] [])=Mt.vl L p:=Ri I (n:=L) (p:=p) O;unfold Ur;rw[BX,bf,bG,bf,bf,W,BX,bf,x.2.2 I y,R.2.2 I y,C.2.2 I y,cD,cD,og,og,hc,xj I F,xj I G,R.EE k,C.EE k,x.1,k];show Mt.qx _ (E.app (er I (iF _ _)) _)=_;rw[og,e0,hd,xj I U,vo];subst V Y;rfl
end
section
attribute [local irreducible] iK iL jI ik iW jH
def uL(c:List Int)(n:Nat):Prop:= ∀p∈c,0<=p/\p<n
theorem uL.up(h:uL c n)(e:n<=m):uL c m:=λp b=>⟨(h p b).1,by have:=(h p b).2;omega⟩
theorem uL.snoc{c:List Int}{n:Nat}{p:Int}(h:uL c n)(e:0<=p/\p<n):uL (c++[p]) n:=by
 intro q hq;rcases bn.1 hq with hq|hq
 .exact h q hq
 .simp only[bF] at hq;subst hq;exact e
theorem uL.take{pl:List Int}{n:Nat}(h:uL pl n)(i):uL (pl.take i) n:=λp b=>h p (bJ b)
theorem uL.drop{c:List Int}{n:Nat}(h:uL c n)(i):uL (c.drop i) n:=λp b=>h p (cF b)
def abn(j:Sg)(q:List fB)(x:RD)(m e:Int)(r:List ie)(t:ie)(s:List Int)(n:Nat)(h:Out)(i:List Ob):Prop:=
 ∃(u:ie) (b:List Int) (k:List ie),h=.ret (.d (.jj [u.d,.sl 1 (ints b)]))/\i=[pX x m k.length e,pA k]/\uL b k.length/\NA j q k/\Wt j q u b.length/\(∃ U,b=s++U/\U.length=n)/\∃c,k=r++c/\c.length=n/\ij c+n+u.size<=t.size/\iv u+n=iv t/\Jl r.length s t n u b c
theorem vx{sg:Sg}{ps:List fB}(x:RD)(m e:Int)(C:List ie)(k n:Int)(s:fB)(F:List iq)(c:List ie)(G:List Int)(N:Nat)(hp:uL G C.length)(hT:NA sg ps C)(hb:C.length+N<=1000000000)(hl:G.length+N<=1000000000)(hw:Wt sg ps (.mk k n s F c) G.length)(hz:(ie.mk k n s F c).size<=1000000000)(hN:N<=iv (.mk k n s F c)):
 jT fC gl 172 [pX x m C.length e,pA C] [.jk 0 0,.d (ie.mk k n s F c).d,.d (.sl 1 (ints G)),fE N] (abn sg ps x m e C (.mk k n s F c) G N):=by
 refine nR Tryz.func172 40 2 ?_;refine pt 14 (ι:=Nat×(Int×Int×fB×List iq×List ie)×List Int×List ie) (λ⟨i,⟨h,j,q,r,y⟩,U,b⟩=>[(10,int i),(2,.d (.sl 1 (ints U)))]) (λ⟨i,⟨h,j,q,r,y⟩,U,b⟩=>[pX x m b.length e,pA b,tO h j q r y,zO]) [8,5,0,3] (λ⟨i,⟨h,j,q,r,y⟩,U,b⟩=>i<=N/\uL U b.length/\NA sg ps b/\Wt sg ps (.mk h j q r y) U.length/\(∃ z,U=G++z/\z.length=i)/\(∃ I,b=C++I/\I.length=i/\ij I+i+(ie.mk h j q r y).size<=(ie.mk k n s F c).size/\Jl C.length G (.mk k n s F c) i (.mk h j q r y) U I)/\iv (.mk h j q r y)+i=iv (.mk k n s F c)) (λ⟨i,⟨h,j,q,r,y⟩,U,b⟩=>N-i) ((0,⟨k,n,s,F,c⟩,G,C)) ([0,1,2,3]) ⟨ak _,hp,hT,hw,⟨[],by simp⟩,⟨[],by simp,rfl,by simp[ij],.zero⟩,rfl⟩ ?_;rintro⟨i,⟨h,j,q,r,y⟩,U,b⟩ H
 try dsimp only at H
 obtain⟨i1,M,i3,i4,⟨z,Y,i6⟩,⟨I,i7,i8,i9,R⟩,i10⟩:=H;refine j7 8 ?_ ?_<;>intro h2
 .refine jD 14 (.jj [(ie.mk h j q r y).d,.sl 1 (ints U)]) [0,1] [pX x m b.length e,pA b] ?_
  .obtain rfl:i=N:=O;exact⟨_,U,b,rfl,rfl,M,i3,i4,⟨z,Y,i6⟩,I,i7,i8,i9,i10,R⟩
 have hyl:b.length=C.length+i:=(by rw[i7,aN,i8]);have hql:U.length=G.length+i:=(by rw[Y,aN,i6]);obtain⟨rfl,⟨k1,m1,s1,l1,a1⟩,⟨k2,m2,s2,l2,a2⟩,rfl,hpis⟩:=vf (show 0<iv (.mk h j q r y) by omega);obtain⟨_,_,hab,_,_,_,J,S⟩:=i4.two (.inr (.inr rfl));refine rF 5 ?_;cases hab;rw[if_neg Z] at S;have hzA:(ie.mk k1 m1 s1 l1 a1).size<=1000000000:=(by simp only[ie.size,iG,ij] at i9 hz ⊢;omega);have hM:=EG (n:=(b.length:Int)) O M J;have V:=xR (gl:=gl) x m e b k1 m1 s1 l1 a1 U M O O J hzA;obtain⟨kM,mM,sM,lM,aM,W⟩:=ie.case (BF b.length U (.mk k1 m1 s1 l1 a1))
 rw[W] at hM V;refine ni 4 iQ iY ?_ (hat:=rfl);refine nC 2 V [0,1] ?_;refine rF 11 ?_;refine o1 (qg iQ rfl rfl ?_);refine ny 0 (Kt U b.length O) ?_;refine nC 7 (r9 x m e b kM mM sM lM aM O) [0,1] ?_;refine ni 5 iQ iY ?_ (hat:=rfl);refine jS 7 ?_;refine ml 2 (i+1,⟨k2,m2,s2,l2,a2⟩,U++[(b.length:Int)],b++[.mk kM mM sM lM aM]) [0,1,2,3] ?_
 .refine ⟨⟨O,?_,?_,?_,⟨z++[(b.length:Int)],?_,?_⟩,⟨I++[.mk kM mM sM lM aM],?_,?_,?_,W▸R.snoc O hyl hp M J⟩,O⟩,show N-(i+1)<N-i by omega⟩
  .exact (M.up (by simp)).snoc ⟨O,by simp;omega⟩
  .exact i3.app hM.1
  .rw [aN];exact S.up (by simp)
  .rw [Y,bq]
  .rw [aN,i6];rfl
  .rw [i7,bq]
  .rw [aN,i8];rfl
  .rw [mS];have h9:=hM.2;simp only[ie.size,iG,ij] at i9 h9 ⊢;omega
theorem Gf(l i):(ints l).drop ((i:Nat):Int).toNat=ints (l.drop i):=by simp[ints,dN]
theorem xX(l i):(ints l).take ((i:Nat):Int).toNat=ints (l.take i):=by simp[ints,cu]
theorem vA(a c):(ie.mk 3 0 .empty [] [a,c]).size=1+a.size+c.size:=by simp only[ie.size,iG,ij];omega
theorem Cy(t:ie):1<=t.size:=by obtain⟨k,m,s,ls,args⟩:=t;simp only[ie.size];omega
theorem Qs(n):(vr n).size=1:=rfl
def WK(q:Sg)(r:List fB)(x:RD)(m c:Int)(e:List ie)(B:Nat)(Q:ie->Prop)(i:Out)(j:List Ob):Prop:=
 ∃(h:ie),i=.ret (.d h.d)/\j=[pX x m e.length c,pA e]/\Wt q r h e.length/\h.size<=B/\Q h
set_option maxHeartbeats 800000 in
theorem xe{W:List fB}(x:RD)(m:Int)(e p:Nat)(hx:x.ad=p)(j:List ie)(k n:Int)(s:fB)(q:List iq)(c:List ie)(r:List Int)(J:Int)(hp:uL r j.length)(hp0:0<=J/\J<j.length)(hmot:e<j.length)(hT:NA V W j)(hb:j.length+10000000<=1000000000)(hl:r.length+10000000<=1000000000)(hw:Wt V W (.mk k n s q c) r.length)(hz:(ie.mk k n s q c).size<=10000000):
 jT fC gl 182 [pX x m j.length e,pA j] [.jk 0 0,.d (ie.mk k n s q c).d,.d (.sl 1 (ints r)),fE J] (WK V W x m e j (3*(ie.mk k n s q c).size+3) λh=> ∀I,z9 I->er I h=Mt.Vy e j.length (uH r) J.toNat ((lQ (iv (.mk k n s q c)) (.mk k n s q c)).map (er I)) (((ig (jQ (iv (.mk k n s q c)) (.mk k n s q c))).2.drop p).map (er I))):=by
 have hpl:=nE _ (.mk k n s q c) (ae _);have hpi:=se (gl:=gl) (B:=4398046511104) k n s q c (hw.sh O) O;have hbo:=vx (gl:=gl) x m e j k n s q c r (iv (.mk k n s q c)) hp hT O O hw O (ae _);have hil:=qP r;refine nR Tryz.func182 78 2 ?_;refine rF 12 ?_;refine o1 (qg iQ rfl rfl ?_);refine ny 6 hpi ?_;refine uo 9 hbo [0,1] ?_;rintro s ob' ⟨⟨ku,mu,su,lu,au⟩,H,b,⟨⟩,rfl,g1,g2,g3,⟨pl',g4,g5⟩,xs,g6,g7,g8,_,hbE⟩;have hyl:b.length=j.length+iv (.mk k n s q c):=by rw[g6,aN,g7]
 have hql:H.length=r.length+iv (.mk k n s q c):=by rw[g4,aN,g5]
 have hqi:=qP H;obtain⟨w1,w2,w3,w4⟩:=Wt.spine _ (ae _) g3;have Y:=oW (gl:=gl) ku mu su lu au w1 O;have hss:=mQ _ (ie.mk ku mu su lu au) (ae _);obtain⟨kh,mh,sh',lh,ah,hH⟩:=ie.case (ig (.mk ku mu su lu au)).1
 rw[hH] at Y;generalize hAs:(ig (.mk ku mu su lu au)).2=as' at Y hss w3;have hal:=ir as';have hal2:=iJ as';refine uv ?_;refine ny 11 Y ?_;refine nC 15 (wg x m e b e O O) [0,1] ?_;refine pt 16 (ι:=Nat×(Int×Int×fB×List iq×List ie)) (λ⟨i,⟨y,z,C,F,G⟩⟩=>[(16,int i)]) (λ⟨i,⟨y,z,C,F,G⟩⟩=>[pX x m b.length e,pA b,tO k n s q c,zO,tO ku mu su lu au,tO kh mh sh' lh ah,tO y z C F G]) [15,14,12,9,8,0,2,3] (λ⟨i,⟨y,z,C,F,G⟩⟩=>Wt V W (.mk y z C F G) b.length/\(ie.mk y z C F G).size<=1+2*ij (as'.take i)/\p<=i/\∀I,z9 I->er I (.mk y z C F G)=TL I b.length e H as' p i) (λ⟨i,⟨y,z,C,F,G⟩⟩=>as'.length-i) ((p,⟨0,b.length-1-e,.empty,[],[]⟩)) ([0,1,2,3,4,5,6]) ⟨Wt.var O O,by show 1<=_;omega,ae _,λI _=>GN I O H as' p⟩ ?_ (hM:=by exact oL (j8 rfl (by exact Fit.of_eq (by rw[hx];rfl))));rintro⟨i,⟨y,z,C,F,G⟩⟩ R
 try dsimp only at R
 obtain⟨i1,i2,i3,i4⟩:=R;refine jq 9 ?_ ?_<;>intro h7
 .obtain ⟨k2,m2,s2,l2,a2,U⟩:=iZ (show i<as'.length by omega);have hWA:=w3 _ (aO U);have hgz:=iO U;have hM:=EG (n:=(b.length:Int)) O g1 hWA;have hmv:=xR (gl:=gl) x m e b k2 m2 s2 l2 a2 H g1 O O hWA O;obtain⟨kM,mM,sM,lM,aM,hMe⟩:=ie.case (BF b.length H (.mk k2 m2 s2 l2 a2))
  rw[hMe] at hM hmv;have hap:=lS (gl:=gl) y z C F G kM mM sM lM aM;refine ma 4 [0,1,2,3] mixed ?_;refine pQ 4 iQ iY ?_ (hat:=(jr U));refine ga [5,6] ?_;refine A2 7 rfl (ck Wh rfl rfl (hmv) [0,1] rfl (jN (.cons rfl .buf .nil)) (jw (oq (jw .nil))) ?_);refine qB 8 hap ?_;refine nO 9 ?_;refine iB<|jS 4 ?_;refine ml 2 (i+1,⟨3,0,.empty,[],[.mk y z C F G,.mk kM mM sM lM aM]⟩) [0,1,2,3,4,5,6] ?_
  .refine ⟨⟨Wt.app i1 hM.1,?_,O,λI hI=>hMe▸GO hI (i4 I hI) i3 U g1 hWA⟩,show as'.length-(i+1)<as'.length-i by omega⟩;have h9:=hM.2;rw[vA,qb U];have:=Cy (.mk k2 m2 s2 l2 a2);omega
 have hdl:(H.drop r.length).length=iv (.mk k n s q c):=(by rw[bK];omega);have hpd:=g1.drop r.length;have S:=qY (gl:=gl) x m e b 0 (b.length-1-J) .empty [] [] (H.drop r.length) hpd O O;have hvw:Wt V W (vr ((b.length:Int)-1-J)) b.length:=Wt.var O O;have haw:=Wt.apply hvw (xw (sg:=V) (ps:=W) hpd);have haz:=jG (vr ((b.length:Int)-1-J)) (vars b.length (H.drop r.length));rw[u0,uc,Qs,hdl] at haz;unfold vr at haw haz;obtain⟨kA,mA,sA,lA,aA,hA⟩:=ie.case (iF (.mk 0 (b.length-1-J) .empty [] []) (vars b.length (H.drop r.length)))
 rw[hA] at S haw haz;have hap2:=lS (gl:=gl) y z C F G kA mA sA lA aA;have M:=uj (gl:=gl) x m e b 3 0 .empty [] [.mk y z C F G,.mk kA mA sA lA aA] j.length O O O;have hcw:=g2.yN (n:=j.length) O (Wt.app i1 haw);have hcz:=wR (b.drop j.length) (.mk 3 0 .empty [] [.mk y z C F G,.mk kA mA sA lA aA]);have hst:=qp as' i;have htk:b.take j.length=j:=(by rw[g6,cE]);have hdr:b.drop j.length=xs:=(by rw[g6,ec]);rw[hdr] at M hcw hcz;rw[htk] at M;rw[vA] at hcz;obtain⟨kB,mB,sB,lB,aB,hB⟩:=ie.case (wq xs (.mk 3 0 .empty [] [.mk y z C F G,.mk kA mA sA lA aA]))
 rw[hB] at M hcw hcz;refine ma 6 [0,1,2,3,5,6,7] mixed ?_;refine A1 8 rfl (sJ u5 vM rfl rfl rfl rfl rfl rfl O ((show(ints H).drop ((ints r).length:Int).toNat=ints (H.drop r.length) by rw[hil];exact Gf H r.length)) ⟨_,rfl,?_⟩);refine A2 4 rfl (ck Nb rfl rfl (wg x m e b J O O) [0,1] rfl (jN (.cons rfl .buf .nil)) (jw (jw .nil)) ?_);refine A2 9 rfl (ck IZ rfl rfl (S) [0,1] rfl (jN (.cons rfl .buf .nil)) (jw (jw (jw .nil))) ?_);refine qB 10 hap2 ?_;refine nO 11 ?_;refine iB<|nC 6 M [0,1] ?_;refine jD 4 ((ie.mk kB mB sB lB aB).d) [0,1] [pX x m j.length e,pA j] ?_
 .refine ⟨_,rfl,rfl,hcw,O,λI hI=>?_⟩;have:=Z6 hI hbE (ae _) hyl hp hp0 (by rw[hAs];exact i4 I hI) (by rw[hAs];omega);rw[hA,hB] at this;exact this
def Uu(i:Nat):List Int:=(List.range i).map λ(j:Nat)=>(j:Int)
theorem QM(i):(Uu i).length=i:=by simp[Uu]
theorem Ut(i):Uu i++[(i:Int)]=Uu (i+1):=by simp[Uu,eK]
theorem ZF(h:i<=n):uL (Uu i) n:=by
 intro p b;obtain⟨j,k,rfl⟩:=bD.1 b;have:=b5.1 k;exact⟨O,O⟩
theorem V2:∀(n:Nat) {t:ie},n<=iv t->oD B t->oD B (jQ n t):=by
 intro n
 induction n with
 |zero=>intro t _ h;exact h
 |succ n U=>
  intro t c h;obtain⟨k,m,s,ls,args,rfl⟩:=ie.case t
  obtain⟨rfl,a,b,rfl,e⟩:=vf (ej (Nat.succ_pos n) c);exact U O h.2.1.2.1
theorem Xo(c:n<=iv t):iv (jQ n t)=iv t-n:=by
 induction n generalizing t with
 |zero=>rfl
 |succ n U=>
  obtain⟨k,m,s,ls,args,rfl⟩:=ie.case t
  obtain⟨rfl,a,b,rfl,e⟩:=vf (ej (Nat.succ_pos n) c);show iv (jQ n b)=_;rw[U O];omega
theorem V1(n t):(jQ n t).size<=t.size:=by have:=nj n t;omega
def WM(e:fB)(i m:Int)(s:fB)(h:List iq)(c:List ie):Ob:=.cells [.d (.v (.string e)),.d (.v (.int .i64 i)),.d (.v (.int .i64 m)),.d (.v (.string s)),.d (.sl 3 (iR h)),.d (.sl 5 (im c))] 65
theorem JS{sg:Sg}{ps:List fB}(j:sg h=some e.length)(i:∀p∈e,p∈ps/\p≠ .empty):Wt sg ps (Hb h e) c:=by
 refine⟨λl k=>?_,trivial,.inr (.inr (.inl ⟨rfl,rfl,by simp[uf,j],rfl⟩))⟩;obtain⟨p,b,rfl⟩:=bD.1 k;exact⟨.param p,rfl,⟨Z,Z,λ_=>(i p b).2,trivial⟩,λq U=>by have r:q=p:=U;rw[r];exact(i p b).1⟩
theorem CP(e c):(Hb e c).size=1+c.length:=by
 have h:∀l:List fB,iG (uf l)=l.length:=λl=>by
  induction l with
  |nil=>rfl
  |cons a r b=>show iG (.mk 4 a []::uf r)=_;simp only[iG,b,iq.size,aj];omega
 show 1+iG (uf c)+ij []=_;rw[h];simp only[ij];omega
set_option maxHeartbeats 1600000 in
theorem ON{sg:Sg}{ps:List fB}(x:RD)(m:Int)(r p:Nat)(hx:x.ad=p)(F:List ie)(nm:fB)(k n:Int)(s:fB)(ls:List iq)(e:List ie)(hpb:p<=F.length)(hmot:r<F.length)(hT:NA sg ps F)(hb:F.length+20000000<=1000000000)(hw:Wt sg ps (.mk k n s ls e) 0)(hz:(ie.mk k n s ls e).size<=1000000)(hpp:p<=iv (.mk k n s ls e))(hsg:sg nm=some x.pd.length)(hpd:∀q∈x.pd,q∈ps/\q≠ .empty)(hpl:x.pd.length<=6)(hmp:r=p):
 jT fC gl 177 [pX x m F.length r,pA F] [.jk 0 0,.d (.agg (fG nm::(ie.mk k n s ls e).cells))] (WK sg ps x m r F (12*(ie.mk k n s ls e).size+12) λh=> ∀I,z9 I->I nm=none->er I h=LX I p F.length x.sd nm ((lQ (iv (.mk k n s ls e)) (.mk k n s ls e)).drop p) ((ig (jQ (iv (.mk k n s ls e)) (.mk k n s ls e))).2.drop p)):=by
 have hpz:=nE _ (.mk k n s ls e) (ae _);have hsh:=hw.sh (B:=4398046511104) O;have hen:=B4 (gl:=gl) p k n s ls e hsh hpp O;have hWe:=(hw.yN p hpp).1;have hpe:=Xo hpp;have hze:=V1 p (.mk k n s ls e);have hshe:=V2 p hpp hsh;obtain⟨k0,n0,s0,l0,a0,hE⟩:=ie.case (jQ p (.mk k n s ls e))
 rw[hE] at hen hWe hpe hze hshe;have hpi:=se (gl:=gl) k0 n0 s0 l0 a0 hshe O;have hrl:=QM p;have hbo:=vx (gl:=gl) (sg:=sg) (ps:=ps) x m r F k0 n0 s0 l0 a0 (Uu p) (iv (.mk k0 n0 s0 l0 a0)) (ZF hpb) hT O O (by rw[hrl];exact hWe.up O) O (ae _);generalize hN:iv (.mk k0 n0 s0 l0 a0)=N at hpi hbo hpe;refine nR Tryz.func177 144 2 ?_;refine rF 12 ?_;refine o1 (qg iQ rfl rfl ?_);refine rF 15 ?_;refine iP 3 1 rfl<|pt 0 (ι:=Nat) (λi=>[(7,int i),(6,.own 4 1 (ints (Uu i)))]) (λi=>[pX x m F.length r,pA F,WM nm k n s ls e,zO,.row 3 1]) [5,4,3,0] (λi=>i<=p) (λi=>p-i) (0) ([0,1,2,3,4]) (ak _) ?_ (hM:=by exact oL (iU (yu rfl (by(show Fit _ _ (SV.own 4 1 []);exact Fit.nil rfl)) (iU (iU (iU (iU rA)))))));rintro i y
 try dsimp only at y
 refine jq 12 ?_ ?_<;>intro h4
 .have hnx:ints (Uu i)++[[D.v (.int .i64 i)]]=ints (Uu (i+1)):=(by rw[Gg,Ut]);have hil:=qP (Uu i);have hri:=QM i;refine oR 7 DB [.tmp 34] NU ?_;refine oc (ya DB ?_);refine jS 6 ?_;refine rF 2 ?_;rw[hnx];refine ml 0 (i+1) [0,1,2,3,4] ?_;exact⟨O,O⟩
 obtain rfl:i=p:=O;rw[<- hx] at hen;refine ma 6 [0,1,2,3,4,5,6] mixed ?_;refine ki (rs:=[7,8]) gN rfl ⟨?_,?_,trivial⟩
 .skip
  refine A4 7 rfl (cv adv rfl rfl (hen) (oq (jw .nil)) ?_);refine A2 8 rfl (AW jz ?_);refine nO 9 ?_;refine iB<|ny 4 hpi ?_;refine uo 9 hbo [0,1] ?_;rintro s ob' ⟨⟨ku,mu,su,lu,au⟩,U,ys,⟨⟩,rfl,g1,g2,g3,⟨pl',g4,g5⟩,xs,g6,g7,g8,_,hbE⟩;have hyl:ys.length=F.length+N:=by rw[g6,aN,g7]
  have hql:U.length=i+N:=by rw[g4,aN,g5,hrl]
  have hqi:=qP U;obtain⟨w1,w2,w3,w4⟩:=Wt.spine _ (ae _) g3;have hsp:=oW (gl:=gl) ku mu su lu au w1 O;have hss:=mQ _ (ie.mk ku mu su lu au) (ae _);obtain⟨kh,mh,sh',lh,ah,hH⟩:=ie.case (ig (.mk ku mu su lu au)).1
  rw[hH] at hsp;generalize hAs:(ig (.mk ku mu su lu au)).2=as' at hsp hss w3;have hal:=ir as';have hal2:=iJ as';refine uv ?_;refine pt 15 (ι:=Nat×(Int×Int×fB×List iq×List ie)×List ie) (λ⟨j,⟨k',Y,s',J,a'⟩,b⟩=>[(12,int j)]) (λ⟨j,⟨k',Y,s',J,a'⟩,b⟩=>[pX x m b.length r,pA b,WM nm k n s ls e,zO,.row 3 1,tO k' Y s' J a',tO ku mu su lu au]) [11,10,9,8,5,4,3,0] (λ⟨j,⟨k',Y,s',J,a'⟩,b⟩=>j<=N/\NA sg ps b/\Wt sg ps (.mk k' Y s' J a') (i+j)/\N-j<=iv (.mk k' Y s' J a')/\(∃ hs,b=ys++hs/\hs.length<=j/\ij hs+hs.length+4*(ie.mk k' Y s' J a').size<=4*(ie.mk k0 n0 s0 l0 a0).size/\TJ x.sd i F.length N (.mk k0 n0 s0 l0 a0) j (.mk k' Y s' J a') hs)) (λ⟨j,⟨k',Y,s',J,a'⟩,b⟩=>N-j) ((0,⟨k0,n0,s0,l0,a0⟩,ys)) ([0,1,2,3,4,5,6]) ⟨ak _,g2,by simpa using hWe,by rw[hN];exact Nat.sub_le _ _,⟨[],by simp,by simp,by simp[ij],.zero⟩⟩ ?_;rintro⟨j,⟨k',Y,s',J,a'⟩,b⟩ y
  try dsimp only at y
  obtain⟨i1,i2,i3,i4,⟨hs,i5,i6,i7,i8⟩⟩:=y;refine j7 8 ?_ ?_<;>intro h11
  .have hzl:b.length=ys.length+hs.length:=(by rw[i5,aN]);refine ny 8 hsp ?_;refine nC 15 (wg x m r b r O O) [0,1] ?_;refine pt 16 (ι:=Nat×(Int×Int×fB×List iq×List ie)) (λ⟨q,⟨M,R,S,V,W⟩⟩=>[(18,int q)]) (λ⟨q,⟨M,R,S,V,W⟩⟩=>[pX x m b.length r,pA b,WM nm k n s ls e,zO,.row 3 1,tO k' Y s' J a',tO ku mu su lu au,tO kh mh sh' lh ah,tO M R S V W]) [17,16,11,5,4,3,0] (λ⟨q,⟨M,R,S,V,W⟩⟩=>Wt sg ps (.mk M R S V W) b.length/\(ie.mk M R S V W).size<=1+2*ij (as'.take q)/\i<=q/\∀I,z9 I->er I (.mk M R S V W)=TL I b.length r U as' i q) (λ⟨q,⟨M,R,S,V,W⟩⟩=>as'.length-q) ((i,⟨0,b.length-1-r,.empty,[],[]⟩)) ([0,1,2,3,4,5,6,7,8]) ⟨Wt.var O O,by show 1<=_;omega,ae _,λI _=>GN I O U as' i⟩ ?_ (hM:=by exact oL (j8 rfl (by exact Fit.of_eq (by rw[hx];rfl))));rintro⟨q,⟨M,R,S,V,W⟩⟩ y
   try dsimp only at y
   obtain⟨e1,e2,e3,e4⟩:=y;refine jq 9 ?_ ?_<;>intro h21
   .obtain ⟨k5,m5,s5,l5,a5,z⟩:=iZ (show q<as'.length by omega);have hWA:=w3 _ (aO z);have hgz:=iO z;have G:uL U b.length:=g1.up O;have hM:=EG (n:=(b.length:Int)) O G hWA;have hmv:=xR (gl:=gl) x m r b k5 m5 s5 l5 a5 U G O O hWA O;obtain⟨kM,mM,sM,lM,aM,hMe⟩:=ie.case (BF b.length U (.mk k5 m5 s5 l5 a5))
    rw[hMe] at hM hmv;have hap:=lS (gl:=gl) M R S V W kM mM sM lM aM;refine ma 4 [0,1,2,3] mixed ?_;refine pQ 4 iQ iY ?_ (hat:=(jr z));refine ga [5,6] ?_;refine A2 7 rfl (ck Wh rfl rfl (hmv) [0,1] rfl (jN (.cons rfl .buf .nil)) (jw (oq (jw .nil))) ?_);refine qB 8 hap ?_;refine nO 9 ?_;refine iB<|jS 4 ?_;refine ml 2 (q+1,⟨3,0,.empty,[],[.mk M R S V W,.mk kM mM sM lM aM]⟩) [0,1,2,3,4,5,6,7,8] ?_
    .refine ⟨⟨Wt.app e1 hM.1,?_,O,λI hI=>hMe▸GO hI (e4 I hI) e3 z G hWA⟩,show as'.length-(q+1)<as'.length-q by omega⟩;have h9:=hM.2;rw[vA,qb z];have:=Cy (.mk k5 m5 s5 l5 a5);omega
   have G:uL U b.length:=g1.up O;have happ:=qY (gl:=gl) x m r b 2 0 nm (uf x.pd) [] U G O O;have hcw0:=JS (ps:=ps) (c:=(b.length:Int)) hsg hpd;have haw:=Wt.apply hcw0 (xw (sg:=sg) (ps:=ps) G);have haz:=jG (Hb nm x.pd) (vars b.length U);rw[u0,uc,CP] at haz;unfold Hb at haw haz;obtain⟨kA,mA,sA,lA,aA,hA⟩:=ie.case (iF (.mk 2 0 nm (uf x.pd) []) (vars b.length U))
   rw[hA] at happ haw haz;have hap2:=lS (gl:=gl) M R S V W kA mA sA lA aA;have hcl:=uj (gl:=gl) x m r b 3 0 .empty [] [.mk M R S V W,.mk kA mA sA lA aA] F.length O O O;have hcw:=i2.yN (n:=F.length) O (Wt.app e1 haw);have hcz:=wR (b.drop F.length) (.mk 3 0 .empty [] [.mk M R S V W,.mk kA mA sA lA aA]);have hst:=qp as' q;have htk:b.take F.length=F:=(by rw[i5,g6,bq,cE]);have hdr:b.drop F.length=xs++hs:=(by rw[i5,g6,bq,ec]);rw[hdr] at hcl hcw hcz;rw[htk] at hcl;rw[vA,mS,aN] at hcz;obtain⟨kB,mB,sB,lB,aB,hB⟩:=ie.case (wq (xs++hs) (.mk 3 0 .empty [] [.mk M R S V W,.mk kA mA sA lA aA]))
   rw[hB] at hcl hcw hcz;refine ma 6 [0,1,2,3,4,6] mixed ?_;refine A2 5 rfl (ck Y6 rfl rfl (ub x m r b nm O) [0,1] rfl (jN (.cons rfl .buf .nil)) (jw (jw .nil)) ?_);refine A2 7 rfl (ck IZ rfl rfl (happ) [0,1] rfl (jN (.cons rfl .buf .nil)) (jw (jw (jw .nil))) ?_);refine qB 8 hap2 ?_;refine nO 9 ?_;refine iB<|nC 6 hcl [0,1] ?_;refine jD 4 ((ie.mk kB mB sB lB aB).d) [0,1] [pX x m F.length r,pA F] ?_
   .refine ⟨_,rfl,rfl,hcw,O,λI hI hIn=>?_⟩;obtain rfl:j=N:=O;have h8:=e4 I hI;rw[hmp,<-hAs] at h8;have h9:=QZ (us:=uf x.pd) hI hIn hbE O i8 O (wW i) G h8 (by rw[hAs];omega);rw[hA,hB] at h9;obtain⟨h7,h6⟩:=Jn j i _ (show i+j<=iv (.mk k n s ls e) by omega);rw[show iv (.mk k n s ls e)=i+j by omega,h7,h6,hE,List.drop_left' (jx _ _ hpp)];exact h9
  have hzl:b.length=ys.length+hs.length:=(by rw[i5,aN]);obtain⟨rfl,⟨k1,m1,s1,l1,a1⟩,⟨k2,m2,s2,l2,a2⟩,rfl,hpis⟩:=vf (show 0<iv (.mk k' Y s' J a') by omega);obtain⟨_,_,hab,_,_,_,hWA,hWB⟩:=i3.two (.inr (.inr rfl));refine rF 5 ?_;cases hab;rw[if_neg Z] at hWB;have hzz:1+(ie.mk k1 m1 s1 l1 a1).size+(ie.mk k2 m2 s2 l2 a2).size=(ie.mk 5 Y s' J [.mk k1 m1 s1 l1 a1,.mk k2 m2 s2 l2 a2]).size-iG J:=(by simp only[ie.size,ij];omega);have hl0:J=[]:=(by
   rcases i3.2.2 with h|h|h|h|h
   .omega
   .omega
   .omega
   .exact h.2.2.2.1
   .omega)
  subst hl0;simp only[iG,eB] at hzz;have hha:=uQ (gl:=gl) x.sd _ k1 m1 s1 l1 a1 (ae _) O;refine ni 3 iQ iY ?_ (hat:=rfl);refine ma 6 [0,1,2,3,4,5] mixed ?_;refine qB 6 hha ?_;refine ga [7] ?_;refine iB<|rF 7 ?_;refine xo (ι:=List ie) (λC=>[]) (λC=>[pX x m C.length r,pA C,WM nm k n s ls e,zO,.row 3 1,tO 5 Y s' [] [.mk k1 m1 s1 l1 a1,.mk k2 m2 s2 l2 a2],tO ku mu su lu au,tO k1 m1 s1 l1 a1]) [12,11,10,9,8,5,4,3,0] (λC=>NA sg ps C/\∃hs2,C=ys++hs2/\hs2.length<=j+1/\ij hs2+hs2.length+4*(ie.mk k2 m2 s2 l2 a2).size<=4*(ie.mk k0 n0 s0 l0 a0).size/\TJ x.sd i F.length N (.mk k0 n0 s0 l0 a0) (j+1) (.mk k2 m2 s2 l2 a2) hs2) rfl ?_ ?_
  .refine j7 0 ?_ ?_<;>intro h15
   .refine ml 1 (b) [0,1,2,3,4,5,6,7] ?_;exact⟨i2,hs,i5,O,O,i8.QW O (by assumption)⟩
   have hqj:(U[i+j]'O)∈U:=bS _;have hpz2:=g1 _ hqj;have htl:(U.take (i+j)).length=i+j:=(by rw[bj];omega);have hyp:=xe (gl:=gl) x m r i hx b k1 m1 s1 l1 a1 (U.take (i+j)) (U[i+j]'O) ((g1.up O).take _) ⟨hpz2.1,O⟩ O i2 O O (by rw[htl];exact hWA) O;refine ma 0 [0,1,2,3,4,5,6,7,9,12,13,14,15,16,18] mixed ?_;refine ki (rs:=[8,17]) gN rfl ⟨?_,?_,trivial⟩
   .skip
    refine A4 (T:=λ_=>False) 8 rfl (yS rfl rfl (Hg NU ?_));refine A1 10 rfl (Mm ⟨_,rfl,?_⟩);refine A1 11 rfl (pa u5 vM rfl rfl rfl rfl rfl rfl O ((show(ints U).take (x.ad+(j:Int)).toNat=ints (U.take (i+j)) by rw[hx];exact xX U (i+j))) ⟨_,rfl,?_⟩);refine A2 (T:=λ_=>False) 17 rfl (yS rfl rfl (Hg NU ?_));refine A1 19 rfl (Mm ⟨_,rfl,?_⟩);refine pQ 20 u5 vM ?_ (hat:=by exact((show(ints U)[(x.ad+(j:Int)).toNat]? =some [D.v (.int .i64 (U[i+j]'O))] by rw[hx];exact AI O)));refine ga [21] ?_;refine A2 22 rfl (iX RF rfl rfl rfl rfl (hyp) [0,1] (jN (.cons rfl .buf .nil)) rfl rfl rfl rfl (jw (oq (jw (jw .nil)))) (λs ob' hq=>?_) (λs ob' hq=>?_));rotate_left
    .obtain ⟨_,H,_⟩:=hq;cases H
    obtain⟨⟨kY,mY,sY,lY,aY⟩,H,rfl,hq4,hq5,hq6⟩:=hq;rw[hmp] at hq6;cases H;refine⟨_,_,_,_,_,rfl,rfl,rfl,rfl,rfl,?_⟩;refine A2 23 rfl (ck RG rfl rfl (r9 x m r b kY mY sY lY aY O) [0,1] rfl (jN (.cons rfl .buf .nil)) (jw (jw .nil)) ?_);refine iB<|ml 0 (b++[.mk kY mY sY lY aY]) [0,1,2,3,4,5,6,7] ?_;exact⟨i2.app hq4,hs++[.mk kY mY sY lY aY],by rw[i5,bq],by rw[aN];simp only[aj,aH];omega,by rw[mS,aN];simp only[ij,aj,aH];omega,i8.rc O (by assumption) O (hbE.Bu (wW i) hrl O) (hbE.get hrl O O) hq6⟩
   .skip
    refine A4 (T:=λ_=>False) 17 rfl (yS rfl rfl (Hg NU ?_));refine A1 19 rfl (Mm ⟨_,rfl,?_⟩);refine pQ 20 u5 vM ?_ (hat:=by exact((show(ints U)[(x.ad+(j:Int)).toNat]? =some [D.v (.int .i64 (U[i+j]'O))] by rw[hx];exact AI O)));refine ga [21] ?_;refine A2 (T:=λ_=>False) 8 rfl (yS rfl rfl (Hg NU ?_));refine A1 10 rfl (Mm ⟨_,rfl,?_⟩);refine A1 11 rfl (pa u5 vM rfl rfl rfl rfl rfl rfl O ((show(ints U).take (x.ad+(j:Int)).toNat=ints (U.take (i+j)) by rw[hx];exact xX U (i+j))) ⟨_,rfl,?_⟩);refine A2 22 rfl (iX RF rfl rfl rfl rfl (hyp) [0,1] (jN (.cons rfl .buf .nil)) rfl rfl rfl rfl (jw (oq (jw (jw .nil)))) (λs ob' hq=>?_) (λs ob' hq=>?_));rotate_left
    .obtain ⟨_,H,_⟩:=hq;cases H
    obtain⟨⟨kY,mY,sY,lY,aY⟩,H,rfl,hq4,hq5,hq6⟩:=hq;rw[hmp] at hq6;cases H;refine⟨_,_,_,_,_,rfl,rfl,rfl,rfl,rfl,?_⟩;refine A2 23 rfl (ck RG rfl rfl (r9 x m r b kY mY sY lY aY O) [0,1] rfl (jN (.cons rfl .buf .nil)) (jw (jw .nil)) ?_);refine iB<|ml 0 (b++[.mk kY mY sY lY aY]) [0,1,2,3,4,5,6,7] ?_;exact⟨i2.app hq4,hs++[.mk kY mY sY lY aY],by rw[i5,bq],by rw[aN];simp only[aj,aH];omega,by rw[mS,aN];simp only[ij,aj,aH];omega,i8.rc O (by assumption) O (hbE.Bu (wW i) hrl O) (hbE.get hrl O O) hq6⟩
  .rintro C hcut
   try dsimp only at hcut
   refine ni 3 iQ iY ?_ (hat:=rfl);refine jS 7 ?_;refine ml 2 (j+1,⟨k2,m2,s2,l2,a2⟩,C) [0,1,2,3,4,5,6] ?_;exact⟨⟨O,hcut.1,(by rw[show(i:Int)+((j+1:Nat):Int)=i+j+1 by omega];exact hWB),O,hcut.2⟩,show N-(j+1)<N-j by omega⟩
 .skip
  refine A4 8 rfl (AW jz ?_);refine qB 7 hen ?_;refine nO 9 ?_;refine iB<|ny 4 hpi ?_;refine uo 9 hbo [0,1] ?_;rintro s ob' ⟨⟨ku,mu,su,lu,au⟩,U,ys,⟨⟩,rfl,g1,g2,g3,⟨pl',g4,g5⟩,xs,g6,g7,g8,_,hbE⟩;have hyl:ys.length=F.length+N:=by rw[g6,aN,g7]
  have hql:U.length=i+N:=by rw[g4,aN,g5,hrl]
  have hqi:=qP U;obtain⟨w1,w2,w3,w4⟩:=Wt.spine _ (ae _) g3;have hsp:=oW (gl:=gl) ku mu su lu au w1 O;have hss:=mQ _ (ie.mk ku mu su lu au) (ae _);obtain⟨kh,mh,sh',lh,ah,hH⟩:=ie.case (ig (.mk ku mu su lu au)).1
  rw[hH] at hsp;generalize hAs:(ig (.mk ku mu su lu au)).2=as' at hsp hss w3;have hal:=ir as';have hal2:=iJ as';refine uv ?_;refine pt 15 (ι:=Nat×(Int×Int×fB×List iq×List ie)×List ie) (λ⟨j,⟨k',Y,s',J,a'⟩,b⟩=>[(12,int j)]) (λ⟨j,⟨k',Y,s',J,a'⟩,b⟩=>[pX x m b.length r,pA b,WM nm k n s ls e,zO,.row 3 1,tO k' Y s' J a',tO ku mu su lu au]) [11,10,9,8,5,4,3,0] (λ⟨j,⟨k',Y,s',J,a'⟩,b⟩=>j<=N/\NA sg ps b/\Wt sg ps (.mk k' Y s' J a') (i+j)/\N-j<=iv (.mk k' Y s' J a')/\(∃ hs,b=ys++hs/\hs.length<=j/\ij hs+hs.length+4*(ie.mk k' Y s' J a').size<=4*(ie.mk k0 n0 s0 l0 a0).size/\TJ x.sd i F.length N (.mk k0 n0 s0 l0 a0) j (.mk k' Y s' J a') hs)) (λ⟨j,⟨k',Y,s',J,a'⟩,b⟩=>N-j) ((0,⟨k0,n0,s0,l0,a0⟩,ys)) ([0,1,2,3,4,5,6]) ⟨ak _,g2,by simpa using hWe,by rw[hN];exact Nat.sub_le _ _,⟨[],by simp,by simp,by simp[ij],.zero⟩⟩ ?_;rintro⟨j,⟨k',Y,s',J,a'⟩,b⟩ y
  try dsimp only at y
  obtain⟨i1,i2,i3,i4,⟨hs,i5,i6,i7,i8⟩⟩:=y;refine j7 8 ?_ ?_<;>intro h11
  .have hzl:b.length=ys.length+hs.length:=(by rw[i5,aN]);refine ny 8 hsp ?_;refine nC 15 (wg x m r b r O O) [0,1] ?_;refine pt 16 (ι:=Nat×(Int×Int×fB×List iq×List ie)) (λ⟨q,⟨M,R,S,V,W⟩⟩=>[(18,int q)]) (λ⟨q,⟨M,R,S,V,W⟩⟩=>[pX x m b.length r,pA b,WM nm k n s ls e,zO,.row 3 1,tO k' Y s' J a',tO ku mu su lu au,tO kh mh sh' lh ah,tO M R S V W]) [17,16,11,5,4,3,0] (λ⟨q,⟨M,R,S,V,W⟩⟩=>Wt sg ps (.mk M R S V W) b.length/\(ie.mk M R S V W).size<=1+2*ij (as'.take q)/\i<=q/\∀I,z9 I->er I (.mk M R S V W)=TL I b.length r U as' i q) (λ⟨q,⟨M,R,S,V,W⟩⟩=>as'.length-q) ((i,⟨0,b.length-1-r,.empty,[],[]⟩)) ([0,1,2,3,4,5,6,7,8]) ⟨Wt.var O O,by show 1<=_;omega,ae _,λI _=>GN I O U as' i⟩ ?_ (hM:=by exact oL (j8 rfl (by exact Fit.of_eq (by rw[hx];rfl))));rintro⟨q,⟨M,R,S,V,W⟩⟩ y
   try dsimp only at y
   obtain⟨e1,e2,e3,e4⟩:=y;refine jq 9 ?_ ?_<;>intro h21
   .obtain ⟨k5,m5,s5,l5,a5,z⟩:=iZ (show q<as'.length by omega);have hWA:=w3 _ (aO z);have hgz:=iO z;have G:uL U b.length:=g1.up O;have hM:=EG (n:=(b.length:Int)) O G hWA;have hmv:=xR (gl:=gl) x m r b k5 m5 s5 l5 a5 U G O O hWA O;obtain⟨kM,mM,sM,lM,aM,hMe⟩:=ie.case (BF b.length U (.mk k5 m5 s5 l5 a5))
    rw[hMe] at hM hmv;have hap:=lS (gl:=gl) M R S V W kM mM sM lM aM;refine ma 4 [0,1,2,3] mixed ?_;refine pQ 4 iQ iY ?_ (hat:=(jr z));refine ga [5,6] ?_;refine A2 7 rfl (ck Wh rfl rfl (hmv) [0,1] rfl (jN (.cons rfl .buf .nil)) (jw (oq (jw .nil))) ?_);refine qB 8 hap ?_;refine nO 9 ?_;refine iB<|jS 4 ?_;refine ml 2 (q+1,⟨3,0,.empty,[],[.mk M R S V W,.mk kM mM sM lM aM]⟩) [0,1,2,3,4,5,6,7,8] ?_
    .refine ⟨⟨Wt.app e1 hM.1,?_,O,λI hI=>hMe▸GO hI (e4 I hI) e3 z G hWA⟩,show as'.length-(q+1)<as'.length-q by omega⟩;have h9:=hM.2;rw[vA,qb z];have:=Cy (.mk k5 m5 s5 l5 a5);omega
   have G:uL U b.length:=g1.up O;have happ:=qY (gl:=gl) x m r b 2 0 nm (uf x.pd) [] U G O O;have hcw0:=JS (ps:=ps) (c:=(b.length:Int)) hsg hpd;have haw:=Wt.apply hcw0 (xw (sg:=sg) (ps:=ps) G);have haz:=jG (Hb nm x.pd) (vars b.length U);rw[u0,uc,CP] at haz;unfold Hb at haw haz;obtain⟨kA,mA,sA,lA,aA,hA⟩:=ie.case (iF (.mk 2 0 nm (uf x.pd) []) (vars b.length U))
   rw[hA] at happ haw haz;have hap2:=lS (gl:=gl) M R S V W kA mA sA lA aA;have hcl:=uj (gl:=gl) x m r b 3 0 .empty [] [.mk M R S V W,.mk kA mA sA lA aA] F.length O O O;have hcw:=i2.yN (n:=F.length) O (Wt.app e1 haw);have hcz:=wR (b.drop F.length) (.mk 3 0 .empty [] [.mk M R S V W,.mk kA mA sA lA aA]);have hst:=qp as' q;have htk:b.take F.length=F:=(by rw[i5,g6,bq,cE]);have hdr:b.drop F.length=xs++hs:=(by rw[i5,g6,bq,ec]);rw[hdr] at hcl hcw hcz;rw[htk] at hcl;rw[vA,mS,aN] at hcz;obtain⟨kB,mB,sB,lB,aB,hB⟩:=ie.case (wq (xs++hs) (.mk 3 0 .empty [] [.mk M R S V W,.mk kA mA sA lA aA]))
   rw[hB] at hcl hcw hcz;refine ma 6 [0,1,2,3,4,6] mixed ?_;refine A2 5 rfl (ck Y6 rfl rfl (ub x m r b nm O) [0,1] rfl (jN (.cons rfl .buf .nil)) (jw (jw .nil)) ?_);refine A2 7 rfl (ck IZ rfl rfl (happ) [0,1] rfl (jN (.cons rfl .buf .nil)) (jw (jw (jw .nil))) ?_);refine qB 8 hap2 ?_;refine nO 9 ?_;refine iB<|nC 6 hcl [0,1] ?_;refine jD 4 ((ie.mk kB mB sB lB aB).d) [0,1] [pX x m F.length r,pA F] ?_
   .refine ⟨_,rfl,rfl,hcw,O,λI hI hIn=>?_⟩;obtain rfl:j=N:=O;have h8:=e4 I hI;rw[hmp,<-hAs] at h8;have h9:=QZ (us:=uf x.pd) hI hIn hbE O i8 O (wW i) G h8 (by rw[hAs];omega);rw[hA,hB] at h9;obtain⟨h7,h6⟩:=Jn j i _ (show i+j<=iv (.mk k n s ls e) by omega);rw[show iv (.mk k n s ls e)=i+j by omega,h7,h6,hE,List.drop_left' (jx _ _ hpp)];exact h9
  have hzl:b.length=ys.length+hs.length:=(by rw[i5,aN]);obtain⟨rfl,⟨k1,m1,s1,l1,a1⟩,⟨k2,m2,s2,l2,a2⟩,rfl,hpis⟩:=vf (show 0<iv (.mk k' Y s' J a') by omega);obtain⟨_,_,hab,_,_,_,hWA,hWB⟩:=i3.two (.inr (.inr rfl));refine rF 5 ?_;cases hab;rw[if_neg Z] at hWB;have hzz:1+(ie.mk k1 m1 s1 l1 a1).size+(ie.mk k2 m2 s2 l2 a2).size=(ie.mk 5 Y s' J [.mk k1 m1 s1 l1 a1,.mk k2 m2 s2 l2 a2]).size-iG J:=(by simp only[ie.size,ij];omega);have hl0:J=[]:=(by
   rcases i3.2.2 with h|h|h|h|h
   .omega
   .omega
   .omega
   .exact h.2.2.2.1
   .omega)
  subst hl0;simp only[iG,eB] at hzz;have hha:=uQ (gl:=gl) x.sd _ k1 m1 s1 l1 a1 (ae _) O;refine ni 3 iQ iY ?_ (hat:=rfl);refine ma 6 [0,1,2,3,4,5] mixed ?_;refine qB 6 hha ?_;refine ga [7] ?_;refine iB<|rF 7 ?_;refine xo (ι:=List ie) (λC=>[]) (λC=>[pX x m C.length r,pA C,WM nm k n s ls e,zO,.row 3 1,tO 5 Y s' [] [.mk k1 m1 s1 l1 a1,.mk k2 m2 s2 l2 a2],tO ku mu su lu au,tO k1 m1 s1 l1 a1]) [12,11,10,9,8,5,4,3,0] (λC=>NA sg ps C/\∃hs2,C=ys++hs2/\hs2.length<=j+1/\ij hs2+hs2.length+4*(ie.mk k2 m2 s2 l2 a2).size<=4*(ie.mk k0 n0 s0 l0 a0).size/\TJ x.sd i F.length N (.mk k0 n0 s0 l0 a0) (j+1) (.mk k2 m2 s2 l2 a2) hs2) rfl ?_ ?_
  .refine j7 0 ?_ ?_<;>intro h15
   .refine ml 1 (b) [0,1,2,3,4,5,6,7] ?_;exact⟨i2,hs,i5,O,O,i8.QW O (by assumption)⟩
   have hqj:(U[i+j]'O)∈U:=bS _;have hpz2:=g1 _ hqj;have htl:(U.take (i+j)).length=i+j:=(by rw[bj];omega);have hyp:=xe (gl:=gl) x m r i hx b k1 m1 s1 l1 a1 (U.take (i+j)) (U[i+j]'O) ((g1.up O).take _) ⟨hpz2.1,O⟩ O i2 O O (by rw[htl];exact hWA) O;refine ma 0 [0,1,2,3,4,5,6,7,9,12,13,14,15,16,18] mixed ?_;refine ki (rs:=[8,17]) gN rfl ⟨?_,?_,trivial⟩
   .skip
    refine A4 (T:=λ_=>False) 8 rfl (yS rfl rfl (Hg NU ?_));refine A1 10 rfl (Mm ⟨_,rfl,?_⟩);refine A1 11 rfl (pa u5 vM rfl rfl rfl rfl rfl rfl O ((show(ints U).take (x.ad+(j:Int)).toNat=ints (U.take (i+j)) by rw[hx];exact xX U (i+j))) ⟨_,rfl,?_⟩);refine A2 (T:=λ_=>False) 17 rfl (yS rfl rfl (Hg NU ?_));refine A1 19 rfl (Mm ⟨_,rfl,?_⟩);refine pQ 20 u5 vM ?_ (hat:=by exact((show(ints U)[(x.ad+(j:Int)).toNat]? =some [D.v (.int .i64 (U[i+j]'O))] by rw[hx];exact AI O)));refine ga [21] ?_;refine A2 22 rfl (iX RF rfl rfl rfl rfl (hyp) [0,1] (jN (.cons rfl .buf .nil)) rfl rfl rfl rfl (jw (oq (jw (jw .nil)))) (λs ob' hq=>?_) (λs ob' hq=>?_));rotate_left
    .obtain ⟨_,H,_⟩:=hq;cases H
    obtain⟨⟨kY,mY,sY,lY,aY⟩,H,rfl,hq4,hq5,hq6⟩:=hq;rw[hmp] at hq6;cases H;refine⟨_,_,_,_,_,rfl,rfl,rfl,rfl,rfl,?_⟩;refine A2 23 rfl (ck RG rfl rfl (r9 x m r b kY mY sY lY aY O) [0,1] rfl (jN (.cons rfl .buf .nil)) (jw (jw .nil)) ?_);refine iB<|ml 0 (b++[.mk kY mY sY lY aY]) [0,1,2,3,4,5,6,7] ?_;exact⟨i2.app hq4,hs++[.mk kY mY sY lY aY],by rw[i5,bq],by rw[aN];simp only[aj,aH];omega,by rw[mS,aN];simp only[ij,aj,aH];omega,i8.rc O (by assumption) O (hbE.Bu (wW i) hrl O) (hbE.get hrl O O) hq6⟩
   .skip
    refine A4 (T:=λ_=>False) 17 rfl (yS rfl rfl (Hg NU ?_));refine A1 19 rfl (Mm ⟨_,rfl,?_⟩);refine pQ 20 u5 vM ?_ (hat:=by exact((show(ints U)[(x.ad+(j:Int)).toNat]? =some [D.v (.int .i64 (U[i+j]'O))] by rw[hx];exact AI O)));refine ga [21] ?_;refine A2 (T:=λ_=>False) 8 rfl (yS rfl rfl (Hg NU ?_));refine A1 10 rfl (Mm ⟨_,rfl,?_⟩);refine A1 11 rfl (pa u5 vM rfl rfl rfl rfl rfl rfl O ((show(ints U).take (x.ad+(j:Int)).toNat=ints (U.take (i+j)) by rw[hx];exact xX U (i+j))) ⟨_,rfl,?_⟩);refine A2 22 rfl (iX RF rfl rfl rfl rfl (hyp) [0,1] (jN (.cons rfl .buf .nil)) rfl rfl rfl rfl (jw (oq (jw (jw .nil)))) (λs ob' hq=>?_) (λs ob' hq=>?_));rotate_left
    .obtain ⟨_,H,_⟩:=hq;cases H
    obtain⟨⟨kY,mY,sY,lY,aY⟩,H,rfl,hq4,hq5,hq6⟩:=hq;rw[hmp] at hq6;cases H;refine⟨_,_,_,_,_,rfl,rfl,rfl,rfl,rfl,?_⟩;refine A2 23 rfl (ck RG rfl rfl (r9 x m r b kY mY sY lY aY O) [0,1] rfl (jN (.cons rfl .buf .nil)) (jw (jw .nil)) ?_);refine iB<|ml 0 (b++[.mk kY mY sY lY aY]) [0,1,2,3,4,5,6,7] ?_;exact⟨i2.app hq4,hs++[.mk kY mY sY lY aY],by rw[i5,bq],by rw[aN];simp only[aj,aH];omega,by rw[mS,aN];simp only[ij,aj,aH];omega,i8.rc O (by assumption) O (hbE.Bu (wW i) hrl O) (hbE.get hrl O O) hq6⟩
  .rintro C hcut
   try dsimp only at hcut
   refine ni 3 iQ iY ?_ (hat:=rfl);refine jS 7 ?_;refine ml 2 (j+1,⟨k2,m2,s2,l2,a2⟩,C) [0,1,2,3,4,5,6] ?_;exact⟨⟨O,hcut.1,(by rw[show(i:Int)+((j+1:Nat):Int)=i+j+1 by omega];exact hWB),O,hcut.2⟩,show N-(j+1)<N-j by omega⟩
end
end Go.Proofs.YtndbnldjidciiaaGreatDoor
