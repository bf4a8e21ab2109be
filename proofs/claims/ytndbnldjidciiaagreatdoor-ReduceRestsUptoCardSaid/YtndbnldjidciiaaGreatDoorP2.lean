/-
  What is proved here: lemmas of part 2, for the theorem of the last part.
-/
import Derived.Test.YtndbnldjidciiaaGreatDoorP1
import Derived.Laws.OwnMore
import Derived.Deep.Upon
import Derived.Test.YtndbnldjidciiaaGreatDoorRows
import Derived.KernelRfl
import Derived.ProofKit
import Derived.LaidMore
import Derived.OpenShut
import Derived.Carry
import Derived.Stop.Joined
import Derived.LaidEql
import Derived.RowKitTokens
set_option linter.unusedSimpArgs false
set_option linter.unusedVariables false
set_option linter.unusedSectionVars false
namespace Go.Vd
variable{α ι ρ σ B C F G GL H I J K L M N P Pn Q Q' R S T T' V W X Y a args argsc at' c cap cap' ds e es first fr fuel g g' h hi i ix j k2 l l' ls' m m' n n' n0 o o' ob ob' or p pl pq q q2 r s sl sl' svs sx t ti ts u us v vs w w' wD x y yt z}
open Go Go.RowKit
theorem nk.split{m:Mem}:∀{l r:List D} {vs:List Value},nk m (l++r) vs->nk m l (vs.take l.length)/\nk m r (vs.drop l.length)
 |[],r,vs,h=>by simpa[nk] using h
 |d::l,r,vs,h=>by
  obtain⟨x,k,e,h1,h2⟩:=h;subst e;have b:=nk.split h2;exact⟨⟨x,_,by simp,h1,b.1⟩,by simpa using b.2⟩
theorem Rt{m:Mem}{i:Nat}:∀{ls:List (List D)} {b:List Value} {r:Nat} {el:List D},(∀ x∈ls,x.length=i)->nk m ls.flatten b->ls[r]? =some el->nk m el ((b.drop (r*i)).take i)
 |[],_,r,el,_,_,h=>by simp at h
 |a::ls,b,0,el,U,hd,h=>by
  simp at h;subst h;have:=(nk.split (l:=a) (r:=ls.flatten) (by simpa using hd)).1;rw[U a (by simp)] at this
  simpa using this
 |a::ls,b,r+1,el,U,hd,h=>by
  have c:=(nk.split (l:=a) (r:=ls.flatten) (by simpa using hd)).2;rw[U a (by simp)] at c;have:=Rt (λx e=>U x (by simp[e])) c (r:=r) (by simpa using h);rw[List.drop_drop] at this
  rwa [show(r+1)*i=i+r*i by rw[bQ];omega]
theorem DV{k:Nat}:∀{ls:List (List D)},(∀ x∈ls,x.length=k)->ls.flatten.length=ls.length*k
 |[],_=>by simp
 |a::ls,h=>by
  simp only[eZ,aN,aj];rw[h a (by simp),DV λx b=>h x (by simp[b]),bQ];omega
theorem Rr{m:Mem}{z:Nat}:∀{ls:List (List D)} {b:List Value} {r:Nat} {ds:List D} {vs:List Value},(∀ x∈ls,x.length=z)->nk m ls.flatten b->r<ls.length->ds.length=z->nk m ds vs->nk m (ls.set r ds).flatten (b.take (r*z)++vs++b.drop (r*z+z))
 |[],_,r,_,_,_,_,h,_,_=>by simp at h
 |a::ls,b,0,ds,vs,U,hd,_,j,i=>by
  have q:=(nk.split (l:=a) (r:=ls.flatten) (by simpa using hd)).2;rw[U a (by simp)] at q
  simpa using i.append q
 |a::ls,b,r+1,ds,vs,U,hd,h,j,i=>by
  have c:=nk.split (l:=a) (r:=ls.flatten) (by simpa using hd);rw[U a (by simp)] at c;have y:=Rr (λx s=>U x (by simp[s])) c.2 (r:=r) (ds:=ds) (vs:=vs) (by simpa using h) j i;have s:=c.1.length;have e:b.take ((r+1)*z)++vs++b.drop ((r+1)*z+z)=b.take z++((b.drop z).take (r*z)++vs++(b.drop z).drop (r*z+z)):=by
   rw[List.drop_drop,show(r+1)*z+z=z+(r*z+z) by rw[bQ];omega,show(r+1)*z=z+r*z by rw[bQ];omega,List.take_add];simp only[bq]
  rw[List.set_cons_succ,eZ,e];exact c.1.append y
theorem yJ{α:Type}(z:List α):∀(n i:Nat),i<n*z.length->(List.replicate n z).flatten[i]? =z[i%z.length]?
 |0,i,h=>O
 |n+1,i,h=>by
  rw[List.replicate_succ,eZ,cH];split
  .rename_i b;rw[Nat.mod_eq_of_lt b]
  .rename_i b;rw[yJ z n _ (by rw[bQ] at h;omega)];rw[Nat.mod_eq_sub_mod (by omega:z.length<=i)]
theorem CV(c:z.size=q)(n):(madeCells z (n*q)).toList=(List.replicate n z.toList).flatten:=by
 apply eX;intro i;by_cases b:i<n*q
 .have j:0<q:=Nat.pos_of_ne_zero λh=>by rw[h,Nat.mul_zero] at b;omega
  have U:i%z.size<z.size:=Nat.mod_lt _ O;have e:z.toList.length=q:=by simp[c]
  rw[yJ _ n i (by rw[e];exact b)];simp only[madeCells,eV,Array.toList_range,bt,fb b,bH,e];rw[getElem!_pos z _ U,dz,eU (by rw[<- c];exact U)];simp only[c]
 .rw [cW (by rw[eY,size_madeCells];omega),cW];rw[List.length_flatten,fc,List.sum_replicate_nat];simp only[eY,c];omega
theorem qg(e:P.underlying T=some (.slice (iH P T).elem))(h:o.op=.call { callee:=.builtin .len,args:= #[x],argTypes:= #[T] })
 (j:jb c σ.sl x=some (.arr i m)) (q:K (fE m) []):ik P c o σ K:=nG λB g a w k=>by
 obtain⟨b,cap,_,U⟩:=k.oe j;exact⟨fE m,.int .i64 m,λr=>by simp[execOp,h,U,resolve,invoke,builtin,Builtin.len_,run_underlying e,goInt],rfl,q⟩
theorem AV{y:List Ob}(i:jX z y g w){q e F:Nat}{j:List (List D)}(r:y[q]? =some (.buf e F j C)){h m:Nat}(s:g.gs[q]? =some (.row G h m)):
 m=j.length/\(∀ x∈j,x.length=F)/\(∃ U,w.ownsRow 0 e F (.slice (G.map λc=>⟨c,0,none⟩) m h) m U/\nk g.m j.flatten U/\∀u∈U,u.oneCell'=true)/\∀c,G=some c->∀o,g.m c o=none:=⟨(i.qM _ _ _ r s).1,(i.qM _ _ _ r s).2.1,(i.qM _ _ _ r s).2.2.1,(i.qM _ _ _ r s).2.2.2.1⟩
theorem ab4{h:List Ob}(j:jX i h g w){q e z:Nat}{s:List (List D)}(x:h[q]? =some (.buf e z s (some r))){c m:Nat}(y:g.gs[q]? =some (.row C c m)):r=(C,c):=(j.qM _ _ _ x y).2.2.2.2 r rfl
theorem mH{k q m:Nat}{R:List (List D)}{j:Int}(S:P.underlying T=some (.slice (iH P T).elem))(H:iH P (iH P T).elem=y)(c:y.ok=true)(V:y.size=k)(W:o.op=.indexAddr T x i)
 (Y:jb s σ.sl x=some (.arr q m)) (hi:jb s σ.sl i=some (.d (.v (.int G j)))) (hq:jo q σ.ob=some (.buf e k R M)) (z:0<=j/\j<m) (hK:K (.bp q (j.toNat*k)) []):ik P s o σ K:=nG λB g a w C=>by
 obtain⟨h0,h1⟩:=z;obtain⟨b,cap,I,J⟩:=C.oe Y;obtain⟨hm,_,⟨xs,U,_⟩,_⟩:=AV C.store (iS hq) I;cases b with
 |none=>
  exfalso
  rcases U.2 with⟨_,r⟩|⟨g0,c0,cur,r,_⟩
  .omega
  .cases r
 |some b=>
  have r:a.eval i=.int G j:=C.oe hi;rw[<- H] at c;obtain⟨inf,d,F,hd',h,_⟩:=Be c;refine⟨.bp q (j.toNat*k),.pointer (some ⟨b,j.toNat*k,none⟩),λw'=>?_,⟨b,cap,m,I,rfl⟩,hK⟩;rw[H,V] at h;simp only[bH] at J;simp[execOp,W,J,r,Instr.indexAt,run_underlying S,asIntOf,h0,h1,sizeOf,typeInfo,F,<-h,pU]
theorem tC{n0:Nat}{n t:Nat}{M:List (Nat×SV)}{R:List Ob}{q c r k:Nat}{ls:List (List D)}{I:List D}(hT:iH P S=J)(V:J.ok=true)(s:J.agg=true)(ho:o.op=.load S x)(hd:o.dst=some t)(ht:Nat.blt t n=true)
 (hx:jb GL M x=some (.bp q c)) (hi:jo q R=some (.buf e k ls pq)) (hk:J.size=k) (z:c=r*k) (W:ls[r]? =some I) (h:K ⟨n,(t,.d (.agg I))::M,R⟩):jI P GL n0 Pn T o ⟨n,M,R⟩ K:=
 wU hd ht λB g a w hr=>by
  subst hT;obtain⟨b,cap,m,hb,hv⟩:=hr.oe hx;obtain⟨hm,hl,⟨xs,C,Y,_⟩,_⟩:=AV hr.store (iS hi) hb;have F:=Rt hl Y W;have hr0:=(aJ.1 W).1;have G:((xs.drop (r*k)).take k).length=(iH P S).size:=by rw[F.length,hk];exact hl I (aO W)
  have i:=(zw (b:=b) C).2;have U:=r5 V (w:=w) (b:=b) (off:=c) G (λj y H=>by
   rw[cB] at H;split at H
   .rw [bX] at H;rw[z];exact i _ y H
   .cases H) (λhn=>by rw[s] at hn;cases hn)
  rw[s] at U;exact⟨.d (.agg I),.agg ⟨(xs.drop (r*k)).take k⟩,by simp only[execOp,ho,hv,Instr.loadAt,Instr.sureAddr,Sem.run_bind,Sem.run_pure,U,Result.andThen_ok,if_true],⟨_,rfl,F⟩,h⟩
theorem o6{n0:Nat}{n:Nat}{sl:List (Nat×SV)}{ob R:List Ob}{ty:TypeId}{q i r k:Nat}{S:List SV}{ds:List D}{V:List (List D)}(hT:iH P ty=F)(hok:F.ok=true)(ho:o.op=.store ty x y)(hd:o.dst=none)
 (hx:jb GL sl x=some (.bp q i)) (hy:jb GL sl y=some s) (hi:jo q ob=some (.buf e k V pq)) (hk:F.size=k) (hc:rk F.agg s=some S) (hcd:Am S=some ds) (hsz:Nat.beq S.length F.size=true) (G:pH S=true) (hno:py q ob=true) (z:i=r*k/\r<V.length)
 (hob:pD q (.buf e k (V.set r ds) pq) ob=some R) (h:K ⟨n,sl,R⟩):jI P GL n0 Pn (λj=>j=q) o ⟨n,sl,ob⟩ K:=λB hB g a w W next Q hK hP=>by
 subst hT;obtain⟨z,hr0⟩:=z;obtain⟨b,cap,m,hb,hpx⟩:=W.oe hx;have M:=iS hi;obtain⟨hm,hl,⟨xs,H,hdx,Y⟩,hmn⟩:=AV W.store M hb;rcases H.2 with⟨h2,_⟩|⟨b1,cap1,U,e1,_,hh,hle,hcm,hcs,htk⟩
 .cases h2
 simp only[bH,Value.slice.injEq,an,Addr.mk.injEq] at e1;obtain⟨⟨rfl,_,_⟩,_,rfl⟩:=e1;obtain⟨F,d,hinf,hdd,hsi,_⟩:=Be hok;have C:=tN hc (W.oe hy);have I:=iN.p9 _ C hcd;have hcl:=C.length;have hsz':S.length=(iH P ty).size:=by simpa using hsz
 have hnl:(a.eval y).cells.toList.length=k:=O;have hdl:ds.length=k:=by have:=I.length;omega
 have hin:i+k<=m*k:=by rw[z,hm];have:=dT k (show r+1<=V.length by omega);rw[bQ] at this;omega
 have hin2:m*k<=cap*k:=dT k hle;have hst:=run_storeCells_at (P:=P) b i e (a.eval y).cells.toList 0 U w hh O (uk G C);simp only[b6] at hst;have J:(execOp a.eval o).run P w=.ok .skip (w.setRow b (U.toList.take i++(a.eval y).cells.toList++U.toList.drop (i+(a.eval y).cells.toList.length)).toArray):=by
  have hsz2:(a.eval y).cells.size=F.size:=by simpa using(show(a.eval y).cells.toList.length=F.size by omega)
  simp only[execOp,ho,hpx,Instr.storeAt,Instr.sureAddr,storeVar,sizeOf,typeInfo,Sem.run_bind,Sem.run_pure,Result.andThen_ok,run_program,hinf,hsz2];simp only[ne_eq,not_true_eq_false,if_false];rw[hst];simp
 rw[hnl] at J;unfold Oper.wp;rw[J];show next (a.put o.dst _) _
 rw[hd];have hcurl:U.toList.length=cap*k:=by simpa using hcs
 have hxl:=H.1;have hx1:xs.take i=U.toList.take i:=by rw[<- htk,cO,b8 O]
 have hx2:xs.drop (i+k)=(U.toList.drop (i+k)).take (m*k-(i+k)):=by rw[<- htk,List.drop_take]
 have hnew:(w.setRow b (U.toList.take i++(a.eval y).cells.toList++U.toList.drop (i+k)).toArray).ownsRow 0 e k (.slice ((some b).map λc=>⟨c,0,none⟩) m cap) m (xs.take i++(a.eval y).cells.toList++xs.drop (i+k)):=by
  refine⟨?_,.inr ⟨b,cap,_,rfl,ak _,setRow_heap w b _ _ _ _ hh,hle,hcm,?_,?_⟩⟩
  .simp only[aN,bj,bK];omega
  .simp only[dh,aN,bj,bK];omega
  .rw [hx1,hx2];show List.take (m*k) (U.toList.take i++(a.eval y).cells.toList++U.toList.drop (i+k))=_;have hpl:(U.toList.take i++(a.eval y).cells.toList).length=i+k:=by simp only[aN,bj];omega
   rw[di,hpl,aS O]
 have hset:=nL hob;obtain⟨h1,h2⟩:=W.NL (w':=w.setRow b (U.toList.take i++(a.eval y).cells.toList++U.toList.drop (i+k)).toArray) (o':=.buf e k (V.set r ds) pq) M hb rfl ⟨rfl,rfl,rfl,by simp,λc _ hc=>setRow_other w _ _ _ hc⟩
  ⟨by
   rw[da];exact hm,λx hx=>by
   rcases List.mem_or_eq_of_mem_set hx with h3|h3
   .exact hl x h3
   .rw [h3];exact hdl,⟨_,hnew,by rw[z];exact Rr hl hdx hr0 hdl I,λu hu=>by
   simp only[bn] at hu;rcases hu with(hu|hu)|hu
   .exact Y u (bJ hu)
   .exact uk G C u hu
   .exact Y u (cF hu)⟩,hmn,(W.store.qM _ _ _ M hb).2.2.2.2⟩ (.inl rfl) (rD hno) (λk f dn U e=>by cases e) (hmn b rfl)
 rw[<- hset.1] at h1;exact hK _ _ _ _ h1 h2 h
theorem FB{ty:TypeId}(TS:rX P ty e y C)(hT:iH P e=ti)(ho:o.op=.makeSlice ty x x)
 (hd:o.dst=some t) (ht:Nat.blt t n=true) (Y:jb GL sl x=some (fE (c:Nat))) (G:ti.zero.all (·.oneCell')=true) (hl:S.length=j) (hb:C*c<=281474976710656/\c<=maxLen) (hob:pY S [.buf e y (List.replicate c (ti.zero.map .v)) none]=some W)
 (h:K ⟨n,(t,.arr j c)::sl,W⟩):jI P GL n0 Pn T o ⟨n,sl,S⟩ K:=λB hB g a w hr next Q hK hP=>by
 subst hl hT;obtain⟨hb2,hb3⟩:=hb;rw[nM hob] at h;have U:=TS.info;have k:=TS.zero;cases hi:P.info? e with
 |none=>simp[hi] at U
 |some i=>
 rw[hi] at U k;simp only[bH,an,bW,cw] at U k;cases hz:i.zero with
 |none=>simp[hz] at k
 |some z=>
 rw[hz] at k;simp only[bH,an] at k;obtain⟨q1,q2⟩:=U;have hze:(iH P e).zero=z.cells.toList:=by simp[iH,hi,hz]
 rw[hze] at h G;have hxe:a.eval x=.int .i64 (c:Nat):=hr.oe Y;obtain⟨w',H,I,hgr⟩:=run_make_full (P:=P) w 0 ty e i z y TS.under hi hz q1 .i64 .i64 c (by rw[q2];exact hb2) hb3 (ak _);have F:(i.bytes:Int)*(c:Int)<=281474976710656:=by
  have h:((i.bytes*c:Nat):Int)<=281474976710656:=by rw[q2];omega
  rwa [eI] at h
 have q:=run_make (P:=P) w ty e i z TS.under hi hz .i64 .i64 (c:Int) (c:Int) O (aP _) F (by simp[maxLen] at hb3;omega);simp only[cb] at q;rw[q] at H;cases H;have J:(execOp a.eval o).run P w=.ok (.value (.slice (some ⟨w.heap.size,0,none⟩) c c)) (w.alloc (.cells (madeCells z.cells (c*i.size)) e)):=by
  simp only[execOp,ho,hxe,Sem.run_bind,q,Result.andThen_ok,Sem.run_pure]
 unfold Oper.wp;rw[J];show next (a.put o.dst _) _
 rw[hd];have hm0:∀o,g.m w.heap.size o=none:=λo=>by
  cases Y:g.m w.heap.size o with
  |none=>rfl
  |some x=>have:=hr.store.rB Y;omega
 have M:∀u∈z.cells.toList,u.oneCell'=true:=λu V=>List.all_eq_true.1 G u V
 have R:((List.replicate c (z.cells.toList.map D.v)).flatten)=((List.replicate c z.cells.toList).flatten).map D.v:=by
  rw[List.map_flatten,fc]
 have hdv:∀l:List Value,nk g.m (l.map D.v) l:=λl=>by
  induction l with
  |nil=>rfl
  |cons x r ih=>exact⟨x,r,rfl,rfl,ih⟩
 rw[CV k] at I;obtain⟨h1,h2⟩:=hr.Eh (w':=w.alloc (.cells (madeCells z.cells (c*i.size)) e)) ((Fr.refl _ w).alloc _) (pV.refl _) (λb o x h1 h2=>by rw[h2] at h1;cases h1) (o':=.buf e y (List.replicate c (z.cells.toList.map .v)) none) (pl:=.row (some w.heap.size) c c)
  ⟨by simp,λx Y=>by rw[(eJ.1 Y).2];simpa using k,⟨_,I,by rw[R];exact hdv _,λu V=>by
   obtain⟨l,hl,V⟩:=List.mem_flatten.1 V;rw[(eJ.1 hl).2] at V;exact M u V⟩,(λc hc o=>by cases hc;exact hm0 o),λr e=>by cases e⟩ (λb hb=>by simp only[jP,np,an] at hb;omega) (λi f dn cur e=>by cases e)
 refine hK _ _ _ _ (h1.wQ (s:=.arr S.length c) ht ⟨some w.heap.size,c,?_,rfl⟩) ⟨h2.1,λi b o _=>h2.2 i b o (λx=>x)⟩ h;show(g.gs++[_])[S.length]? =_;have hl2:S.length=g.gs.length:=hr.store.len;rw[hl2];simp
theorem jE.Rc(h:jE GL B ⟨n,sl,ob⟩ g a w)(W:ob[i]? =some o)(Y:∀f,o≠ .jc f)(I:g.gs[i]? =some pl)
 (F:pV g.m m') (hF:Fz i q ds g ⟨m',g.gs⟩) (hsat:∀c off x,m' c off=some x->w.cell? ⟨c,off,none⟩=some x/\x.oneCell'=true) (G:∀c off,g.m c off=none->(jP o pl c->False)->m' c off=none)
 (hsl:AK i q ds sl=some V) (hob:AL i q ds ob=some H):jE GL B ⟨n,V,H.set i .dead⟩ ⟨m',g.gs⟩ a w:=by
 have U:=BT hob;have y:=(aJ.1 W).1;have hlen:=h.store.len;have hneb:∀(j:Nat) oj pj c,j≠i->ob[j]? =some oj->g.gs[j]? =some pj->jP oj pj c->jP o pl c->False:=λj oj pj c s r S z e=>
  s (h.store.xk j i oj o pj _ c r W S I z e)
 refine⟨h.defers,h.size,λt=>BS hF hsl (h.j9 t),?_,?_⟩
 .refine h.store.step (p:=λj=>j=i) F (λ_ _ h=>h) (λ_ _ _ h=>h) hsat (by simp[U.1,hlen]) (λj o1 s r=>?_) (λj k f dn J r=>?_) (λj k f dn J s r hk=>?_)
   (λj o1 q c s r S z=>⟨rfl,λoff hn=>?_⟩) (λj o1 s r=>?_) (λj o1 q c s r S z=>?_) (λi j oi oj pi pj b hi s _ _ _ _ _ _=>hi.trans s.symm)
  .rw [bg (bd s)] at r;obtain⟨o,M,C⟩:=U.2 j o1 r;exact⟨o,M,(Ob.yh hF C).1⟩
  .by_cases s:j=i
   .subst s;rw[bz (by rw[U.1];exact y)] at r;cases r
   .rw [bg (bd s)] at r;obtain⟨o0,M,C⟩:=U.2 j _ r;have e3:=(Ob.yh hF C).2.1 _ _ _ _ rfl;subst e3;have R:=h.store.th j k f dn J M;have hk:k≠i:=λe=>by subst e;rw[W] at R;cases R;exact Y f rfl
    rw[bg (bd hk)];have hkl:=(aJ.1 R).1;obtain⟨o5,e5,e6⟩:=U.2 k H[k] (by simp[U.1,hkl]);rw[R] at e5;cases e5;rw[aZ (by rw[U.1];exact hkl),(Ob.yh hF e6).2.2 f rfl]
  .rw [bg (bd s)] at r;obtain⟨o0,M,C⟩:=U.2 j _ r;have e3:=(Ob.yh hF C).2.1 _ _ _ _ rfl;subst e3 hk;have R:=h.store.th j k f dn J M;rw[W] at R;cases R;exact Y f rfl
  .exact G c off hn (hneb j o1 q c s r S z)
  .subst s;rw[bz (by rw[U.1];exact y)] at r;cases r;exact⟨_,I,trivial⟩
  .subst s;rw[bz (by rw[U.1];exact y)] at r;cases r;cases z
 .refine h.pG.step (X:=λc=>jP o pl c) (Fr.refl _ w) (λc e=>h.pG.own i _ _ c W I e) F (λc off x hx hn=>?_) (λj o1 p c r S z=>?_) (λ_ _ h=>h)
  .refine .inl (dj λhc=>?_);have:=G c off hn hc;simp only at hx;rw[this] at hx;cases hx
  .by_cases s:j=i
   .subst s;rw[bz (by rw[U.1];exact y)] at r;cases r;cases z
   .rw [bg (bd s)] at r;obtain⟨o0,M,C⟩:=U.2 j o1 r;refine .inl (h.pG.own j o0 p c M S ?_);cases o0<;>simp only[Ob.fz,ai,an] at C
    case cells l ty=>obtain⟨l',_,rfl⟩:=C;cases p<;>exact z
    all_goals (subst C;exact z)
theorem x7{m:Mem}{q s:Nat}:∀{ls:List (List D)} {c:List Value} {off:Nat},(∀ x∈ls,x.length=q)->nk m ls.flatten c->(∀ i x,c[i]? =some x->m s (off+i)=some x)->nT m q s off ls
 |[],_,_,_,_,_=>trivial
 |a::ls,c,off,h,hd,j=>by
  have e:=nk.split (l:=a) (r:=ls.flatten) (by simpa using hd);have ha:=h a (by simp);rw[ha] at e;refine⟨⟨ha,oU.BE e.1 λi x U=>?_⟩,x7 (λx U=>h x (by simp[U])) e.2 λi x U=>?_⟩
  .rw [cB] at U;split at U
   .exact j i x U
   .cases U
  .rw [bX] at U;have:=j _ x U
   rwa [show off+q+i=off+(q+i) by omega]
theorem jE.XT{n:Nat}{sl I:List (Nat×SV)}{W J:List Ob}(h:jE GL B ⟨n,sl,W⟩ g a w){i e k:Nat}{H:List (List D)}(M:W[i]? =some (.buf e k H pq))
 (R:AK i (some (k,H)) [] sl=some I) (S:AL i (some (k,H)) [] W=some J):∃g',jE GL B ⟨n,I,J.set i .dead⟩ g' a w:=by
 obtain⟨pl,U⟩:=h.store.place M;have Y:=h.store.qM _ _ _ M U;cases pl with
 |loc b=>exact Y.elim
 |row b c m=>
  obtain⟨hm,hl,⟨xs,z,hdx,h1x⟩,hmn⟩:=AV h.store M U;cases b with
  |none=>
   have hm0:m=0:=by
    rcases z.2 with⟨_,h2⟩|⟨g0,c0,cur,h2,_⟩
    .exact h2
    .cases h2
   have F:H=[]:=bE.1 O;refine⟨⟨g.m,g.gs⟩,h.Rc (q:=some (k,H)) (ds:=[]) M (λf e=>by cases e) U (pV.refl _) ⟨pV.refl _,λ_ _ h=>h,λb G=>trivial,λr n y hr hd=>?_⟩ h.store.sat (λ_ _ h _=>h) R S⟩;cases hr;obtain⟨b',cap,G,e⟩:=hd;rw[U] at G;cases G;exact⟨none,c,by rw[e,F,hm0];rfl,by simp[F],λh=>absurd F h⟩
  |some b=>
   have C:=zw (b:=b) z;have j:pV g.m (oQ g.m b xs):=pV.set λoff x s=>by rw[hmn b rfl] at s;cases s
   refine⟨⟨oQ g.m b xs,g.gs⟩,h.Rc (q:=some (k,H)) (ds:=[]) M (λf e=>by cases e) U j ⟨j,λ_ _ h=>h,λb G=>trivial,λr n y hr hd=>?_⟩ (λc' off x s=>?_) (λc' off hn hc=>?_) R S⟩
   .cases hr;obtain⟨b',cap,G,e⟩:=hd;rw[U] at G;cases G;refine⟨some ⟨b,0,none⟩,c,by rw[e,hm];rfl,by rw[<- hm];exact C.1,λ_=>⟨b,0,rfl,?_⟩⟩;refine x7 hl (nk.mono j _ hdx) λi x s=>?_
    show oQ _ _ _ _ _=_;unfold oQ;rw[if_pos rfl,bU];exact s
   .simp only[oQ] at s;by_cases V:c'=b
    .subst V;rw[if_pos rfl] at s;exact⟨C.2 off x s,h1x x (aO s)⟩
    .rw [if_neg V] at s;exact h.store.sat c' off x s
   .unfold oQ;rw[if_neg (λe=>hc (by rw[e];rfl))];exact hn
theorem yR(i)(M:jo i x=some (.buf e V y J))(z:AK i (some (V,y)) [] I=some j)(C:AL i (some (V,y)) [] x=some q)(s:pD i .dead q=some r)
 (h:iL P F G H c l Q ⟨n,j,r⟩):iL P F G H c l Q ⟨n,I,x⟩:=λB U a w ⟨g,R⟩=>by
 obtain⟨S,b⟩:=R.XT (iS M) z C;rw[<- (nL s).1] at b;exact h B U a w ⟨S,b⟩
def L6(r:Option Nat×Nat)(m:Nat):D:=.v (.slice (r.1.map λb=>⟨b,0,none⟩) m r.2)
theorem jE.ag0(h:jE R B ⟨n,I,F⟩ g a w){k:Nat}(G:F[i]? =some (.buf e k J pq))(ht:oV t I=some (.arr i m))(htn:Nat.blt t n=true):
 ∃r,jE R B ⟨n,(t,.d (L6 r m))::I,F.set i (.buf e k J (some r))⟩ g a w:=by
 have hd:=h.j9 t;have hv:(SV.arr i m).Den g (a.tmps.getD t undef):=by rw[<- ou ht];exact hd
 obtain⟨b,cap,S,H⟩:=hv;have y:=h.store.qM _ _ _ G S;have z:=(aJ.1 G).1;refine⟨(b,cap),h.defers,h.size,λt'=>?_,?_,?_⟩
 .rw [n5];split
  .rename_i e;subst e;exact H
  .exact h.j9 t'
 .refine ⟨by simpa using h.store.len,λj o p U s=>?_,λj q f dn M U=>?_,λV W oi oj pi Y c U s C h4 h5 h6=>?_,h.store.sat,h.store.Pe⟩
  .by_cases x:j=i
   .subst x;rw[bz z] at U;cases U;rw[S] at s;cases s;exact⟨y.1,y.2.1,y.2.2.1,y.2.2.2.1,λr e=>by cases e;rfl⟩
   .rw [bg (bd x)] at U;exact h.store.qM j o p U s
  .have x:j≠i:=λe=>by subst e;rw[bz z] at U;cases U
   rw[bg (bd x)] at U;have s:=h.store.th j q f dn M U;have hq:q≠i:=λe=>by subst e;rw[G] at s;cases s
   rw[bg (bd hq)];exact s
  .have key:∀(j:Nat) o p c,(F.set i (.buf e k J (some (b,cap))))[j]? =some o->g.gs[j]? =some p->jP o p c->∃o0,F[j]? =some o0/\jP o0 p c:=λj o p c U s C=>by
    by_cases x:j=i
    .subst x;rw[bz z] at U;cases U;exact⟨_,G,by cases p<;>exact C⟩
    .rw [bg (bd x)] at U;exact⟨o,U,C⟩
   obtain⟨o1,a1,a2⟩:=key V oi pi c U C h5;obtain⟨o2,b1,b2⟩:=key W oj Y c s h4 h6;exact h.store.xk V W o1 o2 pi Y c a1 b1 C h4 a2 b2
 .refine ⟨h.pG.fr,h.pG.mem,h.pG.new,λj o p c U s C=>?_,h.pG.at'⟩;by_cases x:j=i
  .subst x;rw[bz z] at U;cases U;exact h.pG.own j _ p c G s (by cases p<;>exact C)
  .rw [bg (bd x)] at U;exact h.pG.own j o p c U s C
theorem jE.Zr(h:jE y B ⟨n,c,j⟩ g a w)(s:j[i]? =some (.buf e M q (some r)))(z:oV t c=some (.d (L6 r m)))(C:m=q.length):
 jE y B ⟨n,(t,.arr i m)::c,j⟩ g a w:=by
 obtain⟨p,x⟩:=h.store.place s;have U:=h.store.qM _ _ _ s x;cases p with
 |loc b=>exact U.elim
 |row b cap F=>
  have G:=ab4 h.store s x;subst G;have H:F=q.length:=U.1;refine⟨h.defers,h.size,λI=>?_,h.store,h.pG⟩;rw[n5];split
  .rename_i e;subst e;have hd:=h.j9 t;have J:a.tmps.getD t undef=.slice (b.map λb=>⟨b,0,none⟩) m cap:=by
    have:(SV.d (L6 (b,cap) m)).Den g (a.tmps.getD t undef):=by rw[<- ou z];exact hd
    exact this
   exact⟨b,cap,by rw[C,<-H];exact x,J⟩
  .exact h.j9 I
theorem LF(i t)(J:jo i q=some (.buf e Y I M))(R:oV t s=some (.arr i m))(x:Nat.blt t n=true)
 (h:∀r ob',pD i (.buf e Y I (some r)) q=some ob'->iL P F G H c l Q ⟨n,(t,.d (L6 r m))::s,ob'⟩):iL P F G H c l Q ⟨n,s,q⟩:=λB S a w ⟨g,V⟩=>by
 obtain⟨r,z⟩:=V.ag0 (iS J) R x;have C:=(aJ.1 (iS J)).1;have b:∀(j:Nat) (y:Ob) (l:List Ob),j<l.length->pD j y l=some (l.set j y):=by
  intro j
  induction j with
  |zero=>intro y l U;cases l with
   |nil=>simp at U
   |cons a r=>rfl
  |succ j W=>intro y l U;cases l with
   |nil=>simp at U
   |cons a r=>simp[pD,W y r (by simpa using U)]
 exact h r _ (b i _ q C) B S a w ⟨g,z⟩
theorem xL(i t)(C:jo i q=some (.buf e H z (some r)))(F:oV t j=some (.d (L6 r m)))(G:m=z.length)
 (h:iL P s x y c l Q ⟨n,(t,.arr i m)::j,q⟩):iL P s x y c l Q ⟨n,j,q⟩:=λB b a w ⟨g,U⟩=>h B b a w ⟨g,U.Zr (iS C) F G⟩
theorem jE.ae7(h:jE GL B σ g a w){b:Option Nat}{k:Nat}(ho:σ.ob[i]? =some o)(hor:o=.buf e k V W\/o=.jd e k)(M:g.gs[i]? =some (.row b cap n))(hf:Fr (λc=>b=some c/\o=.buf e k V W) w w')
 (hm:pV g.m m') (hc:(b=some c/\o=.buf e k V W)\/w.heap.size<=c)
 (G:∀d off x,m' d off=some x->g.m d off=none->d=c) (hsat:∀off x,m' c off=some x->w'.cell? ⟨c,off,none⟩=some x/\x.oneCell'=true)
 (hold:∀d off x,b=some d->g.m d off=some x->w'.cell? ⟨d,off,none⟩=some x)
 (hok:oJ ⟨m',g.gs.set i (.row (some c) cap' n')⟩ w' (.buf e k ls' none) (.row (some c) cap' n'))
 (hsl:Ix i σ.sl=some sl') (hob:Iy i σ.ob=some R):
 jE GL B ⟨σ.n,sl',R.set i (.buf e k ls' none)⟩ ⟨m',g.gs.set i (.row (some c) cap' n')⟩ a w'/\z8 (λj=>j=i) σ.ob g w ⟨m',g.gs.set i (.row (some c) cap' n')⟩ w':=by
 have hlen:=h.store.len;have hi:=(aJ.1 ho).1;have U:=zK hob;have F:(g.gs.set i (.row (some c) cap' n'))[i]? =some (.row (some c) cap' n'):=bz O;have hgs:∀(j:Nat) q,j≠i->g.gs[j]? =some q->(g.gs.set i (.row (some c) cap' n'))[j]? =some q:=λj q z hq=>by rw[bg (bd z)];exact hq
 have S:∀(j d:Nat),g.gs[j]? =some (.loc d)->(g.gs.set i (.row (some c) cap' n'))[j]? =some (.loc d):=λj d hd=>hgs j _ (λe=>by subst e;rw[M] at hd;cases hd) hd
 have hkl:Zh (λj=>Nat.beq j i) g ⟨m',g.gs.set i (.row (some c) cap' n')⟩:=⟨hm,λj q hq z=>hgs j q (λe=>by subst e;simp at z) hq,S⟩;have hbr:∀d,b=some d/\o=.buf e k V W->jP o (.row b cap n) d:=λd hd=>by rw[hd.2,hd.1];rfl
 have hne:∀(j:Nat) oj pj d,j≠i->σ.ob[j]? =some oj->g.gs[j]? =some pj->jP oj pj d->¬(b=some d/\o=.buf e k V W)/\d≠c:=λj oj pj d z r C s=>by
  have Y:¬(b=some d/\o=.buf e k V W):=λhd=>z (h.store.xk j i oj o pj _ d r ho C M s (hbr d hd))
  refine⟨Y,λe=>?_⟩;subst e;rcases hc with hc|hc
  .exact Y hc
  .have:=h.store.lt r C s;omega
 refine⟨⟨h.defers,h.size,λt=>?_,?_,?_⟩,hm,λj d oj z r C s=>⟨S j d C,hf.block d (h.store.lt r C (oF s)) (hne j oj _ d z r C (oF s)).1⟩⟩
 .show (vO t sl').Den _ _;rw[BO hsl];exact SV.Den.kill hkl _ (h.j9 t)
 .refine h.store.step (p:=λj=>j=i) hm S hgs (λd off x J=>?_) (by simp[U.1,hlen]) (λj o1 z r=>?_) (λj q f dn H r=>?_) (λj q f dn H z r hk=>?_)
   (λj o1 q d z r C s=>⟨hf.block d (h.store.lt r C s) (hne j o1 q d z r C s).1,λoff hn=>?_⟩) (λj o1 z r=>?_) (λj o1 q d z r C s=>?_) (λi j oi oj pi pj b hi z _ _ _ _ _ _=>hi.trans z.symm)
  .by_cases hdc:d=c
   .subst hdc;exact hsat off x J
   .cases hg:g.m d off with
    |none=>exact absurd (G d off x J hg) hdc
    |some y=>
     have e1:=hm d off y hg;simp only at J;rw[e1] at J;cases J;have hs:=h.store.sat d off x hg;refine⟨?_,hs.2⟩;by_cases hbd:b=some d/\o=.buf e k V W
     .exact hold d off x hbd.1 hg
     .rw [World.cell?_of_block (w:=w) (hf.block d (h.store.rB hg) hbd)];exact hs.1
  .rw [bg (bd z)] at r;obtain⟨o2,C,s⟩:=U.2 j o1 r;exact⟨o2,C,tc.kO hkl s⟩
  .by_cases z:j=i
   .subst z;rw[bz (by rw[U.1];exact hi)] at r;cases r
   .rw [bg (bd z)] at r;obtain⟨o2,C,s⟩:=U.2 j _ r;have Y:o2=.ru q f dn H:=by
     cases o2<;>simp only[Ob.kO,ai,an] at s
     case cells=>obtain⟨_,_,s⟩:=s;cases s
     all_goals (cases s;try rfl)
    subst Y;have I:=h.store.th j q f dn H C;have hq:q≠i:=λe=>by subst e;rw[ho] at I;cases I;rcases hor with hor|hor<;>cases hor
    rw[bg (bd hq)];have h6:q<R.length:=by rw[U.1];exact(aJ.1 I).1
    obtain⟨o3,h7,h8⟩:=U.2 q R[q] (by simp[h6]);rw[I] at h7;cases h7;simp[Ob.kO] at h8;rw[aZ h6,<-h8]
  .rw [bg (bd z)] at r;obtain⟨o2,C,s⟩:=U.2 j _ r;have Y:o2=.ru q f dn H:=by
    cases o2<;>simp only[Ob.kO,ai,an] at s
    case cells=>obtain⟨_,_,s⟩:=s;cases s
    all_goals (cases s;try rfl)
   have hk:q=i:=hk;subst Y hk;have I:=h.store.th j _ f dn H C;rw[ho] at I;cases I;rcases hor with hor|hor<;>cases hor
  .cases J:m' d off with
   |none=>exact J
   |some x=>exact absurd (G d off x J hn) (hne j o1 q d z r C s).2
  .subst z;rw[bz (by rw[U.1];exact hi)] at r;cases r;exact⟨_,F,hok⟩
  .subst z;rw[bz (by rw[U.1];exact hi)] at r;cases r;simp only at C;rw[F] at C;cases C;simp only[jP,np,an] at s;subst s;rcases hc with hc|hc
   .exact .inl ⟨_,o,_,rfl,ho,M,hbr _ hc⟩
   .exact .inr hc
 .have hX:∀d,b=some d/\o=.buf e k V W->B.X d\/B.w.heap.size<=d:=λd hd=>h.pG.own i o _ d ho M (hbr d hd)
  refine h.pG.step hf hX hm (λd off x J hn=>by
   have:=G d off x J hn;subst this;exact hc) (λj o1 p d r C s=>?_) S
  by_cases z:j=i
  .subst z;rw[bz (by rw[U.1];exact hi)] at r;cases r;simp only at C;rw[F] at C;cases C;simp only[jP,np,an] at s;subst s;rcases hc with hc|hc
   .exact .inl (hX _ hc)
   .exact .inr hc
  .rw [bg (bd z)] at r;simp only at C;rw[bg (bd z)] at C;obtain⟨o2,Y,I⟩:=U.2 j o1 r;refine .inl (h.pG.own j o2 p d Y C ?_);rcases(tc.kO hkl I).jk s (λ_ _=>trivial) with h6|⟨e',k',rfl⟩
   .exact h6
   .simp [Ob.kO] at I;subst I;simp[jP,np] at s
theorem Dt{m:Mem}{M R:Nat}:∀{U:List (List D)} {off:Nat},nT m M R off U->∃c,c.length=U.length*M/\nk m U.flatten c/\(∀ i x,c[i]? =some x->m R (off+i)=some x)/\∀e∈U,e.length=M
 |[],off,_=>⟨[],by simp,rfl,by simp,by simp⟩
 |e::r,off,⟨⟨j,y⟩,z⟩=>by
  obtain⟨q,s,C⟩:=y.R3;obtain⟨c,F,G,H,I⟩:=Dt z;have J:=s.length;refine⟨q++c,by simp[F,J,j,bQ];omega,by simpa using s.append G,λi x h=>?_,λa ha=>by
   rcases bh.1 ha with rfl|ha
   .exact j
   .exact I a ha⟩
  rw[cH] at h;split at h
  .exact C i x h
  .have:=H _ x h
   rwa [show off+M+(i-q.length)=off+i by omega] at this
theorem yT{n0:Nat}{n t i m:Nat}{sl sl':List (Nat×SV)}{ob ob1 ob':List Ob}{ty:TypeId}{q F:Nat}{C z:List (List D)}(TS:rX P ty e q F)(ho:o.op=.call { callee:=.builtin .append,args:= #[s,x],argTypes:= #[ty,ty] })
 (hd:o.dst=some t) (ht:Nat.blt t n=true) (hs:(jb GL sl s=some (.arr i m)/\S=.buf e q C pq)\/(jb GL sl s=some fK/\C=[]/\S=.jd e q)) (hi:jo i ob=some S) (hx:jb GL sl x=some sx) (hxD:sx.p9=some (.sl q z))
 (hsz:0<q) (hne:z≠[]) (h63:C.length+z.length<=maxLen/\(C.length+z.length)*F<=140737488355328) (hsl:Ix i sl=some sl') (hob:Iy i ob=some ob1) (hob':pD i (.buf e q (C++z) none) ob1=some ob')
 (h:K ⟨n,(t,.arr i (C++z).length)::sl',ob'⟩):jI P GL n0 Pn (λj=>j=i) o ⟨n,sl,ob⟩ K:=λB hB g a w U next Q hK hP=>by
 have G:=iS hi;rw[(nL hob').1] at h;have hrow:∃b cap xs,g.gs[i]? =some (.row b cap C.length)/\a.eval s=.slice (b.map λb=>⟨b,0,none⟩) C.length cap/\w.ownsRow 0 e q (a.eval s) C.length xs/\nk g.m C.flatten xs/\(∀ u∈xs,u.oneCell'=true)/\(∀ c,b=some c->∀o,g.m c o=none)/\(∀ x∈C,x.length=q):=by
  rcases hs with⟨hs,rfl⟩|⟨hs,rfl,rfl⟩
  .obtain ⟨b,cap,h1,h2⟩:=U.oe hs;obtain⟨hm,hl,⟨xs,H,hdx,h1x⟩,M⟩:=AV U.store G h1;subst hm;exact⟨b,cap,xs,h1,h2,by rw[h2];exact H,hdx,h1x,M,hl⟩
  .have hv:a.eval s=.slice none 0 0:=U.oe hs;obtain⟨p,hp⟩:=U.store.place G;have I:=U.store.qM _ _ _ G hp;simp only[oJ] at I;subst I;exact⟨none,0,[],hp,hv,by rw[hv];exact⟨by simp,.inl ⟨rfl,rfl⟩⟩,rfl,(by simp),(λc hc=>by cases hc),(by simp)⟩
 obtain⟨b,cap,xs,hpl,hval,H,hdx,h1x,M,hll⟩:=hrow;obtain⟨ax,capx,hvx,hlx,hdx0⟩:=SV.Den.p9 _ (U.oe hx) hxD;obtain⟨bx,V,rfl,hdx2⟩:=hdx0 hne;obtain⟨nv,hnl,hnd,hnv,hnk⟩:=Dt hdx2;have hm:0<z.length:=eG.2 hne;have R:∀j u,nv[j]? =some u->w.cell? ((⟨bx,V,none⟩:Addr).add j)=some u:=λj u hu=>by
  rw[pU];exact(U.store.sat _ _ _ (hnv j u hu)).1
 have J:∀u∈nv,u.oneCell'=true:=λu hu=>by
  obtain⟨j,hj⟩:=b7 hu;exact(U.store.sat _ _ _ (hnv j u hj)).2
 obtain⟨v',w',hrun,hrow',hfr0,k,hk1,hk2,hk3,c',rfl⟩:=QK (P:=P) (ty:=o.type) TS hsz H (a:=⟨bx,V,none⟩) (c:=capx) hnl hm R J h63.1 h63.2;have hrun2:(execOp a.eval o).run P w=.ok (.value (.slice (some ⟨k,0,none⟩) (C.length+z.length) c')) w':=by
  unfold execOp;simp only[ho,resolve,invoke,builtin,Sem.run_bind,Sem.run_pure,Result.andThen_ok,ed,bG,de,hvx,hrun]
 unfold Oper.wp;rw[hrun2];show next (a.put o.dst _) _
 rw[hd];have W:(a.eval s).ownBlock=b:=by rw[hval];cases b<;>rfl
 rw[W] at hk2;have Y:∀off,g.m k off=none:=λoff=>by
  rcases hk2 with h5|h5
  .exact M k h5 off
  .cases hx:g.m k off with
   |none=>rfl
   |some y=>have:=U.store.rB hx;omega
 have hbo:∀d,b=some d->S=.buf e q C pq:=λd hd=>by
  rcases hs with⟨_,h6⟩|⟨_,_,rfl⟩
  .exact h6
  .have I:=U.store.qM _ _ _ G hpl;simp only[oJ,Pl.row.injEq] at I;rw[I.1] at hd;cases hd
 have hor:S=.buf e q C pq\/S=.jd e q:=by
  rcases hs with⟨_,h6⟩|⟨_,_,h6⟩
  .exact .inl h6
  .exact .inr h6
 have hfr2:Fr (λc=>b=some c/\S=.buf e q C pq) w w':=hfr0.mono λc _ hc=>by
  have h8:b=some c:=by rw[<- W];exact hc.1
  exact⟨h8,hbo c h8⟩
 have hcor:(b=some k/\S=.buf e q C pq)\/w.heap.size<=k:=by
  rcases hk2 with h5|h5
  .exact .inl ⟨h5,hbo k h5⟩
  .exact .inr O
 obtain⟨h1,h2⟩:=U.ae7 (w':=w') (m':=g.m) (cap':=c') (n':=C.length+z.length) (ls':=C++z) G hor hpl hfr2 (pV.refl _) hcor (λd off y h1 h2=>by rw[h2] at h1;cases h1) (λoff y hy=>by rw[Y] at hy;cases hy) (λd off y hd hy=>by rw[M d hd] at hy;cases hy)
  ⟨by simp,λy hy=>by
   rcases bn.1 hy with hy|hy
   .exact hll y hy
   .exact hnk y hy,⟨xs++nv,hrow',by rw[List.flatten_append];exact hdx.append hnd,λu hu=>by
   rcases bn.1 hu with hu|hu
   .exact h1x u hu
   .exact J u hu⟩,(λc hc off=>by cases hc;exact Y off),λr e=>by cases e⟩ hsl hob
 refine hK _ _ _ _ (h1.wQ (s:=.arr i (C++z).length) ht ⟨some k,c',?_,by rw[aN];rfl⟩) h2 h;show(g.gs.set i _)[i]? =_;rw[bz (aJ.1 hpl).1,aN]
theorem wx(TS:rX P M e q r)(ho:o.op=.call { callee:=.builtin .append,args:= #[s,x],argTypes:= #[M,M] })
 (hd:o.dst=some t) (ht:Nat.blt t n=true) (hs:jb I H s=some (.arr i m)) (hi:jo i J=some (.buf e q F pq)) (hx:jb I H x=some sx) (R:sx.p9=some (.sl q c))
 (S:0<q) (V:c≠[]) (W:F.length+c.length<=maxLen/\(F.length+c.length)*r<=140737488355328) (Y:Ix i H=some y) (hob:Iy i J=some z) (G:pD i (.buf e q (F++c) none) z=some C)
 (h:K ⟨n,(t,.arr i (F++c).length)::y,C⟩):jI P I n0 Pn (λj=>j=i) o ⟨n,H,J⟩ K:=yT TS ho hd ht (.inl ⟨hs,rfl⟩) hi hx R S V W Y hob G h
theorem K3(l h)(y:l<=h)(s:h<=i.length)(x:i.length<=c)(j:i≠[]->∃b off,q=some ⟨b,off,none⟩/\nT m C b off i):
 (D.sl C ((i.drop l).take (h-l))).Den m (.slice (if c=l then q else q.map (·.add (l*C))) (h-l) (c-l)):=by
 have U:((i.drop l).take (h-l)).length=h-l:=by rw[bj,bK];omega
 refine⟨_,c-l,by rw[U],O,λr=>?_⟩;have z:l<h:=by
  rcases bV l h with h1|h1
  .exact h1
  .exact absurd (ch O) r
 obtain⟨b,off,rfl,hd⟩:=j (by intro e;rw[e] at s;simp at s;omega);rw[if_neg O];refine⟨b,off+l*C,by rw[bH,pU],(hd.drop _).take _⟩
theorem sJ{k:Nat}(S:P.underlying T=some (.slice (iH P T).elem))(V:iH P (iH P T).elem=F)(j:F.ok=true)(J:F.size=k)
 (W:o.op=.slice T x (some z) none none) (Y:jb r σ.sl x=some s) (G:s.p9=some (.sl k h)) (hl:jb r σ.sl z=some (.d (.v (.int C l)))) (hb:0<=l/\l<=h.length)
 (H:h.drop l.toNat=e) (hK:K (.d (.sl k e)) []):ik P r o σ K:=nG λB g a w M=>by
 obtain⟨ad,cap,e1,b,U⟩:=SV.Den.p9 _ (M.oe Y) G;have e2:a.eval z=.int C l:=M.oe hl;rw[<- V] at j J;obtain⟨inf,d,I,hd',q,_⟩:=Be j;rw[J] at q;have R:=K3 l.toNat h.length O (ae _) b U;rw[aS (by rw[bK];omega),H] at R;refine⟨.d (.sl k e),_,λw'=>?_,R,hK⟩;have h3:=tw (P:=P) (kd:=C) (i:=l) (y:=h.length) (c:=.sliceB) O O w';simp only[execOp,W,e1,e2,bH,dK,Sem.run_bind];simp[Instr.sliceAt,Instr.slice,run_underlying S,Instr.sliceBounds,h3,sizeOf,typeInfo,I,<-q]
theorem pa{k:Nat}(V:P.underlying T=some (.slice (iH P T).elem))(W:iH P (iH P T).elem=G)(j:G.ok=true)(M:G.size=k)
 (Y:o.op=.slice T x none (some z) none) (hx:jb r σ.sl x=some s) (H:s.p9=some (.sl k C)) (hh:jb r σ.sl z=some (.d (.v (.int F h)))) (hb:0<=h/\h<=C.length)
 (I:C.take h.toNat=e) (hK:K (.d (.sl k e)) []):ik P r o σ K:=nG λB g a w R=>by
 obtain⟨ad,cap,e1,b,U⟩:=SV.Den.p9 _ (R.oe hx) H;have e3:a.eval z=.int F h:=R.oe hh;rw[<- W] at j M;obtain⟨inf,d,J,hd',q,_⟩:=Be j;rw[M] at q;have S:=K3 0 h.toNat O O b U;rw[dk,eB,eA,I] at S;refine⟨.d (.sl k e),_,λw'=>?_,S,hK⟩;have h2:=tw (P:=P) (kd:=F) (i:=h) (y:=cap) (c:=.sliceAcap) O O w';simp only[execOp,Y,e1,e3,bH,dK,Sem.run_bind];simp[Instr.sliceAt,Instr.slice,run_underlying V,Instr.sliceBounds,h2,sizeOf,typeInfo,J,<-q]
theorem Uq(TS:rX P r e x q)(y:n<=j):(Builtin.append_ #[r,r] s #[.slice c n j,.slice a 0 h]).run P w=.ok (.slice c n j) w:=by
 obtain⟨i,b,k⟩:=bO.1 TS.info;refine run_append_nothing w r r s e i TS.under b c n j y _ ?_;cases a with
 |none=>exact Src.ofNil w TS.under h
 |some a=>exact Src.ofSlice w TS.under a 0 h [] (by simp) (by simp) (by simp)
theorem jE.afi{P:Program}(h:jE GL B ⟨n,sl,W⟩ g a w){k:Nat}(Y:W[i]? =some o)(hor:o=.row e k\/o=.jd e k)
 (hsl:Ix i sl=some z) (hob:Iy i W=some c):jE GL B ⟨n,z,c.set i (.row e k)⟩ g a w:=by
 have H:Zh (λj=>Nat.beq j i) g g:=⟨pV.refl _,λ_ _ h _=>h,λ_ _ h=>h⟩;have U:=zK hob;have hi:=(aJ.1 Y).1;have I:=h.store.len;have r:(c.set i (.row e k))[i]? =some (.row e k):=bz O;have J:∀p,g.gs[i]? =some p->tc g g o (.row e k):=λp hp=>by rcases hor with rfl|rfl<;>exact⟨rfl,rfl⟩
 have M:∀(j:Nat) x,(c.set i (.row e k))[j]? =some x->∃o,W[j]? =some o/\tc g g o x:=λj x y=>by
  by_cases R:j=i
  .subst R;rw[r] at y;cases y;obtain⟨p,hp⟩:=h.store.place Y;exact⟨o,Y,J p hp⟩
  .rw [bg (bd R)] at y;obtain⟨o2,F,s⟩:=U.2 j x y;exact⟨o2,F,tc.kO H s⟩
 refine⟨h.defers,h.size,λt=>?_,?_,?_⟩
 .show (vO t z).Den _ _;rw[BO hsl];exact SV.Den.kill H _ (h.j9 t)
 .refine h.store.step (p:=λ_=>False) (pV.refl _) (λ_ _ h=>h) (λ_ _ _ h=>h) h.store.sat (by rw[da,U.1];exact I) (λj x _ y=>M j x y) (λj q f dn S G=>?_) (λ_ _ _ _ _ _ _ h=>h)
   (λ_ _ _ _ _ _ _ _=>⟨rfl,λ_ h=>h⟩) (λ_ _ h=>h.elim) (λ_ _ _ _ h=>h.elim) (λ_ _ _ _ _ _ _ h=>h.elim)
  by_cases y:j=i
  .subst y;rw[r] at G;cases G
  .rw [bg (bd y)] at G;obtain⟨o2,F,s⟩:=U.2 j _ G;have h4:o2=.ru q f dn S:=by
    cases o2<;>simp only[Ob.kO,ai,an] at s
    case cells=>obtain⟨_,_,s⟩:=s;cases s
    all_goals (cases s;try rfl)
   subst h4;have C:=h.store.th j q f dn S F;have hq:q≠i:=λe=>by subst e;rw[Y] at C;cases C;rcases hor with hor|hor<;>cases hor
   rw[bg (bd hq)];have h6:q<c.length:=by rw[U.1];exact(aJ.1 C).1
   obtain⟨o3,h7,h8⟩:=U.2 q c[q] (by simp[h6]);rw[C] at h7;cases h7;simp[Ob.kO] at h8;rw[aZ h6,<-h8]
 .refine ⟨h.pG.fr,h.pG.mem,h.pG.new,λj x p b G F s=>?_,h.pG.at'⟩;obtain⟨o2,h4,C⟩:=M j x G;rcases C.jk s (λ_ _=>trivial) with h6|⟨e2,k2,rfl⟩
  .exact h.pG.own j o2 p b h4 F h6
  .have V:=h.store.qM j _ p h4 F;simp only[oJ] at V;subst V;cases x<;>first|exact False.elim C|(simp[jP,np] at s)
theorem px{ty:TypeId}{ls:List (List D)}(TS:rX P ty e q y)(ho:o.op=.call { callee:=.builtin .append,args:= #[s,x],argTypes:= #[ty,ty] })
 (hd:o.dst=some t) (ht:Nat.blt t n=true) (C:jb GL F s=some (.own i q ls)\/(jb GL F s=some fK/\ls=[]/\or=.jd e q)) (hx:jb GL F x=some sx) (J:sx.p9=some (.sl q r)) (hi:jo i ob=some or) (M:or=.row e q\/or=.jd e q)
 (hsz:0<q) (R:ls.length+r.length<=maxLen/\(ls.length+r.length)*y<=140737488355328) (S:Ix i F=some G) (V:Iy i ob=some H) (z:pD i (.row e q) H=some I)
 (h:K ⟨n,(t,.own i q (ls++r))::G,I⟩):jI P GL n0 Pn (λj=>j=i) o ⟨n,F,ob⟩ K:=by
 by_cases W:r=[]
 .subst W;rw[bR] at h;intro B hB g a w k next Q hK hP
  have U:=iS hi;have Y:∃b cap,g.gs[i]? =some (.row b cap ls.length)/\a.eval s=.slice (b.map λb=>⟨b,0,none⟩) ls.length cap/\ls.length<=cap/\(ls≠[]->∃c,b=some c/\nT g.m q c 0 ls):=by
   rcases C with C|⟨C,rfl,rfl⟩
   .obtain ⟨b,cap,h1,h2,h3,h4⟩:=k.oe C;exact⟨b,cap,h1,h2,h3,h4⟩
   .have hv:a.eval s=.slice none 0 0:=k.oe C;obtain⟨p,hp⟩:=k.store.place U;have hok:=k.store.qM _ _ _ U hp;simp only[oJ] at hok;subst hok;exact⟨none,0,hp,hv,ae _,λh=>absurd rfl h⟩
  obtain⟨b,cap,hpl,hv,hc,hden⟩:=Y;obtain⟨ax,capx,hvx,_,_⟩:=SV.Den.p9 _ (k.oe hx) J;have hrun:(execOp a.eval o).run P w=.ok (.value (.slice (b.map λb=>⟨b,0,none⟩) ls.length cap)) w:=by
   unfold execOp;simp only[ho,resolve,invoke,builtin,Sem.run_bind,Sem.run_pure,Result.andThen_ok,ed,bG,de,hv,hvx,aH,Uq TS hc]
  unfold Oper.wp;rw[hrun];show next (a.put o.dst _) _
  rw[hd];have h1:=k.afi (P:=P) U M S V;rw[(nL z).1] at h;exact hK _ _ _ _ (h1.wQ (s:=.own i q ls) ht ⟨b,cap,hpl,rfl,hc,hden⟩) (z8.refl _ _ _ _) h
 .exact xO TS ho hd ht C hi M (λB g a w k=>SV.Den.p9 _ (k.oe hx) J) hsz W R.1 R.2 S V z h
theorem qL{k:Nat}(TS:rX P R e c r)(ho:o.op=.call { callee:=.builtin .append,args:= #[s,x],argTypes:= #[R,R] })
 (hd:o.dst=some t) (ht:Nat.blt t n=true) (hs:jb J I s=some fK) (hx:jb J I x=some sx) (S:sx.p9=some (.sl c q)) (hl:M.length=k) (G:pY M [.jd e c]=some y) (hi:jo k y=some (.jd e c))
 (V:0<c) (W:q.length<=maxLen/\q.length*r<=140737488355328) (Y:Ix k I=some z) (hob:Iy k y=some C) (H:pD k (.row e c) C=some F)
 (h:K ⟨n,(t,.own k c q)::z,F⟩):jI P J n0 Pn T o ⟨n,I,M⟩ K:=
 Ih (T':=λj=>j=k) e c G (λi hi hx=>O) (px (ls:=[]) TS ho hd ht (.inr ⟨hs,rfl,rfl⟩) hx S hi (.inr rfl) V (by simpa using W) Y hob H h)
theorem xN{n0:Nat}{n t i m e k:Nat}{sl H:List (Nat×SV)}{ob I J:List Ob}{q:List (List D)}{h:Int}(hu:P.underlying T=some (.slice (iH P T).elem))(hT:iH P (iH P T).elem=ti)(M:ti.ok=true)(hs:ti.size=k)
 (ho:o.op=.slice T x none (some hi) none) (hd:o.dst=some t) (ht:Nat.blt t n=true) (hx:jb GL sl x=some (.arr i m)) (hh:jb GL sl hi=some (.d (.v (.int k2 h)))) (hi':jo i ob=some (.buf e k q pq)) (hb:0<=h/\h<=m) (hne:0<m)
 (hsl:Ix i sl=some H) (hob:Iy i ob=some I) (R:pD i (.buf e k (q.take h.toNat) none) I=some J)
 (S:K ⟨n,(t,.arr i h.toNat)::H,J⟩):jI P GL n0 Pn (λj=>j=i) o ⟨n,sl,ob⟩ K:=λB hB g a w F next Q hK hP=>by
 have V:=iS hi';rw[(nL R).1] at S;obtain⟨b,cap,z,hv⟩:=F.oe hx;obtain⟨hm,hl,⟨xs,U,W,h1x⟩,hmn⟩:=AV F.store V z;have C:=U;rcases U.2 with⟨G,h3⟩|⟨b1,cap1,cur,e1,hb0,hhp,hle,hcm,hcs,htk⟩
 .omega
 cases b with
 |none=>simp at e1
 |some b=>
 simp only[bH,Value.slice.injEq,an,Addr.mk.injEq] at e1;obtain⟨⟨rfl,_,_⟩,_,rfl⟩:=e1;simp only[bH] at hv;have e3:a.eval hi=.int k2 h:=F.oe hh;rw[<- hT] at M hs;obtain⟨inf,d,Y,hdd,hs',_⟩:=Be M;rw[hs] at hs';have G:=tw (P:=P) (kd:=k2) (i:=h) (y:=cap) (c:=.sliceAcap) O O w;have hrun:(execOp a.eval o).run P w=.ok (.value (.slice (some ⟨b,0,none⟩) h.toNat cap)) w:=by
  simp only[execOp,ho,hv,e3,bH,dK,Sem.run_bind];have hc0:¬cap=0:=O;simp[Instr.sliceAt,Instr.slice,run_underlying hu,Instr.sliceBounds,G,sizeOf,typeInfo,Y,<-hs',hc0,pU]
 unfold Oper.wp;rw[hrun];show next (a.put o.dst _) _
 rw[hd];have hth:(q.take h.toNat).length=h.toNat:=by rw[bj];omega
 have hdt:nk g.m (q.take h.toNat).flatten (xs.take (h.toNat*k)):=by
  have h5:q.flatten=(q.take h.toNat).flatten++(q.drop h.toNat).flatten:=by rw[<- List.flatten_append,dp]
  have h6:=DV (k:=k) (ls:=q.take h.toNat) λx hx=>hl x (bJ hx)
  rw[hth] at h6;rw[h5] at W;have h7:=(nk.split W).1;rw[h6] at h7;exact h7
 have hmk:h.toNat*k<=m*k:=dT k O;obtain⟨h1,G⟩:=F.ae7 (w':=w) (m':=g.m) (c:=b) (cap':=cap) (n':=h.toNat) (ls':=q.take h.toNat) V (.inl rfl) z (Fr.refl _ _) (pV.refl _) (.inl ⟨rfl,rfl⟩) (λd off y h1 G=>by rw[G] at h1;cases h1) (λoff y hy=>F.store.sat _ _ _ hy) (λd off y hd hy=>(F.store.sat _ _ _ hy).1)
  ⟨hth.symm,λy hy=>hl y (bJ hy),⟨xs.take (h.toNat*k),⟨by rw[bj,C.1];omega,.inr ⟨b,cap,cur,rfl,hb0,hhp,O,hcm,hcs,by rw[<- htk,cO,b8 hmk]⟩⟩,hdt,λu hu=>h1x u (bJ hu)⟩,λc hc off=>by cases hc;exact hmn b rfl off,λr e=>by cases e⟩ hsl hob
 refine hK _ _ _ _ (h1.wQ (s:=.arr i h.toNat) ht ⟨some b,cap,?_,rfl⟩) G S;show(g.gs.set i _)[i]? =_;rw[bz (aJ.1 z).1]
theorem yS(r:o.dst=some t)(x:Nat.blt t n=true)(h:ik P i o ⟨n,c,e⟩ λs _=>K ⟨n,(t,s)::c,e⟩):jI P i j q T o ⟨n,c,e⟩ K:=
 wU r x λB g a w b=>by
  obtain⟨F,s,y,L,k,U,_,z,C⟩:=h B g a w b;exact⟨s,y,k w U,z,C⟩
theorem LG{k:Nat}(M:o.op=.makeMap J none)(R:o.dst=some t)(S:Nat.blt t n=true)(V:j.length=k)(y:pY j [.jK λ_=>none]=some c)
 (h:K ⟨n,(t,.map k)::F,c⟩):jI P G H I T o ⟨n,F,j⟩ K:=λB hB g a w z next Q W hP=>by
 subst V;rw[nM y] at h;have U:(execOp a.eval o).run P w=.ok (.value (.map (some w.heap.size))) (w.alloc (.map #[] 0)):=by
  simp only[execOp,M,dK,Sem.run_bind,Sem.run_pure,run_makeMap,Result.andThen_ok]
 have C:∀o,g.m w.heap.size o=none:=λo=>by
  cases Y:g.m w.heap.size o with
  |none=>rfl
  |some x=>have:=z.store.rB Y;omega
 obtain⟨q,r⟩:=z.Eh ((Fr.refl _ w).alloc (.map #[] 0)) (pV.refl _) (λb o x q r=>by rw[r] at q;cases q) (o':=.jK λ_=>none) (pl:=.loc w.heap.size) ⟨⟨_,wh.made w,λs=>rfl⟩,C⟩ (λb hb=>by simp only[jP,np,an] at hb;omega) (λi f dn cur e=>by cases e);unfold Oper.wp;rw[U];show next (a.put o.dst _) _
 rw[R];exact W _ _ _ _ (q.wQ (s:=.map j.length) S ⟨w.heap.size,by rw[z.store.len];simp,rfl⟩) ⟨r.1,λi b o _=>r.2 i b o (λx=>x)⟩ h
theorem FC{k:TypeId}{f:fB->Option D}(F:Qn P J k e)(W:o.op=.lookup J x y false)(Y:o.dst=some t)(ht:Nat.blt t n=true)
 (hx:jb z r x=some (.map i)) (hy:jb z r y=some (fI s)) (hi:jo i C=some (.jK f)) (h:K ⟨n,(t,.d ((f s).getD (.v (.pointer none))))::r,C⟩):jI P z S V T o ⟨n,r,C⟩ K:=
 wU Y ht λB g a w G=>by
  obtain⟨b,hb,H⟩:=G.oe hx;have I:a.eval y=.string s:=G.oe hy;obtain⟨⟨M,U,c⟩,_⟩:=G.store.qM _ _ _ (iS hi) hb;have j:=U.lookup F.under F.key F.zero s;refine⟨_,(M s).getD (.pointer none),by simp only[execOp,W,H,I,Sem.run_bind,j,Result.andThen_ok,Sem.run_pure],?_,h⟩;have q:=c s;show D.Den g.m _ _;cases R:f s with
  |none=>rw[R] at q;simp only at q;rw[q];rfl
  |some d=>
   rw[R] at q;obtain⟨v,h2,h3⟩:=q;rw[h2];exact h3
def Bb(f:fB->Option D)(s:fB)(d:D):fB->Option D:=λt=>if t=s then some d else f t
theorem Ax{ty k:TypeId}{f:fB->Option D}{d:D}(hm:Qn P ty k e)(ho:o.op=.mapUpdate ty x y z)(hd:o.dst=none)
 (hx:jb J q x=some (.map i)) (hy:jb J q y=some (fI s)) (hz:jb J q z=some (.d d)) (hi:jo i R=some (.jK f)) (V:py i R=true) (W:pD i (.jK (Bb f s d)) R=some r) (h:K ⟨n,q,r⟩):jI P J n0 Pn (λj=>j=i) o ⟨n,q,R⟩ K:=λB hB g a w C next Q hK hP=>by
 obtain⟨b,hb,Y⟩:=C.oe hx;have hye:a.eval y=.string s:=C.oe hy;have hze:d.Den g.m (a.eval z):=C.oe hz;obtain⟨⟨M,F,G⟩,H⟩:=C.store.qM _ _ _ (iS hi) hb;obtain⟨w',I,hm',hfr⟩:=F.update hm.under hm.key s (a.eval z);have U:(execOp a.eval o).run P w=.ok .skip w':=by simp only[execOp,ho,Y,hye,Sem.run_bind,I,Result.andThen_ok,Sem.run_pure]
 unfold Oper.wp;rw[U];show next (a.put o.dst _) _
 rw[hd];have c:GW g.m (Bb f s d) (TY M s (a.eval z)):=λt=>by
  unfold Bb TY;by_cases S:t=s
  .rw [if_pos S,if_pos S];exact⟨_,rfl,hze⟩
  .rw [if_neg S,if_neg S];exact G t
 obtain⟨h1,h2⟩:=C.NL (o':=.jK (Bb f s d)) (iS hi) hb rfl hfr ⟨⟨_,hm',c⟩,H⟩ (.inl rfl) (rD V) (λk f dn cur h=>by cases h) H;rw[<- (nL W).1] at h1;exact hK _ _ _ _ h1 h2 h
theorem JV{k:Nat}(hT:iH P c=W)(ho:o.op=.box c x)(hd:o.dst=some t)(ht:Nat.blt t n=true)(hx:jb V H x=some s)(hm:rk W.agg s=some e)(hl:r.length=k)
 (J:Am e=some I) (F:pH e=true) (M:pY r [.cells e c]=some y) (R:AK k none I ((t,.jk k 0)::H)=some q) (j:AL k none I y=some z) (G:pD k .dead z=some C) (h:K ⟨n,q,C⟩):jI P V n0 Pn T o ⟨n,H,r⟩ K:=λB hB g a w S next Q hK hP=>by
 subst hT hl;have U:(execOp a.eval o).run P w=.ok (.value (.pointer (some ⟨w.heap.size,0,none⟩))) (w.alloc (.cells ⟨(a.eval x).cells.toList⟩ c)):=by
  simp[execOp,ho,Instr.box,newVar,newRow]
 unfold Oper.wp;rw[U];show next (a.put o.dst _) _
 rw[hd];obtain⟨h1,Y⟩:=yU (ty:=c) S (cs:=e) (vs:=(a.eval x).cells.toList) (tN hm (S.oe hx));have h3:=h1.wQ (s:=.jk r.length 0) ht (EO S.store.len);rw[nM M] at j;obtain⟨m',h4,h5⟩:=h3.Mw (i:=r.length) (cs:=e) (ty:=c) (by simp) J F R j;rw[<- (nL G).1] at h5;exact hK _ _ _ _ h5 ⟨Y.1.trans h4,λi b o _=>Y.2 i b o (λx=>x)⟩ h
structure uD where
 qM:List Ob
 qT:List Pl
def uD.own(x:uD)(b:Nat):Prop:= ∃(i:Nat) (o:Ob) (p:Pl),x.qM[i]? =some o/\x.qT[i]? =some p/\jP o p b
structure uD.ok (x:uD) (m:Mem) (w:World):Prop where
 len:x.qM.length=x.qT.length
 no:nF x.qM=true
 qM:∀(i:Nat) o p,x.qM[i]? =some o->x.qT[i]? =some p->oJ ⟨m,x.qT⟩ w o p
 xk:∀(i j:Nat) oi oj pi pj b,x.qM[i]? =some oi->x.qM[j]? =some oj->x.qT[i]? =some pi->x.qT[j]? =some pj->jP oi pi b->jP oj pj b->i=j
theorem uD.ok.lt{x:uD}{m:Mem}{w:World}(h:x.ok m w){j:Nat}(c:x.own j):j<w.heap.size:=by
 obtain⟨i,o,p,k,U,e⟩:=c;exact(h.qM i o p k U).lt e
theorem uD.ok.Gc{x:uD}{m c:Mem}{w j:World}(q:pV m c)(r:∀b,x.own b->j.heap[b]? =w.heap[b]?)(s:∀b,x.own b->∀i,m b i=none->c b i=none)(h:x.ok m w):x.ok c j:=
 ⟨h.len,h.no,λi o p U e=>oJ.Gc (g:=⟨m,x.qT⟩) (g':=⟨c,x.qT⟩) (tc.refl (g:=⟨m,x.qT⟩) (g':=⟨c,x.qT⟩) ⟨q,λ_ _ h=>h⟩ o) (λ_ _ h=>h) (λb k=>by
  rcases k with k|⟨i',f,dn,cur,rfl,_⟩
  .exact r b ⟨i,o,p,U,e,k⟩
  .exact absurd U (oG h.no i i' f dn cur)) (λb k=>s b ⟨i,o,p,U,e,k⟩) (h.qM i o p U e),h.xk⟩
theorem uD.LN(h:jX j c g w)(e:nF c=true):(uD.mk c g.gs).ok g.m w:=
 ⟨h.len,e,λi o p b k=>h.qM i o p b k,h.xk⟩
def lp(l:List uD):Ob:=.rU (λb=> ∃x,x∈l/\x.own b) (λm w=>(∀ x,x∈l->x.ok m w)/\∀(i j:Nat) x y b,l[i]? =some x->l[j]? =some y->x.own b->y.own b->i=j)
theorem nV:jP (lp l) p c↔ ∃x,x∈l/\x.own c:=Sr
theorem CM(h:oJ g w (lp l) p):(∀ x,x∈l->x.ok g.m w)/\∀(i j:Nat) x y b,l[i]? =some x->l[j]? =some y->x.own b->y.own b->i=j:=by
 unfold lp at h;cases p<;>exact h.1
theorem Fs(q:∀x,x∈l->x.ok g.m w)(r:∀(i j:Nat) x y b,l[i]? =some x->l[j]? =some y->x.own b->y.own b->i=j):oJ g w (lp l) p:=by
 have s:((∀ x,x∈l->x.ok g.m w)/\∀(i j:Nat) x y b,l[i]? =some x->l[j]? =some y->x.own b->y.own b->i=j)/\(∀ b,(∃ x,x∈l/\x.own b)->b<w.heap.size)/\∀m c (w w':World),pV m c->(∀ b,(∃ x,x∈l/\x.own b)->w'.heap[b]? =w.heap[b]?)->(∀ b,(∃ x,x∈l/\x.own b)->∀i,m b i=none->c b i=none)->((∀ x,x∈l->x.ok m w)/\∀(i j:Nat) x y b,l[i]? =some x->l[j]? =some y->x.own b->y.own b->i=j)->((∀ x,x∈l->x.ok c w')/\∀(i j:Nat) x y b,l[i]? =some x->l[j]? =some y->x.own b->y.own b->i=j):=
  ⟨⟨q,r⟩,λb ⟨x,U,e⟩=>(q x U).lt e,λm c w w' z e C h=>⟨λx U=>uD.ok.Gc z (λb k=>e b ⟨x,U,k⟩) (λb k=>C b ⟨x,U,k⟩) (h.1 x U),h.2⟩⟩
 unfold lp;cases p<;>exact s
theorem Ok(r:pY G [lp []]=some q)(h:iK P s z C c Q ⟨n,F,q⟩):iK P s z C c Q ⟨n,F,G⟩:=λB H a w ⟨g,I⟩=>by
 rw[nM r] at h;obtain⟨k,_⟩:=I.Eh (w':=w) (Fr.refl _ w) (pV.refl _) (λb o x k J=>by rw[J] at k;cases k) (o':=lp []) (pl:=.row none 0 0) (Fs (λx U=>by cases U) (λi j x y b M=>by simp at M)) (λb R=>by
  obtain⟨x,U,_⟩:=nV.1 R;cases U) (λi f V S e=>by cases e)
 exact h B H a w ⟨_,k⟩
def IU:List Nat->List Ob->Option (List Ob)
 |[],l=>some l
 |i::ix,l=>(pD i .dead l).bind λb=>IU ix b
theorem IT:∀{ix:List Nat} {l k:List Ob},IU ix l=some k->k.length=l.length/\(∀ j,j∈ix->k[j]? =some .dead)/\∀j,j∉ix->k[j]? =l[j]?
 |[],l,k,h=>by simp[IU] at h;subst h;simp
 |i::ix,l,k,h=>by
  simp only[IU,ai] at h;obtain⟨l1,q,r⟩:=h;obtain⟨s,x⟩:=nL q;obtain⟨a1,a2,c⟩:=IT r;subst s;refine⟨by rw[a1,da],λj U=>?_,λj U=>?_⟩
  .by_cases b:j∈ix
   .exact a2 j b
   .rcases bh.1 U with rfl|h3
    .rw [c j b,bz x]
    .exact absurd h3 b
  .have h3:j≠i/\j∉ix:=⟨λe=>U (e▸bC),λe=>U (bB _ e)⟩;rw[c j h3.2,bg (bd h3.1)]
theorem jE.UF(M:jE GL B ⟨n,sl,ob⟩ g a w)(hp:jo I ob=some (lp s))(V:jh ob Y r Y)(hnd:Y.Nodup)(hno:nF r=true)(hno2:nF ob=true)(hpi:I∉Y)(hob:IU Y ob=some F):
 jE GL B ⟨n,sl,F.set I (lp (s++[⟨r,Y.map λi=>g.gs.getD i (.loc 0)⟩]))⟩ g a w:=by
 have hsub:=M.store.sub V hnd (λj i f dn cur hj=>absurd hj (oG hno j i f dn cur));have hp':=iS hp;have hpil:=(aJ.1 hp').1;obtain⟨d1,d2,d3⟩:=IT hob;obtain⟨ppl,hppl⟩:=M.store.place hp';have hpool:=CM (M.store.qM _ _ _ hp' hppl);have hit:=uD.LN hsub.1 hno;generalize hpls:(Y.map λi=>g.gs.getD i (.loc 0))=qT at hsub hit ⊢;have hnew:∀b,(uD.mk r qT).own b->∃(i:Nat) (o:Ob) (p:Pl),i∈Y/\ob[i]? =some o/\g.gs[i]? =some p/\jP o p b:=λb ⟨i,o,p,C,U,W⟩=>by
  obtain⟨i',k,o',p',e1,e2,e3,e4⟩:=hsub.2.2 b ⟨i,o,p,C,U,W⟩;exact⟨i',o',p',aO e1,e2,e3,e4⟩
 have hold:∀x∈s,∀b,x.own b->¬(uD.mk r qT).own b:=λx hx b hb hb2=>by
  obtain⟨i,o,p,C,U,W,R⟩:=hnew b hb2;have:=M.store.xk I i _ o ppl p b hp' U hppl W (nV.2 ⟨x,hx,hb⟩) R;subst this;exact hpi C
 have hlen:=M.store.len;have J:(F.set I (lp (s++[⟨r,qT⟩])))[I]? =some (lp (s++[⟨r,qT⟩])):=bz (by rw[d1];exact hpil);have H:∀j,j≠I->j∉Y->(F.set I (lp (s++[⟨r,qT⟩])))[j]? =ob[j]? :=λj C U=>by rw[bg (bd C),d3 j U]
 have G:∀j,j∈Y->(F.set I (lp (s++[⟨r,qT⟩])))[j]? =some .dead:=λj C=>by
  have U:I≠j:=λe=>hpi (by rw[e];exact C)
  rw[bg U,d2 j C]
 have hpoolok:oJ g w (lp (s++[⟨r,qT⟩])) ppl:=by
  refine Fs (λx hx=>?_) λi j x y b hi hj hxb hyb=>?_
  .rcases bn.1 hx with hx|hx
   .exact hpool.1 x hx
   .simp only[bF] at hx;subst hx;exact hit
  .rw [cH] at hi hj;have S:∀(k:Nat) z,¬k<s.length->[uD.mk r qT][k-s.length]? =some z->k=s.length/\z=⟨r,qT⟩:=λk z C U=>by
    have W:=(aJ.1 U).1;simp only[eE] at W;have R:k-s.length=0:=O;rw[R] at U;simp at U;exact⟨O,U.symm⟩
   split at hi
   .split at hj
    .exact hpool.2 i j x y b hi hj hxb hyb
    .rename_i h6;obtain⟨_,rfl⟩:=S _ _ h6 hj;exact absurd hyb (hold x (aO hi) b hxb)
   .rename_i h5;obtain⟨h7,rfl⟩:=S _ _ h5 hi;split at hj
    .exact absurd hxb (hold y (aO hj) b hyb)
    .rename_i h6;obtain⟨h8,_⟩:=S _ _ h6 hj;omega
 refine⟨M.defers,M.size,M.j9,?_,?_⟩
 .refine M.store.step (p:=λj=>j=I\/j∈Y) (pV.refl _) (λ_ _ h=>h) (λ_ _ _ h=>h) M.store.sat (by show(F.set I _).length=_;rw[da,d1];exact hlen) (λj o1 hj C=>?_) (λj k f dn cur C=>?_) (λj k f dn cur hj C=>?_)
   (λj o1 q c hj C U W=>⟨rfl,λ_ h=>h⟩) (λj o1 hj C=>?_) (λj o1 q c hj C U W=>?_) (λi j oi oj qi qj b hi hj C U W R h5 h6=>?_)
  .simp only[not_or] at hj;have U:(F.set I (lp (s++[⟨r,qT⟩])))[j]? =some o1:=C;rw[H j hj.1 hj.2] at U;exact⟨o1,U,tc.refl (WR.refl g) o1⟩
  .by_cases h9:j=I
   .subst h9;rw[J] at C;cases C
   .by_cases h8:j∈Y
    .rw [G j h8] at C;cases C
    .rw [H j h9 h8] at C;exact absurd C (oG hno2 j k f dn cur)
  .simp only[not_or] at hj;have U:(F.set I (lp (s++[⟨r,qT⟩])))[j]? =some (.ru k f dn cur):=C;rw[H j hj.1 hj.2] at U;exact absurd U (oG hno2 j k f dn cur)
  .have U:(F.set I (lp (s++[⟨r,qT⟩])))[j]? =some o1:=C;rcases hj with rfl|hj
   .rw [J] at U;cases U;exact⟨ppl,hppl,hpoolok⟩
   .rw [G j hj] at U;cases U;obtain⟨k,hk,e⟩:=dH.1 hj;obtain⟨i',o,a1,a2,_⟩:=V.get.2 k (r[k]'(by rw[V.get.1];exact hk)) (by simp[V.get.1,hk]);rw[aZ hk,e] at a1;cases a1;obtain⟨q,hq⟩:=M.store.place a2;exact⟨q,hq,by cases q<;>trivial⟩
  .have R:(F.set I (lp (s++[⟨r,qT⟩])))[j]? =some o1:=C;rcases hj with rfl|hj
   .rw [J] at R;cases R;obtain⟨x,hx,hb⟩:=nV.1 W;rcases bn.1 hx with hx|hx
    .exact .inl ⟨j,_,q,.inl rfl,hp',U,nV.2 ⟨x,hx,hb⟩⟩
    .simp only[bF] at hx;subst hx;obtain⟨i,o,p,e1,e2,e3,e4⟩:=hnew c hb;exact .inl ⟨i,o,p,.inr e1,e2,e3,e4⟩
   .rw [G j hj] at R;cases R;cases q<;>exact absurd W (by simp[jP,np])
  .have h7:(F.set I (lp (s++[⟨r,qT⟩])))[i]? =some oi:=C;have h8:(F.set I (lp (s++[⟨r,qT⟩])))[j]? =some oj:=U;rcases hi with rfl|hi
   .rcases hj with rfl|hj
    .rfl
    .rw [G j hj] at h8;cases h8;cases qj<;>exact absurd h6 (by simp[jP,np])
   .rw [G i hi] at h7;cases h7;cases qi<;>exact absurd h5 (by simp[jP,np])
 .refine ⟨M.pG.fr,M.pG.mem,M.pG.new,λj o1 q c C U W=>?_,M.pG.at'⟩;have R:(F.set I (lp (s++[⟨r,qT⟩])))[j]? =some o1:=C;by_cases h9:j=I
  .subst h9;rw[J] at R;cases R;obtain⟨x,hx,hb⟩:=nV.1 W;rcases bn.1 hx with hx|hx
   .exact M.pG.own j _ q c hp' U (nV.2 ⟨x,hx,hb⟩)
   .simp only[bF] at hx;subst hx;obtain⟨i,o,p,e1,e2,e3,e4⟩:=hnew c hb;exact M.pG.own i o p c e2 e3 e4
  .by_cases h8:j∈Y
   .rw [G j h8] at R;cases R;cases q<;>exact absurd W (by simp[jP,np])
   .rw [H j h9 h8] at R;exact M.pG.own j o1 q c R U W
theorem QT{P:Program}{GL:Nat->List D}{n0:Nat}{Pn:jO}{j l:List Oper}{Q:Ex->St->Prop}{n t H I k1 k2:Nat}{J:List (Nat×SV)}{q r:List Ob}{y:uD->List Ob}{pi:Nat}{th:List uD}{ix:List Nat}(c:List Ob)(hp:jo pi q=some (lp th))(e:jh q ix c ix)(M:me ix=true)(R:nF c=true)(z:nF q=true)(C:(ix.contains pi)=false)(S:IU ix q=some r)(F:∀x,pD pi (lp (th++[x])) r=some (y x))
 (V:vO t J=.agg [.jk H 0,.jk I 0]) (W:ix[k1]? =some H) (Y:ix[k2]? =some I)
 (h:∀(qT:List Pl) (b1 b2:Nat),qT.length=c.length->qT[k1]? =some (.loc b1)->qT[k2]? =some (.loc b2)->iL P GL n0 Pn j l Q ⟨n,(t,.d (.agg [.v (.pointer (some ⟨b1,0,none⟩)),.v (.pointer (some ⟨b2,0,none⟩))]))::J,y ⟨c,qT⟩⟩):iL P GL n0 Pn j l Q ⟨n,J,q⟩:=λB hB a w ⟨g,hr⟩=>by
 have U:pi∉ix:=λh=>by rw[List.contains_iff_mem.2 h] at C;cases C
 have G:=hr.UF hp e (rL M) R z U S;rw[<- (nL (F _)).1] at G;have h2:=hr.j9 t;have h3:(SV.agg [.jk H 0,.jk I 0]).Den g (a.tmps.getD t undef):=by rw[<- V];exact h2
 obtain⟨vs,e1,x1,l1,e2,⟨b1,hb1,e3⟩,x2,l2,e4,⟨b2,hb2,e5⟩,e6⟩:=h3;have hl:∀(k i b:Nat),ix[k]? =some i->g.gs[i]? =some (.loc b)->(ix.map λi=>g.gs.getD i (.loc 0))[k]? =some (.loc b):=λk i b G h2=>by
  rw[bt,G];simp[ba,h2]
 have h4:=G.known (t:=t) (s:=.d (.agg [.v (.pointer (some ⟨b1,0,none⟩)),.v (.pointer (some ⟨b2,0,none⟩))])) (by
  subst e2 e4 e6 e3 e5;exact⟨_,e1,_,_,rfl,rfl,_,_,rfl,rfl,rfl⟩)
 exact h _ b1 b2 (by rw[bc,e.get.1]) (hl _ _ _ W hb1) (hl _ _ _ Y hb2) B hB a w ⟨g,h4⟩
theorem rl(h:jh c ρ r e)(j:jo i c=some (.jK q):=by exact rfl):jh c ρ (.jK q::r) (i::e):=.cons j .jK h
theorem ae8(j:x=h)(q:jh c ρ r e)(s:jo i c=some (.jK h):=by exact rfl):jh c ρ (.jK x::r) (i::e):=by subst j;exact .cons s .jK q
theorem GK(h:jh c ρ r e)(j:jo i c=some (.rU o q):=by exact rfl):jh c ρ (.rU o q::r) (i::e):=.cons j .rU h
theorem US{f:FuncId}(hc:iA P f=true)(ho:o.op=.call { callee:=.value (.func f),args:=args,argTypes:=ts })
 (ha:GC GL sl args.toList=some svs) (hdst:o.dst=some t) (htn:Nat.blt t n=true) {k:Nat} {obF:uD->List Ob} (hp:jo S ob=some (lp F)) (hk:F[k]? =some x) (hno:nF ob=true) (ht:jT P GL f x.qM argsc Q)
 (hfa:∀(m:Mem) (gs:List Pl) (vs:List Value),iN ⟨m,gs⟩ svs vs->iN ⟨m,x.qT⟩ argsc vs) (hobF:∀y,pD S (lp (F.set k y)) ob=some (obF y))
 (hQ:∀s ob',Q (.ret s) ob'->∃d,s=.d d) (hpan:∀s ob',Q (.vk s) ob'->False)
 (hret:∀d ob' pls',Q (.ret (.d d)) ob'->(∀ (j b:Nat),j<x.qM.length->x.qT[j]? =some (.loc b)->pls'[j]? =some (.loc b))->K ⟨n,(t,.d d)::sl,obF ⟨ob',pls'⟩⟩):jI P GL n0 Pn (λj=>j=S) o ⟨n,sl,ob⟩ K:=λB hB g a w hr next Q' hK hP=>by
 obtain⟨vs,hrun,hd⟩:=xI hc ho ha B g a w hr;have V:=iS hp;have hpil:=(aJ.1 V).1;obtain⟨ppl,R⟩:=hr.store.place V;have M:=CM (hr.store.qM _ _ _ V R);have hkl:=(aJ.1 hk).1;have hxm:=aO hk;have hx:=M.1 x hxm;have hst0:jX GL x.qM ⟨g.m,x.qT⟩ w:=⟨hx.len,hx.qM,λj i f dn cur H=>absurd H (oG hx.no j i f dn cur),hx.xk,hr.store.sat,hr.store.Pe⟩;unfold Oper.wp;rw[hrun,Oper.upon_enter];refine(ht _ w vs hst0 (hfa g.m g.gs vs hd)).mono λe w' he=>?_
 obtain⟨I,ob',hs,hst,hle,hno',he⟩:=he;cases e with
 |outgrown=>exact he.elim
 |panicked c=>obtain⟨v,s,_,_,h3⟩:=he;exact(hpan _ _ h3).elim
 |returned v=>
  obtain⟨s,hs1,hq⟩:=he;obtain⟨d,rfl⟩:=hQ _ _ hq;have hX:∀b,lN x.qM ⟨g.m,x.qT⟩ b->x.own b:=λb ⟨i,o,p,U,r,h3⟩=>⟨i,o,p,U,r,h3⟩
  have hfr:Fr (lN x.qM ⟨g.m,x.qT⟩) w w':=hst.fr;have hmem:pV g.m I.m:=hst.mem;have hnewm:∀b i v,I.m b i=some v->g.m b i=none->lN x.qM ⟨g.m,x.qT⟩ b\/w.heap.size<=b:=hst.new;have W:∀b,b<w.heap.size->¬x.own b->w'.heap[b]? =w.heap[b]? /\∀i,g.m b i=none->I.m b i=none:=λb U r=>by
   refine⟨hfr.block b U λh=>r (hX b h),λi hi=>?_⟩;cases hv:I.m b i with
   |none=>rfl
   |some v=>
    rcases hnewm b i v hv hi with h3|h3
    .exact absurd (hX b h3) r
    .omega
  have hneb:∀(j:Nat) oj pj b,j≠S->ob[j]? =some oj->g.gs[j]? =some pj->jP oj pj b->¬x.own b:=λj oj pj b H U r h3 h4=>
   H (hr.store.xk j S oj _ pj ppl b U V r R h3 (nV.2 ⟨x,hxm,h4⟩))
  have hitem:(uD.mk ob' I.gs).ok I.m w':=uD.LN hs hno';have hown':∀b,(uD.mk ob' I.gs).own b->x.own b\/w.heap.size<=b:=λb ⟨i,o,p,U,r,h3⟩=>by
   rcases hst.own i o p b U r h3 with h4|h4
   .exact .inl (hX b h4)
   .exact .inr h4
  have G:∀(j:Nat) y b,j≠k->F[j]? =some y->y.own b->¬x.own b/\b<w.heap.size:=λj y b H U r=>
   ⟨λh3=>H (M.2 j k y x b U hk r h3),(M.1 y (aO U)).lt r⟩
  have hobset:=(nL (hobF ⟨ob',I.gs⟩)).1;have Y:(ob.set S (lp (F.set k ⟨ob',I.gs⟩)))[S]? =some (lp (F.set k ⟨ob',I.gs⟩)):=bz hpil;have J:∀j,j≠S->(ob.set S (lp (F.set k ⟨ob',I.gs⟩)))[j]? =ob[j]? :=λj H=>bg (bd H)
  have hgle:WR g ⟨I.m,g.gs⟩:=⟨hmem,λ_ _ h=>h⟩;have C:∀(j:Nat) y,(F.set k ⟨ob',I.gs⟩)[j]? =some y->(j=k/\y=⟨ob',I.gs⟩)\/(j≠k/\F[j]? =some y):=λj y U=>by
   by_cases H:j=k
   .subst H;rw[bz hkl] at U;cases U;exact .inl ⟨rfl,rfl⟩
   .rw [bg (bd H)] at U;exact .inr ⟨H,U⟩
  have hpoolok:oJ ⟨I.m,g.gs⟩ w' (lp (F.set k ⟨ob',I.gs⟩)) ppl:=by
   refine Fs (λy hy=>?_) λi j y z b hi H hyb hzb=>?_
   .obtain ⟨j,H⟩:=cy.1 hy;rcases C j y H with⟨_,rfl⟩|⟨U,r⟩
    .exact hitem
    .exact uD.ok.Gc hmem (λb hb=>(W b (G j y b U r hb).2 (G j y b U r hb).1).1) (λb hb=>(W b (G j y b U r hb).2 (G j y b U r hb).1).2) (M.1 y (aO r))
   .have hcross:∀(j:Nat) z b,j≠k->F[j]? =some z->z.own b->¬(uD.mk ob' I.gs).own b:=λj z b U r h3 h4=>by
     have h5:=G j z b U r h3;rcases hown' b h4 with h6|h6
     .exact h5.1 h6
     .omega
    rcases C i y hi with⟨U,rfl⟩|⟨U,r⟩
    .rcases C j z H with⟨h3,rfl⟩|⟨h3,h4⟩
     .omega
     .exact absurd hyb (hcross j z b h3 h4 hzb)
    .rcases C j z H with⟨h3,rfl⟩|⟨h3,h4⟩
     .exact absurd hzb (hcross i y b U r hyb)
     .exact M.2 i j y z b r h4 hyb hzb
  have hrel:jE GL B ⟨n,sl,ob.set S (lp (F.set k ⟨ob',I.gs⟩))⟩ ⟨I.m,g.gs⟩ a w':=by
   refine⟨hr.defers,hr.size,λt=>SV.Den.mono hgle _ (hr.j9 t),?_,?_⟩
   .refine hr.store.step (p:=λj=>j=S) hmem (λ_ _ h=>h) (λ_ _ _ h=>h) hs.sat (by show(ob.set S _).length=_;rw[da];exact hr.store.len) (λj o1 H U=>?_) (λj i f dn cur U=>?_) (λj i f dn cur H U=>?_)
     (λj o1 q c H U r h3=>?_) (λj o1 H U=>?_) (λj o1 q c H U r h3=>?_) (λi j oi oj qi qj b hi H _ _ _ _ _ _=>hi.trans H.symm)
    .have r:(ob.set S (lp (F.set k ⟨ob',I.gs⟩)))[j]? =some o1:=U;rw[J j H] at r;exact⟨o1,r,tc.refl hgle o1⟩
    .by_cases h9:j=S
     .subst h9;rw[Y] at U;cases U
     .rw [J j h9] at U;exact absurd U (oG hno j i f dn cur)
    .have r:(ob.set S (lp (F.set k ⟨ob',I.gs⟩)))[j]? =some (.ru i f dn cur):=U;rw[J j H] at r;exact absurd r (oG hno j i f dn cur)
    .exact W c (hr.store.lt U r h3) (hneb j o1 q c H U r h3)
    .subst H;have r:(ob.set j (lp (F.set k ⟨ob',I.gs⟩)))[j]? =some o1:=U;rw[Y] at r;cases r;exact⟨ppl,R,hpoolok⟩
    .subst H;have h4:(ob.set j (lp (F.set k ⟨ob',I.gs⟩)))[j]? =some o1:=U;rw[Y] at h4;cases h4;obtain⟨y,hy,hb⟩:=nV.1 h3;obtain⟨i,hi⟩:=cy.1 hy;rcases C i y hi with⟨_,rfl⟩|⟨h5,h6⟩
     .rcases hown' c hb with h7|h7
      .exact .inl ⟨j,_,q,rfl,V,r,nV.2 ⟨x,hxm,h7⟩⟩
      .exact .inr h7
     .exact .inl ⟨j,_,q,rfl,V,r,nV.2 ⟨y,aO h6,hb⟩⟩
   .refine hr.pG.step hfr (λb hb=>hr.pG.own S _ ppl b V R (nV.2 ⟨x,hxm,hX b hb⟩)) hmem hnewm (λj o1 q c U r h3=>?_) (λ_ _ h=>h);have h4:(ob.set S (lp (F.set k ⟨ob',I.gs⟩)))[j]? =some o1:=U;by_cases h9:j=S
    .subst h9;rw[Y] at h4;cases h4;obtain⟨y,hy,hb⟩:=nV.1 h3;obtain⟨i,hi⟩:=cy.1 hy;rcases C i y hi with⟨_,rfl⟩|⟨h5,h6⟩
     .rcases hown' c hb with h7|h7
      .exact .inl (hr.pG.own j _ ppl c V R (nV.2 ⟨x,hxm,h7⟩))
      .exact .inr h7
     .exact .inl (hr.pG.own j _ ppl c V R (nV.2 ⟨y,aO h6,hb⟩))
    .rw [J j h9] at h4;exact .inl (hr.pG.own j o1 q c h4 r h3)
  have hkeep:z8 (λj=>j=S) ob g w ⟨I.m,g.gs⟩ w':=⟨hmem,λj c oj H U r h3=>⟨r,(W c (hr.store.lt U r (oF h3)) (hneb j oj _ c H U r (oF h3))).1⟩⟩;have hK2:=hret d ob' I.gs hq (λj b U r=>hst.at' j b U r);rw[hobset] at hK2;show next (a.put o.dst _) _
  rw[hdst];exact hK _ _ _ _ (hrel.wQ (s:=.d d) htn hs1) hkeep hK2
theorem Up(T:rX P t e h c)(w):(Instr.buildSlice t 0 #[]).run P w=.ok (.slice (some ⟨w.heap.size,0,none⟩) 0 0) (w.alloc (.cells #[] e)):=by
 have b:=T.info;have k:=T.zero;cases U:P.info? e with
 |none=>simp[U] at b
 |some i=>
  rw[U] at b k;simp only[bH,an,bW,cw] at b k;cases hz:i.zero with
  |none=>simp[hz] at k
  |some z=>
   simp[Instr.buildSlice,run_underlying T.under,newRow,zeroValue,typeInfo,Go.sizeOf,U,hz,Result.andThen,Instr.fill]
   congr 2
   apply c7;simp
theorem Xv{k:Nat}(Y:rX P R e j q)(ho:o.op=.buildSlice R 0 #[])
 (hd:o.dst=some t) (ht:Nat.blt t n=true) (hl:r.length=k) (G:pY r [.row e j]=some y)
 (h:K ⟨n,(t,.own k j [])::M,y⟩):jI P S V W T o ⟨n,M,r⟩ K:=λB hB g a w H next Q hK hP=>by
 subst hl;rw[nM G] at h;have z:(execOp a.eval o).run P w=.ok (.value (.slice (some ⟨w.heap.size,0,none⟩) 0 0)) (w.alloc (.cells #[] e)):=by
  have h0:=Up Y w;simp only[execOp,ho,Sem.run_bind];have U:(#[]:Array (Nat×Operand)).map (λx=>(x.1,a.eval x.2))= #[]:=by simp
  rw[U,h0];rfl
 unfold Oper.wp;rw[z];show next (a.put o.dst _) _
 rw[hd];have I:∀o,g.m w.heap.size o=none:=λo=>by
  cases hx:g.m w.heap.size o with
  |none=>rfl
  |some x=>have:=H.store.rB hx;omega
 have C:(w.alloc (.cells #[] e)).ownsRow 0 e j (.slice (some ⟨w.heap.size,0,none⟩) 0 0) 0 []:=
  ⟨by simp,.inr ⟨w.heap.size,0,#[],rfl,ak _,heap_alloc_new w _,ae _,ak _,by simp,by simp⟩⟩
 obtain⟨U,F⟩:=H.Eh (w':=w.alloc (.cells #[] e)) ((Fr.refl _ w).alloc _) (pV.refl _) (λb o x U F=>by rw[F] at U;cases U) (o':=.row e j) (pl:=.row (some w.heap.size) 0 0) ⟨⟨[],C⟩,λc hc o _=>by cases hc;exact I o⟩ (λb hb=>by simp only[jP,np,an] at hb;omega) (λi f dn cur e=>by cases e);refine hK _ _ _ _ (U.wQ (s:=.own r.length j []) ht ⟨some w.heap.size,0,?_,rfl,ae _,λhn=>absurd rfl hn⟩) ⟨F.1,λi b o _=>F.2 i b o (λx=>x)⟩ h;show(g.gs++[_])[r.length]? =_;have J:r.length=g.gs.length:=H.store.len;rw[J];simp
theorem JG(i:P.underlying T=some (.slice e))(a l c w):(Op.equal T (.slice a l c) (.slice none 0 0)).run P w=.ok a.isNone w:=by
 have h:∀d:Nat,(Op.equalIn (d+1) T (.slice a l c) (.slice none 0 0)).run P w=.ok a.isNone w:=λd=>by
  cases a<;>simp[Op.equalIn,run_underlying i]
 simp[Op.equal,Op.maxDepth,h 9999]
theorem UQ{k:Nat}(I:P.underlying y=some (.slice e))(J:o.op=.binOp .eql y x (.const (.slice none 0 0)) H)(M:o.dst=some t)(R:Nat.blt t n=true)
 (S:jb r i x=some z) (j:z.p9=some (.sl k c)) (h:∀b:Bool,(b=true->c=[])->K ⟨n,(t,fH b)::i,s⟩):jI P r F G T o ⟨n,i,s⟩ K:=
 wU M R λB g a w V=>by
  obtain⟨q,cap,W,_,U⟩:=SV.Den.p9 _ (V.oe S) j;refine⟨fH q.isNone,.bool q.isNone,?_,rfl,h q.isNone λC=>?_⟩
  .have Y:=JG I q c.length cap w;have hc:a.eval (.const (.slice none 0 0))=.slice none 0 0:=rfl;simp only[execOp,J,Sem.run_bind,W,hc,qz (P:=P) (show(Value.slice q c.length cap).oneCell'=true from rfl) (show ¬(Value.slice q c.length cap=.nilIface/\Value.slice none 0 0=.nilIface) by simp)];simp only[Result.andThen_ok,binOp,Sem.run_bind,Y,Sem.run_pure]
  .refine dj λhn=>?_
   obtain⟨b,off,e1,_⟩:=U hn;rw[e1] at C;cases C
def Wv(P:Program)(c:TypeId->Option TI):Prop:= ∀t ti,c t=some ti->iH P t=ti
def adk:BinOp->Int->Int->Option Bool
 | .eql,m,n=>some (decide (m=n))
 | .neq,m,n=>some (!decide (m=n))
 | .lss,m,n=>some (decide (m<n))
 | .leq,m,n=>some (decide (m<=n))
 | .gtr,m,n=>some (decide (n<m))
 | .geq,m,n=>some (decide (n<=m))
 |_,_,_=>none
def kEq:IntKind->IntKind->Bool
 | .i64,.i64=>true
 | .u8,.u8=>true
 |_,_=>false
theorem Vn:∀{k b:IntKind},kEq k b=true->k=b:=by
 intro k b h;cases k<;>cases b<;>first|rfl|cases h
def adj:BinOp->fB->fB->Option Bool
 | .eql,s,t=>some (decide (s=t))
 | .neq,s,t=>some (!decide (s=t))
 |_,_,_=>none
def flO(c:Nat->List D)(h:TypeId->Option TI)(e:List (Nat×SV))(j:List Ob):Op->Option SV
 | .move x=>jb c e x
 | .assign x=>jb c e x
 | .nilCheck x=>match jb c e x with
  |some (.jk i off)=>some (.jk i off)
  |some (.d (.cp l))=>some (.d (.cp l))
  |_=>none
 | .fieldAddr T x f=>(h T).bind λti=>match nW f ti.wD with
  |some ((o1,sz,_)::_)=>cond (Nat.beq sz 0) none (match jb c e x with
   |some (.jk i off)=>some (.jk i (off+o1))
   |some (.d (.cp l))=>(nW o1 l).bind λU=>some (.d (.cp U))
   |_=>none)
  |_=>none
 | .load T x=>(h T).bind λti=>cond ti.ok (match jb c e x with
  |some (.jk i off)=>match jo i j with
   |some (.cells l _)=>(nW off l).bind λl1=>(rJ ti.size l1).bind λcs=>xh ti.agg cs
   |_=>none
  |some (.d (.cp l))=>(rJ ti.size l).bind λq=>(L1 q).bind λcs=>xh ti.agg cs
  |_=>none) none
 | .extract x i=>match jb c e x with
  |some (.jj l)=>jo i l
  |some (.d (.jj l))=>(jo i l).bind λs=>some (.d s)
  |_=>none
 | .binOp op _ x y _=>match jb c e x,jb c e y with
  |some (.d (.v (.int k m))),some (.d (.v (.int r n)))=>cond (kEq k r) ((adk op m n).bind λb=>some (.d (.v (.bool b)))) none
  |some (.d (.v (.string s))),some (.d (.v (.string t)))=>(adj op s t).bind λb=>some (.d (.v (.bool b)))
  |_,_=>none
 | .unOp .not _ x=>match jb c e x with
  |some (.d (.v (.bool b)))=>some (.d (.v (.bool (!b))))
  |_=>none
 | .build T ps=>(h T).bind λti=>cond ti.TP (cond ti.fok ((PC c e ps.toList).bind λes=>(wY ti.zero).bind λz=>(Gz ti.wD z es).bind λcs=>some (.agg cs)) none) none
 |_=>none
structure Tab where
 ti:List (Nat×TI)
 us:List Nat
 ut:List Nat
def lkT:List (Nat×TI)->Nat->Option TI
 |[],_=>none
 |(k,x)::r,t=>cond (Nat.beq k t) (some x) (lkT r t)
class nZ (P:Program) where
 QD:Tab
 ti:∀p∈QD.ti,iH P p.1=p.2
 us:∀t∈QD.us,P.underlying t=some (.slice (iH P t).elem)
 ut:∀t∈QD.ut,P.underlying t=some .string
theorem Q1:∀{l:List (Nat×TI)} {t:Nat} {x:TI},lkT l t=some x->(t,x)∈l
 |[],t,x,h=>by cases h
 |(k,y)::r,t,x,h=>by
  unfold lkT at h;cases b:Nat.beq k t<;>rw[b] at h
  .exact bB _ (Q1 h)
  .have e:k=t:=by simpa using b
   simp only[cond_true,an] at h;subst e h;exact bC
def Nw(P:Program)[T:nZ P]:TypeId->Option TI:=lkT T.QD.ti
theorem ri(P)[T:nZ P]:Wv P (Nw P):=λt x h=>T.ti _ (Q1 h)
def leO(P:Program)[T:nZ P](e:Nat->List D)(h:List (Nat×SV)):Op->Option SV
 | .call c=>match c.callee,c.args.toList,c.argTypes.toList with
  | .builtin .len,[x],[t]=>match jb e h x with
   |some (.d (.sl _ ls))=>cond (uw T.QD.us t) (some (.d (.v (.int .i64 ls.length)))) none
   |some (.own _ _ ls)=>cond (uw T.QD.us t) (some (.d (.v (.int .i64 ls.length)))) none
   |some (.d (.v (.string s)))=>cond (uw T.QD.ut t) (some (.d (.v (.int .i64 s.size)))) none
   |_=>none
  |_,_,_=>none
 |_=>none
def f1O(P:Program)[T:nZ P](e:Nat->List D)(h:List (Nat×SV))(j:List Ob):Op->Option (SV×List Nat)
 | .load t x=>(flO e (Nw P) h j (.load t x)).bind λs=>match jb e h x with
  |some (.jk i _)=>some (s,[i])
  |_=>some (s,[])
 | .call c=>(leO P e h (.call c)).bind λs=>some (s,[])
 |op=>(flO e (Nw P) h j op).bind λs=>some (s,[])
section
variable {P:Program} [T:nZ P] {GL:Nat->List D} {n0:Nat} {Pn:jO}
theorem y5(h:uw l t=true):t∈l:=xd.1 h
theorem Rg(r:Wv P c)(z:o.op=.load t x)(h:flO GL c j y (.load t x)=some s)
 (e:K s (match jb GL j x with|some (.jk i _)=>[i]|_=>[])):ik P GL o ⟨n,j,y⟩ K:=by
 simp only[flO] at h;obtain⟨ti,C,h⟩:=ai.1 h;cases hz:ti.ok<;>rw[hz] at h
 .cases h
 .simp only[cond_true] at h;split at h
  .rename_i i off b;rw[b] at e;split at h
   .rename_i l ty F;obtain⟨l1,k,h⟩:=ai.1 h;obtain⟨cs,U,q⟩:=ai.1 h;exact Hg (r _ _ C) e z b F hz k U q
   .cases h
  .rename_i l b;rw[b] at e;obtain⟨G,k,h⟩:=ai.1 h;obtain⟨cs,U,q⟩:=ai.1 h;exact Vi (r _ _ C) e z b hz k U q
  .cases h
theorem X1(I:Wv P G)(S:∀t x,o.op≠ .load t x)(h:flO GL G J M o.op=some s)(c:K s []):ik P GL o ⟨n,J,M⟩ K:=by
 generalize U:o.op=op at h;cases op<;>simp only[flO,reduceCtorEq] at h
 case move x=>exact mv c U h
 case assign x=>exact Wl c U h
 case nilCheck x=>
  split at h
  .rename_i i off e;cases h;exact ncb c U e
  .rename_i l e;cases h;exact XB c U e
  .cases h
 case fieldAddr T x f=>
  obtain⟨ti,H,h⟩:=ai.1 h;split at h
  .rename_i o1 sz ag r F;cases hz:Nat.beq sz 0<;>rw[hz] at h
   .simp only[cond_false] at h;split at h
    .rename_i i off e;cases h;exact fdb (I _ _ H) c U e F hz
    .rename_i l e;obtain⟨l',j,q⟩:=ai.1 h;cases q;exact WL (I _ _ H) c U e F hz j
    .cases h
   .cases h
  .cases h
 case load T x=>exact absurd U (S T x)
 case extract x i=>
  split at h
  .rename_i l e;exact ex1 c U e h
  .rename_i l e;obtain⟨V,j,q⟩:=ai.1 h;cases q;exact ex2 c U e j
  .cases h
 case binOp op T x y T'=>
  split at h
  .rename_i k m W n' z C;cases R:kEq k W<;>rw[R] at h
   .cases h
   obtain rfl:=Vn R;simp only[cond_true] at h;obtain⟨b,j,q⟩:=ai.1 h;cases q;cases op<;>simp only[adk,an,reduceCtorEq] at j
   all_goals subst j
   case eql=>exact ieq c U z C
   case neq=>exact ine c U z C
   case lss=>exact ilt c U z C
   case leq=>exact ile c U z C
   case gtr=>exact igt c U z C
   case geq=>exact ige c U z C
  .rename_i V t' z C;obtain⟨b,j,q⟩:=ai.1 h;cases q;cases op<;>simp only[adj,an,reduceCtorEq] at j
   all_goals subst j
   case eql=>exact seq1 c U z C
   case neq=>exact sne c U z C
  .cases h
 case unOp op T x=>
  cases op<;>simp only[flO,reduceCtorEq] at h;split at h
  .rename_i b e;cases h;exact ada c U e
  .cases h
 case build T ps=>
  obtain⟨ti,H,h⟩:=ai.1 h;cases hz:ti.TP<;>rw[hz] at h
  .cases h
  .cases F:ti.fok<;>rw[F] at h
   .cases h
   .simp only[cond_true] at h;obtain⟨es,j,h⟩:=ai.1 h;obtain⟨z0,q,h⟩:=ai.1 h;obtain⟨cs,Y,h5⟩:=ai.1 h;cases h5;exact bld (I _ _ H) c U hz F F j q Y
theorem Z2(e:o.op=q)(h:leO P GL j q=some s)(i:K s []):ik P GL o ⟨n,j,r⟩ K:=by
 unfold leO at h;split at h
 .rename_i c;obtain⟨U,⟨a⟩,⟨y⟩⟩:=c;simp only at h;split at h
  .rename_i x t;split at h
   .rename_i k;cases b:uw T.QD.us t<;>rw[b] at h
    .cases h
    .cases h;exact le1 (T.us _ (y5 b)) i e k
   .rename_i k;cases b:uw T.QD.us t<;>rw[b] at h
    .cases h
    .cases h;exact le2 (T.us _ (y5 b)) i e k
   .rename_i k;cases b:uw T.QD.ut t<;>rw[b] at h
    .cases h
    .cases h;exact le3 (T.ut _ (y5 b)) i e k
   .cases h
  .cases h
 .cases h
theorem PB(h:f1O P GL r y o.op=some (s,L))(e:K s L):ik P GL o ⟨n,r,y⟩ K:=by
 unfold f1O at h;split at h
 .rename_i t x U;obtain⟨z,k,b⟩:=ai.1 h;split at b
  .rename_i i off j;cases b;exact Rg (ri P) U k (by rw[j];exact e)
  .rename_i j;cases b;refine Rg (ri P) U k ?_;split
   .rename_i i off q;exact absurd q (j i off)
   .exact e
 .rename_i c U;obtain⟨z,k,b⟩:=ai.1 h;cases b;exact Z2 U k e
 .rename_i C F;obtain⟨z,k,b⟩:=ai.1 h;cases b;exact X1 (ri P) C k e
end
inductive Fm where
 |s (c:Code)
 |b (id:Nat)
 |q (K:St->Prop)
inductive Tg where
 |c (c:Code)
 |o (ops l:List Oper)
 |e (e:Ex)
def den(P:Program)(e:Nat->List D)(h:Nat)(i:jO)(Q:Ex->St->Prop):List Fm->Ex->St->Prop
 |[]=>Q
 | .s c::K=>Ex.seq (λσ=>iK P e h i c (den P e h i Q K) σ) (den P e h i Q K)
 | .b id::K=>Ex.inBlock id (den P e h i Q K)
 | .q R::K=>Ex.seq (λσ=>R σ) (den P e h i Q K)
def Tg.ok(P:Program)(c:Nat->List D)(n0:Nat)(e:jO)(K:List Fm)(Q:Ex->St->Prop)(σ:St):Tg->Prop
 | .c x=>iK P c n0 e x (den P c n0 e Q K) σ
 | .o x y=>iL P c n0 e x y (den P c n0 e Q K) σ
 | .e x=>den P c n0 e Q K x σ
inductive Rz where
 |ok (t:Tg) (K:List Fm) (sl:List (Nat×SV)) (ob:List Ob)
 |no
def SU(c:List Oper)(e:List (Nat×SV))(o:Oper):Option Bool:=match o.guard with
 |none=>some true
 |some (j,b)=>(rf c j).bind λd=>match oV d e with
  |some (.d (.v (.bool true)))=>some b
  |some (.d (.v (.bool false)))=>some (!b)
  |some (.d (.v (.tuple _)))=>some false
  |_=>none
def opO(P:Program)[T:nZ P](j:Nat->List D)(n m:Nat)(e:List (Nat×SV))(h:List Ob)(op:Op)(c:Option Nat):Option (Nat×List (Nat×SV)×List Ob):=match op with
 | .alloc t=>match c with
  |some d=>(Nw P t).bind λti=>cond (Nat.blt d n) (cond ti.TP ((wY ti.zero).bind λcs=>(pY h [.cells cs t]).bind λob'=>some (m+1,(d,.jk m 0)::e,ob')) none) none
  |none=>none
 | .box t x=>match c with
  |some d=>(Nw P t).bind λti=>cond (Nat.blt d n) ((jb j e x).bind λs=>(rk ti.agg s).bind λcs=>(pY h [.cells cs t]).bind λob'=>some (m+1,(d,.jk m 0)::e,ob')) none
  |none=>none
 | .store t x y=>match c with
  |none=>match jb j e x with
   |some (.jk i off)=>match jo i h with
    |some (.cells l b)=>(Nw P t).bind λti=>cond ti.ok ((jb j e y).bind λs=>(rk ti.agg s).bind λcs=>cond (Nat.beq cs.length ti.size) (cond (pH cs) ((CE off cs l).bind λk=>(pD i (.cells k b) h).bind λob'=>some (m,e,ob')) none) none) none
    |_=>none
   |_=>none
  |some _=>none
 |op=>match c with
  |some d=>cond (Nat.blt d n) (match f1O P j e h op with
   |some (s,_)=>some (m,(d,s)::e,h)
   |none=>none) none
  |none=>none
def run(P:Program)[T:nZ P](h:Nat->List D)(n:Nat):Nat->Tg->List Fm->Nat->List (Nat×SV)->List Ob->Rz
 |0,t,K,_,sl,ob=>.ok t K sl ob
 |N+1,.c c,K,m,sl,ob=>match c with
  | .seq a b=>run P h n N (.c a) (.s b::K) m sl ob
  | .region _ ⟨l⟩ k=>match k with
   |false=>run P h n N (.o l l) K m sl ob
   |true=>.no
  | .skip=>run P h n N (.e .normal) K m sl ob
  | .ret=>run P h n N (.e .ret) K m sl ob
  | .exit id=>run P h n N (.e (.exit id)) K m sl ob
  | .block id c=>run P h n N (.c c) (.b id::K) m sl ob
  |_=>.no
 |N+1,.o ops l,K,m,sl,ob=>match l with
  |[]=>run P h n N (.e .normal) K m sl ob
  |o::r=>match SU ops sl o with
   |some true=>match opO P h n m sl ob o.op o.dst with
    |some (U,sl',ob')=>run P h n N (.o ops r) K U sl' ob'
    |none=>.no
   |some false=>match o.dst with
    |some d=>cond (Nat.blt d n) (run P h n N (.o ops r) K m ((d,.d (.v undef))::sl) ob) .no
    |none=>.no
   |none=>.no
 |N+1,.e e,K,m,sl,ob=>match K with
  | .s c::K=>match e with
   | .normal=>run P h n N (.c c) K m sl ob
   |e=>run P h n N (.e e) K m sl ob
  | .b id::K=>match e with
   | .normal=>run P h n N (.e .normal) K m sl ob
   | .exit j=>cond (Nat.beq j id) (run P h n N (.e .normal) K m sl ob) (run P h n N (.e (.exit j)) K m sl ob)
   |e=>run P h n N (.e e) K m sl ob
  | .q _::K=>match e with
   | .normal=>.no
   |e=>run P h n N (.e e) K m sl ob
  |[]=>.no
section
variable {P:Program} [T:nZ P] {GL:Nat->List D} {n0:Nat} {Pn:jO} {Q:Ex->St->Prop}
theorem EI(h:SU e i o=some true)(q:iL P GL n0 Pn e ({ o with guard:=none }::c) Q ⟨n,i,s⟩):iL P GL n0 Pn e (o::c) Q ⟨n,i,s⟩:=by
 unfold SU at h;split at h
 .rename_i k;have:({ o with guard:=none }:Oper)=o:=by cases o;simp only at k;subst k;rfl
  rwa [this] at q
 .rename_i j U k;obtain⟨d,x,b⟩:=ai.1 h;split at b
  .rename_i r;simp only[an] at b;subst b;exact wv k x r q
  .rename_i r;simp only[an] at b;exact wv k x (by rw[r];cases U<;>first|rfl|cases b) q
  .cases b
  .cases b
theorem NG(y:o.guard=some (j,i))(z:rf e j=some G)(C:oV G r=some (.d (.v (.tuple x))))(q:o.dst=some t)(F:Nat.blt t n=true)
 (h:iL P GL n0 Pn e c Q ⟨n,(t,.d (.v undef))::r,s⟩):iL P GL n0 Pn e (o::c) Q ⟨n,r,s⟩:=λB U a w ⟨g,k⟩=>by
 have b:a.tmps.getD G undef=.tuple x:=by have:=k.j9 G;rw[ou C] at this;exact this
 unfold wpList;rw[xv y z b,if_neg (by simp),q];exact h B U _ w ⟨g,k.put F rfl⟩
theorem VF(h:SU e i o=some false)(q:o.dst=some F)(r:Nat.blt F n=true)(s:iL P GL n0 Pn e c Q ⟨n,(F,.d (.v undef))::i,z⟩):iL P GL n0 Pn e (o::c) Q ⟨n,i,z⟩:=by
 unfold SU at h;split at h
 .cases h
 .rename_i j k x;obtain⟨C,y,b⟩:=ai.1 h;split at b
  .rename_i U;simp only[an] at b;subst b;exact xM x y U q r s
  .rename_i U;simp only[an] at b;exact xM x y (by rw[U];cases k<;>first|rfl|cases b) q r s
  .rename_i U;exact NG x y U q r s
  .cases b
theorem ZS(j:M.length=m)(G:o.guard=none)(h:opO P GL n m S M o.op o.dst=some (R,r,e))(H:e.length=R->iL P GL n0 Pn q c Q ⟨n,r,e⟩):iL P GL n0 Pn q (o::c) Q ⟨n,S,M⟩:=by
 unfold opO at h;split at h
 .rename_i t U;split at h
  .rename_i d hd;obtain⟨ti,z,h⟩:=ai.1 h;cases b:Nat.blt d n<;>rw[b] at h
   .cases h
   cases hz:ti.TP<;>rw[hz] at h
   .cases h
   simp only[cond_true] at h;obtain⟨cs,C,h⟩:=ai.1 h;obtain⟨F,k,h⟩:=ai.1 h;cases h;exact oc (T:=λ_=>False) (Yz (ri P _ _ z) (H (by rw[nM k];simp[j])) U hd hz b C k j) G
  .cases h
 .rename_i t x U;split at h
  .rename_i d hd;obtain⟨ti,z,h⟩:=ai.1 h;cases b:Nat.blt d n<;>rw[b] at h
   .cases h
   simp only[cond_true] at h;obtain⟨s,C,h⟩:=ai.1 h;obtain⟨cs,k,h⟩:=ai.1 h;obtain⟨F,I,h⟩:=ai.1 h;cases h;exact oc (T:=λ_=>False) (bx (ri P _ _ z) (H (by rw[nM I];simp[j])) U hd C b k I j) G
  .cases h
 .rename_i t x y U;split at h
  .rename_i hd;split at h
   .rename_i i off W;split at h
    .rename_i l Y hi;obtain⟨ti,z,h⟩:=ai.1 h;cases hz:ti.ok<;>rw[hz] at h
     .cases h
     simp only[cond_true] at h;obtain⟨s,C,h⟩:=ai.1 h;obtain⟨cs,k,h⟩:=ai.1 h;cases J:Nat.beq cs.length ti.size<;>rw[J] at h
     .cases h
     cases ha:pH cs<;>rw[ha] at h
     .cases h
     simp only[cond_true] at h;obtain⟨l',I,h⟩:=ai.1 h;obtain⟨F,V,h⟩:=ai.1 h;cases h;exact oc (Ug (ri P _ _ z) (H (by rw[(nL V).1,da];exact j)) U hd W C hi hz k J ha I V) G
    .cases h
   .cases h
  .cases h
 .split at h
  .rename_i d hd;cases b:Nat.blt d n<;>rw[b] at h
   .cases h
   simp only[cond_true] at h;split at h
   .rename_i s L J;cases h;exact tB G hd b (PB J (H j))
   .cases h
  .cases h
theorem ln{n:Nat}:∀{N:Nat} {t i:Tg} {K K':List Fm} {m:Nat} {sl sl':List (Nat×SV)} {ob ob':List Ob},ob.length=m->run P GL n N t K m sl ob=.ok i K' sl' ob'->i.ok P GL n0 Pn K' Q ⟨n,sl',ob'⟩->t.ok P GL n0 Pn K Q ⟨n,sl,ob⟩
 |0,t,i,K,K',m,sl,sl',ob,ob',U,k,h=>by cases k;exact h
 |N+1,.c c,i,K,K',m,sl,sl',ob,ob',U,k,h=>by
  show iK P GL n0 Pn c (den P GL n0 Pn Q K) _;unfold run at k;split at k
  .exact wJ (ln U k h)
  .rename_i id l I;split at k
   .exact ue (ln U k h)
   .cases k
  .exact HS (ln U k h)
  .exact yH (ln U k h)
  .exact HW (ln U k h)
  .exact vc (ln U k h)
  .cases k
 |N+1,.o ops l,i,K,K',m,sl,sl',ob,ob',U,k,h=>by
  show iL P GL n0 Pn ops l (den P GL n0 Pn Q K) _;unfold run at k;split at k
  .exact BB (ln U k h)
  .rename_i o r;split at k
   .rename_i y;split at k
    .rename_i J G H z;exact EI y (ZS (o:={ o with guard:=none }) U rfl z λC=>ln C k h)
    .cases k
   .rename_i y;split at k
    .rename_i d hd;cases x:Nat.blt d n<;>rw[x] at k
     .cases k
     .exact VF y hd x (ln U k h)
    .cases k
   .cases k
 |N+1,.e e,i,K,K',m,sl,sl',ob,ob',U,k,h=>by
  show den P GL n0 Pn Q K e _;cases K with
  |nil=>simp only[run,reduceCtorEq] at k
  |cons f K=>
   cases f with
   |s c=>cases e<;>exact(ln (N:=N) U k h:Tg.ok _ _ _ _ _ _ _ _)
   |b id=>
    cases e with
    |exit j=>
     change cond (Nat.beq j id) _ _=_ at k
     cases x:Nat.beq j id<;>rw[x] at k
     .have F:=ln (N:=N) U k h;exact SM (Q:=den P GL n0 Pn Q K) x F
     .have e:j=id:=by simpa using x
      subst e;have F:=ln (N:=N) U k h;exact Vw (Q:=den P GL n0 Pn Q K) F
    |normal=>exact(ln (N:=N) U k h:Tg.ok _ _ _ _ _ _ _ _)
    |goto l=>exact(ln (N:=N) U k h:Tg.ok _ _ _ _ _ _ _ _)
    |ret=>exact(ln (N:=N) U k h:Tg.ok _ _ _ _ _ _ _ _)
   |q R=>
    cases e with
    |normal=>cases k
    |exit j=>exact(ln (N:=N) U k h:Tg.ok _ _ _ _ _ _ _ _)
    |goto l=>exact(ln (N:=N) U k h:Tg.ok _ _ _ _ _ _ _ _)
    |ret=>exact(ln (N:=N) U k h:Tg.ok _ _ _ _ _ _ _ _)
theorem gy{Q:Ex->St->Prop}(h:iL P GL n0 Pn e ({ o with guard:=none }::c) Q ⟨n,i,j⟩)(q:SU e i o=some true:=by exact rfl):iL P GL n0 Pn e (o::c) Q ⟨n,i,j⟩:=EI q h
theorem gk(N L M){t0:Tg}(h:t.ok P GL n0 Pn z Q ⟨n,q,r⟩)(G:s.length=m)(H:run P GL n N t0 y m F s=.ok (.c c) K i e)(I:uz i L=some j)(x:e.length=C)(J:run P GL n M (.c c) K C j e=.ok t z q r):t0.ok P GL n0 Pn y Q ⟨n,F,s⟩:=
 ln G H (show iK _ _ _ _ _ _ _ from HV L I (ln (t:=.c c) x J h))
theorem kc(N L M)(h:t.ok P GL n0 Pn C Q ⟨n,q,r⟩)(H:x.length=m:=by simp only[aj,aH,Nat.reduceAdd];rfl)(I:run P GL n N (.c s) z m G x=.ok (.c c) K i e:=by exact rfl)(J:uz i L=some j:=by exact rfl)(y:e.length=F:=by simp only[aj,aH,Nat.reduceAdd];rfl)(R:run P GL n M (.c c) K F j e=.ok t C q r:=by exact rfl):iK P GL n0 Pn s (den P GL n0 Pn Q z) ⟨n,G,x⟩:=gk (t0:=.c s) N L M h H I J y R
end
section
theorem xc(x:ι->List (Nat×SV))(C)(h:ι->Prop)(F:uz s C=some e)
 (G:iK P j c q y (den P j c q Q (.q (λb=>yr c (λi=>⟨n,x i++e,r⟩) h b)::K)) ⟨n,s,r⟩) (H:∀i,h i->iK P j c q z (den P j c q Q K) ⟨n,x i++e,r⟩):iK P j c q y (den P j c q Q (.s z::K)) ⟨n,s,r⟩:=
 Om x C h F G H
theorem xo(x:ι->List (Nat×SV))(h:ι->List Ob)(F)(j:ι->Prop)(G:uz s F=some e)
 (h1:iK P q c r y (den P q c r Q (.q (λb=>yr c (λi=>⟨n,x i++e,h i⟩) j b)::K)) ⟨n,s,C⟩) (h2:∀i,j i->iK P q c r z (den P q c r Q K) ⟨n,x i++e,h i⟩):iK P q c r y (den P q c r Q (.s z::K)) ⟨n,s,C⟩:=
 Ol x h F j G h1 h2
theorem bk(i:ι)(s:S i=⟨n,c,ob'⟩)(x:I i)(ρ)(y:um e ⟨n,h,j⟩ ⟨n,c,ob'⟩ ρ):Tg.ok P q e r (.q (λb=>yr e S I b)::K) Q ⟨n,h,j⟩ (.e .normal):=(⟨i,ρ,x,s▸y⟩:yr e S I _)
theorem bi(i:ι)(x:S i=⟨n,e,c⟩)(y:I i)(z:um h ⟨n,j,q⟩ ⟨n,e,c⟩ (Ml 0 c.length)):Tg.ok P r h s (.q (λb=>yr h S I b)::K) Q ⟨n,j,q⟩ (.e .normal):=(⟨i,_,y,x▸z⟩:yr h S I _)
theorem mz(i:jh h ρ c ρ:=by repeat (first|exact nw|refine jN ?_|refine oT ?_|refine Nz ?_|refine D3 ?_|refine rl ?_|refine GK ?_))(j:tl h ρ x e:=by repeat (first|exact rA|refine iU ?_))(y:pre 0 s ρ=true:=by exact rfl)(q:me ρ=true:=by exact rfl)(r:nF c=true:=by exact rfl):um s ⟨n,x,h⟩ ⟨n,e,c⟩ ρ:=BH y q r i j
theorem cJ(x:q->iK P e i j s Q σ)(y:p->iK P e i j r Q σ)(z:jb e σ.sl c=some (fH G):=by exact rfl)
 (C:(G=true)=p:=by first|(simp(decide:=true) only[lP];exact rfl)|exact rfl) (F:(G=false)=q:=by first|(simp(decide:=true) only[lP];exact rfl)|exact rfl):iK P e i j (.cond c r s) Q σ:=tu z (λh=>y (C▸h)) (λh=>x (F▸h))
theorem ct(h:iK P i j q r Q σ)(x:jb i σ.sl c=some (fH z):=by exact rfl)(y:(z=false)=False:=by simp(decide:=true) only[lP]):iK P i j q (.cond c r s) Q σ:=tu x (λ_=>h) (λe=>(y▸e:False).elim)
theorem wI(i:oV j c=some y)(h:oV t c=some x):oV t ((j,y)::c)=some x:=by
 show cond (Nat.beq j t) (some y) (oV t c)=some x;cases b:Nat.beq j t
 .exact h
 .have e:j=t:=by simpa using b
  subst e;exact i.symm.trans h
theorem zz(F:oV I c=some y)(G:rh z ((I,y)::c)=true)(h:iL P j q r i l Q ⟨n,(t,s)::c,C⟩):iL P j q r i l Q ⟨n,(t,s)::(z++(I,y)::c),C⟩:=λB U a w ⟨g,k⟩=>
 h B U a w ⟨g,k.defers,k.size,λu=>by
  have b:=k.j9 u;show(vO u ((t,s)::c)).Den g _;rw[n5] at b ⊢;split
  .rename_i e;rw[if_pos e] at b;exact b
  .rename_i e;rw[if_neg e] at b;rw[Jx] at b ⊢;cases H:oV u c with
   |none=>trivial
   |some x=>rw[qo G (wI F H)] at b;exact b,k.store,k.pG⟩
theorem TO.over(i:oV q e=some y)(h:TO c e o):TO c ((q,y)::e) o:=by
 cases h with
 |none h=>exact .none h
 |yes b k U j=>exact .yes b k (wI i U) j
theorem oa{d:Nat}(k)
 (J:C->(∀ q,oV yt q=some (fH p)->rh q ((d,fH true)::i)=true->iL P r s x c (o::e) Q ⟨n,q++(d,fH true)::i,y⟩)->iL P r s x c l Q ⟨n,(d,fH true)::i,y⟩)
 (M:q2->(∀ q,rh q ((d,fH false)::i)=true->iL P r s x c (o::e) Q ⟨n,q++(d,fH false)::i,y⟩)->iL P r s x c l Q ⟨n,(d,fH false)::i,y⟩)
 (h:iL P r s x c e Q ⟨n,(t,fH (Y&&p))::i,y⟩)
 (W:nW k l=some (o::e):=by exact rfl) (F:o.op=.pick (.tmp d) (.tmp yt) (.const (.bool false)):=by exact rfl) (j:oV d i=some (fH Y):=by exact rfl) (G:o.dst=some t:=by exact rfl) (H:Nat.blt t n=true:=by exact rfl)
 (R:(Y=true)=C:=by first|(simp(decide:=true) only[lP];exact rfl)|exact rfl) (S:(Y=false)=q2:=by first|(simp(decide:=true) only[lP];exact rfl)|exact rfl) (I:TO c i o:=by exact .none rfl):iL P r s x c l Q ⟨n,i,y⟩:=by
 cases z:Y with
 |true=>
  subst z;refine ov d true j rfl (J (R▸rfl) λq V U=>v7 (I.over j) U (tB rfl G H (uV F (qo U (wI j j)) (Bj V) ?_)));exact zz j U (by simpa using h)
 |false=>
  subst z;refine ov d false j rfl (M (S▸rfl) λq U=>v7 (I.over j) U (tB rfl G H (uW F (qo U (wI j j)) rfl ?_)));exact zz j U (by simpa using h)
theorem oo{d:Nat}(k)
 (J:C->(∀ q,oV yt q=some (fH p)->rh q ((d,fH false)::i)=true->iL P r s x c (o::e) Q ⟨n,q++(d,fH false)::i,y⟩)->iL P r s x c l Q ⟨n,(d,fH false)::i,y⟩)
 (M:q2->(∀ q,rh q ((d,fH true)::i)=true->iL P r s x c (o::e) Q ⟨n,q++(d,fH true)::i,y⟩)->iL P r s x c l Q ⟨n,(d,fH true)::i,y⟩)
 (h:iL P r s x c e Q ⟨n,(t,fH (Y||p))::i,y⟩)
 (W:nW k l=some (o::e):=by exact rfl) (F:o.op=.pick (.tmp d) (.const (.bool true)) (.tmp yt):=by exact rfl) (j:oV d i=some (fH Y):=by exact rfl) (G:o.dst=some t:=by exact rfl) (H:Nat.blt t n=true:=by exact rfl)
 (R:(Y=false)=C:=by first|(simp(decide:=true) only[lP];exact rfl)|exact rfl) (S:(Y=true)=q2:=by first|(simp(decide:=true) only[lP];exact rfl)|exact rfl) (I:TO c i o:=by exact .none rfl):iL P r s x c l Q ⟨n,i,y⟩:=by
 cases z:Y with
 |false=>
  subst z;refine ov d false j rfl (J (R▸rfl) λq V U=>v7 (I.over j) U (tB rfl G H (uW F (qo U (wI j j)) (Bj V) ?_)));exact zz j U (by simpa using h)
 |true=>
  subst z;refine ov d true j rfl (M (S▸rfl) λq U=>v7 (I.over j) U (tB rfl G H (uV F (qo U (wI j j)) rfl ?_)));exact zz j U (by simpa using h)
theorem AW(C:iH P i=j)(h:K ⟨n,(t,.jk R 0)::r,c⟩)(F:o.op=.alloc i:=by exact rfl)(G:o.dst=some t:=by exact rfl)(H:j.TP=true:=by exact rfl)(I:Nat.blt t n=true:=by exact rfl)(J:wY j.zero=some s:=by exact rfl)(q:pY e [.cells s i]=some c:=by exact rfl)(M:e.length=R:=by simp only[aj,aH,Nat.reduceAdd];rfl):jI P x y z (λ_=>False) o ⟨n,r,e⟩ K:=FF C H F G I J M q h
theorem CW{k:Nat}(W:rX P M e c q)(y)(Y:iH P e=R)(h:K ⟨n,(t,.own k c r)::z,ob'⟩)(ho:o.op=.buildSlice M j i:=by exact rfl)
 (hd:o.dst=some t:=by exact rfl) (ht:Nat.blt t n=true:=by exact rfl) (hp:Kd 0 y=some i.toList:=by exact rfl) (F:MO J z R.agg y=some r:=by exact rfl) (s:GP c r=true:=by exact rfl) (hn:y.length=j:=by exact rfl) (G:0<c:=by decide) (H:0<j:=by decide) (x:j*c<=16777216:=by decide) (hl:C.length=k:=by simp only[aj,aH,Nat.reduceAdd];rfl) (I:pY C [.row e c]=some ob':=by exact rfl):jI P J S V (λ_=>False) o ⟨n,z,C⟩ K:=OE W y Y ho hd ht hp F s hn G H x hl I h
theorem ya(TS:rX P J e c r)(h:K ⟨n,(t,.own i c (G++q))::y,ob'⟩)(ho:o.op=.call { callee:=.builtin .append,args:= #[s,x],argTypes:= #[J,J] }:=by exact rfl)
 (hd:o.dst=some t:=by exact rfl) (ht:Nat.blt t n=true:=by exact rfl) (hs:jb H F s=some (.own i c G):=by exact rfl) (hx:jb H F x=some sx:=by exact rfl) (R:sx.p9=some (.sl c q):=by exact rfl) (hi:jo i I=some M:=by exact rfl) (S:M=.row e c\/M=.jd e c:=by exact .inl rfl)
 (V:0<c:=by decide) (W:q≠[]:=by simp) (Y:G.length+q.length<=maxLen/\(G.length+q.length)*r<=140737488355328:=by first|decide|(simp only[maxLen,aj,aH];omega)|(simp only[maxLen,aj,aH,aN,bc];omega)|omega) (hsl:Ix i F=some y:=by exact rfl) (hob:Iy i I=some z:=by exact rfl) (C:pD i (.row e c) z=some ob':=by exact rfl):jI P H n0 Pn (λj=>j=i) o ⟨n,F,I⟩ K:=CQ TS ho hd ht hs hx R hi S V W Y hsl hob C h
theorem fN(h:Fin P c e i Q σ):fin P c e i Q .normal σ:=h
variable {P:Program} [T:nZ P] {GL:Nat->List D} {n0:Nat} {Pn:jO}
def Eg(P:Program)[T:nZ P](c:List (Nat×SV))(e:List Ob):List ResultVar->Option (List SV)
 |[]=>some []
 | .tmp t::r=>(oV t c).bind λs=>(Eg P c e r).bind λl=>some (s::l)
 | .cell x t::r=>(Nw P t).bind λti=>cond ti.ok (match oV x c with
  |some (.jk i off)=>match jo i e with
   |some (.cells l _)=>(nW off l).bind λl1=>(rJ ti.size l1).bind λcs=>(xh ti.agg cs).bind λs=>(Eg P c e r).bind λl=>some (s::l)
   |_=>none
  |_=>none) none
theorem vR{n:Nat}{c:List (Nat×SV)}{e:List Ob}:∀{j:List ResultVar} {l:List SV},Eg P c e j=some l->rv GL P ⟨n,c,e⟩ j l
 |[],l,h=>by simp only[Eg,an] at h;exact h.symm
 | .tmp t::r,l,h=>by
  obtain⟨s,b,h⟩:=ai.1 h;obtain⟨l1,k,U⟩:=ai.1 h;cases U;exact⟨_,_,rfl,b,vR k⟩
 | .cell x t::r,l,h=>by
  obtain⟨ti,b,h⟩:=ai.1 h;cases hz:ti.ok<;>rw[hz] at h
  .cases h
  simp only[cond_true] at h;split at h
  .rename_i i off q;split at h
   .rename_i G ty y;obtain⟨l1,k,h⟩:=ai.1 h;obtain⟨cs,U,h⟩:=ai.1 h;obtain⟨s,z,h⟩:=ai.1 h;obtain⟨l2,C,F⟩:=ai.1 h;cases F;exact⟨_,_,rfl,jB q y (ri P _ _ b) hz k U z,vR C⟩
   .cases h
  .cases h
theorem fR(h:Fin P GL n0 c Q σ):Tg.ok P GL n0 Pn [] (fin P GL n0 c Q) σ (.e .ret):=h
theorem fM(h:Fin P GL n0 c Q σ):Tg.ok P GL n0 Pn [] (fin P GL n0 c Q) σ (.e .normal):=h
theorem eo(i ρ c)(y:Q (.ret (.d i)) c)(h:Eg P x e s=some l:=by exact rfl)(z:(ve l).p9=some G:=by exact rfl)(C:KK G i:=by repeat (first|exact .refl _|exact .nil|refine .agg ?_|refine .jj ?_|refine .sl ?_|refine .cons ?_ ?_))
 (j:jh e ρ c ρ:=by repeat (first|exact nw|refine jN ?_|refine oT ?_|refine Nz ?_|refine rl ?_|refine GK ?_)) (F:pre 0 n0 ρ=true:=by exact rfl) (q:me ρ=true:=by exact rfl) (r:nF c=true:=by exact rfl):Tg.ok P GL n0 Pn [] (fin P GL n0 s Q) ⟨n,x,e⟩ (.e .ret):=
 pc (n0:=n0) (vR h) z i C ρ c F q r j y
theorem ez(j:Q r)(h:Eg P e i c=some l:=by exact rfl)(q:(ve l).p9=some r:=by exact rfl):Tg.ok P GL 0 Pn [] (fin P GL 0 c (Cc Q)) ⟨n,e,i⟩ (.e .ret):=
 Y2 (vR h) q j
theorem Mv(i:jE GL B ⟨n,s,z⟩ g a w)(h:SU l s o=some C):Region.wanted o (yielded l.toArray a.tmps)=C:=by
 unfold SU at h;split at h
 .rename_i c;cases h;simp[Region.wanted,c]
 .rename_i j k c;obtain⟨y,q,U⟩:=ai.1 h;split at U
  .rename_i e;rw[tp i c q e];simp only[an] at U;rw[<- U];cases k<;>rfl
  .rename_i e;rw[tp i c q e];simp only[an] at U;rw[<- U];cases k<;>rfl
  .rename_i x e;cases U;have r:a.tmps.getD y undef=.tuple x:=by have:=i.j9 y;rw[ou e] at this;exact this
   exact xv c (by simpa using q) r
  .cases U
def Qd(P:Program)[T:nZ P](e:Nat->List D)(n:Nat)(c:List Oper)(h:List Ob):List Nat->List (Nat×Nat)->List (Nat×SV)->Option (List (Nat×Nat)×List (Nat×SV))
 |[],L,sl=>some (L,sl)
 |i::r,L,sl=>match jo i c with
  |some o=>match o.dst with
   |some d=>cond (Nat.blt d n) (match SU c sl o with
    |some true=>match f1O P e sl h o.op with
     |some (s,b)=>match Ea i b L with
      |some L2=>Qd P e n c h r L2 ((d,s)::sl)
      |none=>none
     |none=>none
    |some false=>Qd P e n c h r L ((d,.d (.v undef))::sl)
    |none=>none) none
   |none=>none
  |none=>none
def Tu(c:List Oper):List Nat->Array Bool->Bool
 |[],_=>true
 |i::r,listed=>((Region.ready .any c.toArray listed).contains i&&Region.free .any c.toArray listed i&&Region.noSelect c.toArray)&&Tu c r (listed.setIfInBounds i true)
def Uo:List Nat->Array Bool->Array Bool
 |[],l=>l
 |i::r,l=>Uo r (l.setIfInBounds i true)
theorem Jc(i)(x:l[i]? =some o)(F:∀B g a w,jE GL B ⟨n,q,r⟩ g a w->Region.wanted o (yielded l.toArray a.tmps)=false)(G:o.dst=some t)(H:Nat.blt t n=true)
 (y:((Region.ready .any l.toArray c).contains i&&Region.free .any l.toArray c i&&Region.noSelect l.toArray)=true)
 (h:iW P GL n0 Pn l fuel (c.setIfInBounds i true) L Q ⟨n,(t,.d (.v undef))::q,r⟩):iW P GL n0 Pn l (fuel+1) c L Q ⟨n,q,r⟩:=λB I g a w J z C k=>by
 simp only[bY] at y;obtain⟨⟨b,U⟩,e⟩:=y;have j:l.toArray[i]? =some o:=by simpa using x
 refine Cj (CX x) j (Region.noSelect_spec e) fuel _ c a w (Region.free_spec j U) (by simpa using b) (v:=undef) (.inr ⟨F B g a w z,rfl⟩) C ?_;rw[G];exact h B I g _ w _ (z.wQ (s:=.d (.v undef)) H rfl) C k
theorem KD{Q:Ex->St->Prop}{l:List Oper}{fuel:Nat}{n:Nat}{j:List Ob}:∀{c:List Nat} {listed:Array Bool} {L e:List (Nat×Nat)} {sl sl':List (Nat×SV)},Qd P GL n l j c L sl=some (e,sl')->Tu l c listed=true->iW P GL n0 Pn l fuel (Uo c listed) e Q ⟨n,sl',j⟩->iW P GL n0 Pn l (fuel+c.length) listed L Q ⟨n,sl,j⟩
 |[],listed,L,e,sl,sl',h,q,b=>by cases h;exact b
 |i::r,listed,L,e,sl,sl',h,q,b=>by
  unfold Qd at h;unfold Tu at q;obtain⟨k,U⟩:=(bY _ _).mp q;split at h
  .rename_i o z;split at h
   .rename_i d hd;cases x:Nat.blt d n<;>rw[x] at h
    .cases h
    simp only[cond_true] at h;split at h
    .rename_i y;split at h
     .rename_i s G C;split at h
      .rename_i L2 F;exact zU (fuel:=fuel+r.length) i (iS z) (λB g a w b=>Mv b y) hd x k rfl (PB C ⟨L2,F,KD h U b⟩)
      .cases h
     .cases h
    .rename_i y;exact Jc (fuel:=fuel+r.length) i (iS z) (λB g a w b=>Mv b y) hd x k (KD h U b)
    .cases h
   .cases h
  .cases h
theorem ga(r)(h:iW P GL n0 Pn l q j z Q ⟨n,s,x⟩)(he:Qd P GL n l x r L C=some (z,s):=by exact rfl)(F:Tu l r i=true:=by kernel_rfl)(G:Uo r i=j:=by exact rfl)
 (H:Nat.sub c r.length=q:=by exact rfl) (y:Nat.ble r.length c=true:=by exact rfl):iW P GL n0 Pn l c i L Q ⟨n,C,x⟩:=by
 subst G H;have h1:=KD he F h;have h2:r.length<=c:=by simpa using y
 have e:Nat.sub c r.length+r.length=c:=Nat.sub_add_cancel h2
 rwa [e] at h1
theorem gz(q)(H:P.follows .mixedOrders=true)(h:iW P GL n0 Pn l j e C Q ⟨n,r,s⟩)(x:l.length=i:=by exact rfl)(y:Array.replicate i false=c:=by exact rfl)
 (I:Qd P GL n l s q [] F=some (C,r):=by exact rfl) (J:Tu l q c=true:=by kernel_rfl) (M:Uo q c=e:=by exact rfl)
 (R:Nat.sub i q.length=j:=by exact rfl) (z:Nat.ble q.length i=true:=by exact rfl):iK P GL n0 Pn (.region G l.toArray true) Q ⟨n,F,s⟩:=KF (ga q h I J M R z) x y H
end
end Go.Vd
namespace Go.Proofs.YtndbnldjidciiaaGreatDoor
variable{P c e h l p r t x}
open Go Go.Vd
abbrev fL:TI:=⟨true,1,false,[],false,[.int .i64 0],true,0,none,[.int .i64]⟩
abbrev fO:TI:=⟨true,1,false,[],false,[.map none],true,0,none,[.map]⟩
abbrev fP:TI:=⟨true,1,false,[],false,[.string .empty],true,0,none,[.str]⟩
abbrev fQ:TI:=⟨true,6,true,[(0,1,false),(1,1,false),(2,1,false),(3,1,false),(4,1,false),(5,1,false)],true,[.int .i64 0,.string .empty,.string .empty,.string .empty,.int .i64 0,.int .i64 0],true,0,none,[.int .i64,.str,.str,.str,.int .i64,.int .i64]⟩
abbrev fS:TI:=⟨true,8,true,[(0,6,true),(6,2,true)],true,[.int .i64 0,.string .empty,.string .empty,.string .empty,.int .i64 0,.int .i64 0,.pointer none,.pointer none],true,0,none,[.int .i64,.str,.str,.str,.int .i64,.int .i64,.ptr,.ptr]⟩
abbrev fT:TI:=⟨true,3,true,[(0,1,false),(1,1,false),(2,1,false)],true,[.int .i64 0,.string .empty,.slice none 0 0],true,0,none,[.int .i64,.str,.slice]⟩
abbrev fU:TI:=⟨true,1,false,[],false,[.slice none 0 0],true,39,none,[.slice]⟩
abbrev fV:TI:=⟨true,5,true,[(0,1,false),(1,1,false),(2,1,false),(3,1,false),(4,1,false)],true,[.int .i64 0,.int .i64 0,.string .empty,.slice none 0 0,.slice none 0 0],true,0,none,[.int .i64,.int .i64,.str,.slice,.slice]⟩
abbrev fW:TI:=⟨true,21,true,[(0,15,true),(15,1,false),(16,5,true)],true,[.int .i64 0,.string .empty,.slice none 0 0,.int .i64 0,.int .i64 0,.string .empty,.slice none 0 0,.slice none 0 0,.int .i64 0,.int .i64 0,.string .empty,.slice none 0 0,.slice none 0 0,.int .i64 0,.slice none 0 0,.slice none 0 0,.int .i64 0,.int .i64 0,.string .empty,.slice none 0 0,.slice none 0 0],true,0,none,[.int .i64,.str,.slice,.int .i64,.int .i64,.str,.slice,.slice,.int .i64,.int .i64,.str,.slice,.slice,.int .i64,.slice,.slice,.int .i64,.int .i64,.str,.slice,.slice]⟩
abbrev fX:TI:=⟨true,6,true,[(0,1,false),(1,5,true)],true,[.string .empty,.int .i64 0,.int .i64 0,.string .empty,.slice none 0 0,.slice none 0 0],true,0,none,[.str,.int .i64,.int .i64,.str,.slice,.slice]⟩
abbrev fY:TI:=⟨true,15,true,[(0,1,false),(1,1,false),(2,1,false),(3,5,true),(8,5,true),(13,1,false),(14,1,false)],true,[.int .i64 0,.string .empty,.slice none 0 0,.int .i64 0,.int .i64 0,.string .empty,.slice none 0 0,.slice none 0 0,.int .i64 0,.int .i64 0,.string .empty,.slice none 0 0,.slice none 0 0,.int .i64 0,.slice none 0 0],true,0,none,[.int .i64,.str,.slice,.int .i64,.int .i64,.str,.slice,.slice,.int .i64,.int .i64,.str,.slice,.slice,.int .i64,.slice]⟩
abbrev fZ:TI:=⟨true,1,false,[],false,[.bool false],true,0,none,[.bool]⟩
abbrev gb:TI:=⟨true,1,false,[],false,[.pointer none],true,98,none,[.ptr]⟩
abbrev gd:TI:=⟨true,1,false,[],false,[.pointer none],true,47,none,[.ptr]⟩
abbrev gf:TI:=⟨true,2,true,[(0,1,false),(1,1,false)],true,[.pointer none,.pointer none],true,0,none,[.ptr,.ptr]⟩
abbrev gg:TI:=⟨true,1,false,[],false,[.slice none 0 0],true,121,none,[.slice]⟩
abbrev gh:TI:=⟨true,12,true,[(0,1,false),(1,5,true),(6,5,true),(11,1,false)],true,[.bool false,.int .i64 0,.int .i64 0,.string .empty,.slice none 0 0,.slice none 0 0,.int .i64 0,.int .i64 0,.string .empty,.slice none 0 0,.slice none 0 0,.int .i64 0],true,0,none,[.bool,.int .i64,.int .i64,.str,.slice,.slice,.int .i64,.int .i64,.str,.slice,.slice,.int .i64]⟩
abbrev gi:TI:=⟨true,1,false,[],false,[.slice none 0 0],true,63,none,[.slice]⟩
abbrev gj:TI:=⟨true,2,true,[(0,1,false),(1,1,false)],true,[.slice none 0 0,.bool false],true,0,none,[.slice,.bool]⟩
abbrev gm:TI:=⟨true,1,false,[],false,[.nilIface],true,0,none,[.any]⟩
abbrev gq:TI:=⟨true,1,false,[],false,[.slice none 0 0],true,9,none,[.slice]⟩
abbrev gr:TI:=⟨true,1,false,[],false,[.slice none 0 0],true,65,none,[.slice]⟩
abbrev gu:TI:=⟨true,1,false,[],false,[.slice none 0 0],true,61,none,[.slice]⟩
abbrev gw:TI:=⟨true,2,true,[(0,1,false),(1,1,false)],true,[.int .i64 0,.int .i64 0],true,0,none,[.int .i64,.int .i64]⟩
abbrev gB:TI:=⟨true,4,true,[(0,1,false),(1,1,false),(2,1,false),(3,1,false)],true,[.int .i64 0,.int .i64 0,.bool false,.int .i64 0],true,0,none,[.int .i64,.int .i64,.bool,.int .i64]⟩
abbrev gC:TI:=⟨true,4,true,[(0,1,false),(1,1,false),(2,1,false),(3,1,false)],true,[.pointer none,.int .i64 0,.int .i64 0,.int .i64 0],true,0,none,[.ptr,.int .i64,.int .i64,.int .i64]⟩
abbrev gD:TI:=⟨true,2,true,[(0,1,false),(1,1,false)],true,[.slice none 0 0,.map none],true,0,none,[.slice,.map]⟩
abbrev gF:TI:=⟨true,1,false,[],false,[.pointer none],true,61,none,[.ptr]⟩
abbrev gG:TI:=⟨true,9,true,[(0,1,false),(1,1,false),(2,1,false),(3,5,true),(8,1,false)],true,[.int .i64 0,.pointer none,.slice none 0 0,.int .i64 0,.int .i64 0,.string .empty,.slice none 0 0,.slice none 0 0,.int .i64 0],true,0,none,[.int .i64,.ptr,.slice,.int .i64,.int .i64,.str,.slice,.slice,.int .i64]⟩
abbrev gH:TI:=⟨true,4,true,[(0,1,false),(1,1,false),(2,2,true)],true,[.string .empty,.int .i64 0,.int .i64 0,.int .i64 0],true,0,none,[.str,.int .i64,.int .i64,.int .i64]⟩
abbrev gI:TI:=⟨true,1,false,[],false,[.pointer none],true,78,none,[.ptr]⟩
abbrev gJ:TI:=⟨true,0,true,[],true,[],true,0,none,[]⟩
abbrev gK:TI:=⟨true,1,false,[],false,[.slice none 0 0],true,3,none,[.slice]⟩
abbrev gL:TI:=⟨true,2,true,[(0,1,false),(1,1,false)],true,[.int .i64 0,.map none],true,0,none,[.int .i64,.map]⟩
abbrev gM:TI:=⟨true,18,true,[(0,15,true),(15,1,false),(16,1,false),(17,1,false)],true,[.int .i64 0,.string .empty,.slice none 0 0,.int .i64 0,.int .i64 0,.string .empty,.slice none 0 0,.slice none 0 0,.int .i64 0,.int .i64 0,.string .empty,.slice none 0 0,.slice none 0 0,.int .i64 0,.slice none 0 0,.int .i64 0,.slice none 0 0,.int .i64 0],true,0,none,[.int .i64,.str,.slice,.int .i64,.int .i64,.str,.slice,.slice,.int .i64,.int .i64,.str,.slice,.slice,.int .i64,.slice,.int .i64,.slice,.int .i64]⟩
theorem NU:iH fC 3=fL:=gN
theorem ui3:Tryz.prog.underlying 3=some (.int .i64):=gN
theorem uo3:(Tryz.prog.underlying 3).isSome=true:=gN
theorem ti4:iH fC 4=fZ:=gN
theorem ub4:Tryz.prog.underlying 4=some .bool:=gN
theorem ti5:iH fC 5=⟨true,1,false,[],false,[.int .u8 0],true,0,none,[.int .u8]⟩:=gN
theorem ui5:Tryz.prog.underlying 5=some (.int .u8):=gN
theorem uo5:(Tryz.prog.underlying 5).isSome=true:=gN
theorem R7:iH fC 9=fP:=gN
theorem Du:Tryz.prog.underlying 9=some .string:=gN
theorem ad6:xb fC 20=true:=gN
theorem afc:iH fC 22=⟨true,1,false,[],false,[.slice none 0 0],true,28,none,[.slice]⟩:=gN
theorem NK:Tryz.prog.underlying 22=some (.slice (iH fC 22).elem):=gN
theorem W8:iH fC (iH fC 22).elem=fQ:=gN
theorem R4:Tryz.prog.underlying 24=some (.slice (iH fC 24).elem):=gN
theorem Ua:iH fC (iH fC 24).elem=fS:=gN
theorem acq:rX fC 24 34 8 88:=⟨gN,gN,gN⟩
theorem afb:iH fC 28=fQ:=gN
theorem afa:iH fC 29=gb:=gN
theorem ac9:Tryz.prog.underlying 29=some (.pointer 98):=gN
theorem af9:iH fC 30=gd:=gN
theorem ac8:Tryz.prog.underlying 30=some (.pointer 47):=gN
theorem W7:iH fC 32=gf:=gN
theorem acg:iH fC 34=fS:=gN
theorem W6:iH fC 36=gg:=gN
theorem oz:Tryz.prog.underlying 36=some (.slice (iH fC 36).elem):=gN
theorem oP:iH fC (iH fC 36).elem=fT:=gN
theorem tr:rX fC 36 121 3 48:=⟨gN,gN,gN⟩
theorem Zu:iH fC 37=fU:=gN
theorem iQ:Tryz.prog.underlying 37=some (.slice (iH fC 37).elem):=gN
theorem iY:iH fC (iH fC 37).elem=fV:=gN
theorem mN:rX fC 37 39 5 80:=⟨gN,gN,gN⟩
theorem jz:iH fC 39=fV:=gN
theorem Zs:iH fC 41=gh:=gN
theorem af8:iH fC 45=gi:=gN
theorem KQ:Tryz.prog.underlying 45=some (.slice (iH fC 45).elem):=gN
theorem NV:iH fC (iH fC 45).elem=fW:=gN
theorem N5:rX fC 45 63 21 344:=⟨gN,gN,gN⟩
theorem acf:iH fC 47=gj:=gN
theorem Cp:iH fC 49=gm:=gN
theorem Gl:xb fC 49=true:=gN
theorem T7:iH fC 57=gq:=gN
theorem yv:Tryz.prog.underlying 57=some (.slice (iH fC 57).elem):=gN
theorem Cs:iH fC (iH fC 57).elem=fP:=gN
theorem Ar:rX fC 57 9 1 16:=⟨gN,gN,gN⟩
theorem af7:iH fC 59=gr:=gN
theorem G4:Tryz.prog.underlying 59=some (.slice (iH fC 59).elem):=gN
theorem Jt:iH fC (iH fC 59).elem=fX:=gN
theorem acp:rX fC 59 65 6 96:=⟨gN,gN,gN⟩
theorem R8:iH fC 61=fY:=gN
theorem W5:iH fC 63=fW:=gN
theorem ace:iH fC 65=fX:=gN
theorem af6:iH fC 70=gu:=gN
theorem ac5:Tryz.prog.underlying 70=some (.slice (iH fC 70).elem):=gN
theorem afd:iH fC (iH fC 70).elem=fY:=gN
theorem Xf:rX fC 70 61 15 240:=⟨gN,gN,gN⟩
theorem NT:iH fC 78=gw:=gN
theorem af5:iH fC 87=gB:=gN
theorem Js:iH fC 91=gC:=gN
theorem af4:iH fC 96=fO:=gN
theorem LU:Qn fC 96 9 102:=⟨gN,gN,gN⟩
theorem af3:iH fC 98=gD:=gN
theorem TZ:Tryz.prog.underlying 102=some (.pointer 106):=gN
theorem KV:iH fC 103=fL:=gN
theorem YP:iH fC 104=gF:=gN
theorem Ab:iH fC 106=gG:=gN
theorem acm:iH fC 112=gH:=gN
theorem ack:iH fC 115=gI:=gN
theorem YM:Tryz.prog.underlying 115=some (.pointer 78):=gN
theorem YL:Tryz.prog.underlying 117=some (.pointer 115):=gN
theorem pC:iH fC 121=fT:=gN
theorem T8:iH fC 133=gJ:=gN
theorem ac6:Tryz.prog.underlying 174=some (.slice (iH fC 174).elem):=gN
theorem acn:iH fC (iH fC 174).elem=fL:=gN
theorem acs:rX fC 174 103 1 8:=⟨gN,gN,gN⟩
theorem acj:iH fC 203=gK:=gN
theorem u5:Tryz.prog.underlying 203=some (.slice (iH fC 203).elem):=gN
theorem vM:iH fC (iH fC 203).elem=fL:=gN
theorem DB:rX fC 203 3 1 8:=⟨gN,gN,gN⟩
theorem aci:iH fC 206=fO:=gN
theorem vV:GV fC 206 9 3:=⟨gN,gN,gN⟩
theorem TV:Tryz.prog.underlying 212=some (.slice (iH fC 212).elem):=gN
theorem YQ:iH fC (iH fC 212).elem=fU:=gN
theorem acr:rX fC 212 37 1 24:=⟨gN,gN,gN⟩
theorem Bf:iH fC 216=gL:=gN
theorem ach:iH fC 232=gM:=gN
theorem YR:rX fC 239 5 1 1:=⟨gN,gN,gN⟩
theorem ady:iA fC 15=true:=gN
theorem agm:iA fC 16=true:=gN
theorem ab3:iA fC 17=true:=gN
theorem ads:iA fC 19=true:=gN
theorem adr:iA fC 20=true:=gN
theorem adq:iA fC 23=true:=gN
theorem Yu:iA fC 36=true:=gN
theorem ab2:iA fC 38=true:=gN
theorem agl:iA fC 39=true:=gN
theorem agk:iA fC 40=true:=gN
theorem ab1:iA fC 41=true:=gN
theorem adp:iA fC 44=true:=gN
theorem agj:iA fC 46=true:=gN
theorem Wg:iA fC 52=true:=gN
theorem agi:iA fC 57=true:=gN
theorem agh:iA fC 58=true:=gN
theorem agf:iA fC 60=true:=gN
theorem ado:iA fC 61=true:=gN
theorem adn:iA fC 63=true:=gN
theorem adm:iA fC 64=true:=gN
theorem ab0:iA fC 68=true:=gN
theorem adl:iA fC 70=true:=gN
theorem age:iA fC 71=true:=gN
theorem agd:iA fC 80=true:=gN
theorem Yt:iA fC 91=true:=gN
theorem agc:iA fC 92=true:=gN
theorem Nd:iA fC 100=true:=gN
theorem RH:iA fC 108=true:=gN
theorem ae5:iA fC 109=true:=gN
theorem ae4:iA fC 111=true:=gN
theorem ae3:iA fC 112=true:=gN
theorem Zd:iA fC 114=true:=gN
theorem ae2:iA fC 131=true:=gN
theorem Zc:iA fC 135=true:=gN
theorem ae1:iA fC 136=true:=gN
theorem Zb:iA fC 137=true:=gN
theorem Za:iA fC 143=true:=gN
theorem Y9:iA fC 144=true:=gN
theorem ae0:iA fC 145=true:=gN
theorem Wk:iA fC 146=true:=gN
theorem adz:iA fC 147=true:=gN
theorem Y8:iA fC 152=true:=gN
theorem adx:iA fC 156=true:=gN
theorem Nc:iA fC 158=true:=gN
theorem adw:iA fC 159=true:=gN
theorem adv:iA fC 162=true:=gN
theorem Y7:iA fC 167=true:=gN
theorem Wj:iA fC 169=true:=gN
theorem adu:iA fC 170=true:=gN
theorem adt:iA fC 172=true:=gN
theorem IZ:iA fC 173=true:=gN
theorem Y6:iA fC 174=true:=gN
theorem RG:iA fC 175=true:=gN
theorem Wi:iA fC 176=true:=gN
theorem Nb:iA fC 178=true:=gN
theorem Wh:iA fC 179=true:=gN
theorem RF:iA fC 182=true:=gN
theorem mixed:Tryz.prog.follows .mixedOrders=true:=gN
theorem tcN:∀p∈([]:List (Nat×TI)),iH P p.1=p.2:=λp h=>by cases h
theorem yj(h:iH P c=x)(r:∀p∈l,iH P p.1=p.2):∀p∈(c,x)::l,iH P p.1=p.2:=λp hp=>by
 rcases bh.1 hp with rfl|hp
 .exact h
 .exact r p hp
theorem ucN{c:Nat->Prop}:∀t∈([]:List Nat),c t:=λp h=>by cases h
theorem T3{c:Nat->Prop}{e:Nat}{l:List Nat}(h:c e)(r:∀t∈l,c t):∀t∈e::l,c t:=λp hp=>by
 rcases bh.1 hp with rfl|hp
 .exact h
 .exact r p hp
def tb:Tab:=⟨[(3,fL),
 (4,fZ),
 (9,fP),
 (28,fQ),
 (29,gb),
 (30,gd),
 (32,gf),
 (34,fS),
 (36,gg),
 (37,fU),
 (39,fV),
 (41,gh),
 (45,gi),
 (47,gj),
 (49,gm),
 (57,gq),
 (59,gr),
 (61,fY),
 (63,fW),
 (65,fX),
 (70,gu),
 (78,gw),
 (87,gB),
 (91,gC),
 (96,fO),
 (98,gD),
 (103,fL),
 (104,gF),
 (106,gG),
 (112,gH),
 (115,gI),
 (121,fT),
 (133,gJ),
 (203,gK),
 (206,fO),
 (216,gL),
 (232,gM)],[22,24,36,37,45,57,59,70,203,212],[9]⟩
instance tbI:nZ fC:=⟨tb,yj NU (yj ti4 (yj R7 (yj afb (yj afa (yj af9 (yj W7 (yj acg (yj W6 (yj Zu (yj jz (yj Zs (yj af8 (yj acf (yj Cp (yj T7 (yj af7 (yj R8 (yj W5 (yj ace (yj af6 (yj NT (yj af5 (yj Js (yj af4 (yj af3 (yj KV (yj YP (yj Ab (yj acm (yj ack (yj pC (yj T8 (yj acj (yj aci (yj Bf (yj ach tcN)))))))))))))))))))))))))))))))))))),T3 NK (T3 R4 (T3 oz (T3 iQ (T3 KQ (T3 yv (T3 G4 (T3 ac5 (T3 u5 (T3 TV ucN))))))))),T3 Du ucN⟩
end Go.Proofs.YtndbnldjidciiaaGreatDoor
namespace Go.Vd
variable{α ι ρ σ σ' A B C F G GL H I J K L M N P Pn Q R S T V W X Y a args c e first fuel h i ix j k2 l m n n0 o ob ob' p q q2 r rs s sl sl' svs t u v w x y yt z}
open Go Go.RowKit
class G2 (X:Prop) (P:outParam Program) (GL:outParam (Nat->List D)) (n0:outParam Nat) (Pn:outParam jO) (K:outParam (List Fm)) (Q:outParam (Ex->St->Prop)) (n:outParam Nat) (sl:outParam (List (Nat×SV))) (ob:outParam (List Ob)) (t:outParam Tg):Prop where
 of:Tg.ok P GL n0 Pn K Q ⟨n,sl,ob⟩ t->X
instance asT {P:Program} {GL:Nat->List D} {n0:Nat} {Pn:jO} {K:List Fm} {Q:Ex->St->Prop} {n:Nat} {sl:List (Nat×SV)} {ob:List Ob} {t:Tg}:G2 (Tg.ok P GL n0 Pn K Q ⟨n,sl,ob⟩ t) P GL n0 Pn K Q n sl ob t:=⟨id⟩
instance asC {P:Program} {GL:Nat->List D} {n0:Nat} {Pn:jO} {K:List Fm} {Q:Ex->St->Prop} {n:Nat} {sl:List (Nat×SV)} {ob:List Ob} {c:Code}:G2 (iK P GL n0 Pn c (den P GL n0 Pn Q K) ⟨n,sl,ob⟩) P GL n0 Pn K Q n sl ob (.c c):=⟨id⟩
instance asO {P:Program} {GL:Nat->List D} {n0:Nat} {Pn:jO} {K:List Fm} {Q:Ex->St->Prop} {n:Nat} {sl:List (Nat×SV)} {ob:List Ob} {ops l:List Oper}:G2 (iL P GL n0 Pn ops l (den P GL n0 Pn Q K) ⟨n,sl,ob⟩) P GL n0 Pn K Q n sl ob (.o ops l):=⟨id⟩
instance asE {P:Program} {GL:Nat->List D} {n0:Nat} {Pn:jO} {K:List Fm} {Q:Ex->St->Prop} {n:Nat} {sl:List (Nat×SV)} {ob:List Ob} {e:Ex}:G2 (den P GL n0 Pn Q K e ⟨n,sl,ob⟩) P GL n0 Pn K Q n sl ob (.e e):=⟨id⟩
class Nu (Q:Ex->St->Prop) (P:outParam Program) (GL:outParam (Nat->List D)) (n0:outParam Nat) (rs:outParam (List ResultVar)) (R:outParam (Out->List Ob->Prop)):Prop where
 eq:Q=fin P GL n0 rs R
instance asF {P:Program} {GL:Nat->List D} {n0:Nat} {rs:List ResultVar} {R:Out->List Ob->Prop}:Nu (fin P GL n0 rs R) P GL n0 rs R:=⟨rfl⟩
class GZ (K:List Fm) (n0:outParam Nat) (ι:outParam Type) (S:outParam (ι->St)) (I:outParam (ι->Prop)) (K':outParam (List Fm)):Prop where
 on:True
instance fq {K:List Fm} {n0:Nat} {ι:Type} {S:ι->St} {I:ι->Prop}:GZ (.q (λσ'=>yr n0 S I σ')::K) n0 ι S I K:=⟨trivial⟩
instance fqb {K K':List Fm} {n0:Nat} {ι:Type} {S:ι->St} {I:ι->Prop} {id:Nat} [F:GZ K n0 ι S I K']:GZ (.b id::K) n0 ι S I K':=⟨trivial⟩
instance fqs {K K':List Fm} {n0:Nat} {ι:Type} {S:ι->St} {I:ι->Prop} {c:Code} [F:GZ K n0 ι S I K']:GZ (.s c::K) n0 ι S I K':=⟨trivial⟩
theorem W4{h:Nat}{l a i:List α}(c:rJ h l=some a)(e:nW h l=some i):a++i=l:=by
 rw[<- (yx c).1,<-(sQ e).1,dp]
def UW(n:Nat)(o:Oper):Option (Op×Nat):=match o.dst with
 |some d=>cond (Nat.blt d n) (some (o.op,d)) none
 |none=>none
def Na(e:Nat->List D)(h:List (Nat×SV)):Op->Option (FuncId×List SV)
 | .call c=>match c.callee with
  | .value (.func f)=>(GC e h c.args.toList).map λl=>(f,l)
  |_=>none
 |_=>none
def UY(e:List Nat)(h i:List Ob)(c:List SV):Option (List SV):=cond (me e&&(nF h&&qU e i)) (qD e c) none
def TB(c:List Nat)(j:List (Nat×SV))(h:List Ob)(s:SV)(e:List Ob):Option (SV×List (Nat×SV)×List Ob):=
 (r6 (names c h.length (e.length-c.length)) e).bind λb=>(vH c h).bind λk=>(pM c k b).bind λU=>(xW c j).bind λi=>(s.j5 (names c h.length (e.length-c.length))).map λq=>(q,i,U)
theorem wy{d:Nat}(h:UW n o=some (p,d)):o.op=p/\o.dst=some d/\Nat.blt d n=true:=by
 unfold UW at h;split at h
 .rename_i e hd;cases b:Nat.blt e n<;>rw[b] at h
  .cases h
  .cases h;exact⟨rfl,hd,b⟩
 .cases h
theorem EN(h:Na e i p=some (s,l)):∃args b,p=.call ⟨.value (.func s),args,b⟩/\GC e i args.toList=some l:=by
 unfold Na at h;split at h
 .rename_i c;split at h
  .rename_i q k;obtain⟨r,U,j⟩:=bO.1 h;cases j;obtain⟨x,y,z⟩:=c;cases k;exact⟨_,_,rfl,U⟩
  .cases h
 .cases h
theorem QV(h:UY e c i a=some j):me e=true/\nF c=true/\qU e i=true/\qD e a=some j:=by
 unfold UY at h;cases k:me e&&(nF c&&qU e i)<;>rw[k] at h
 .cases h
 .simp only[bY] at k;exact⟨k.1,k.2.1,k.2.2,h⟩
theorem RJ(h:TB j y x s i=some (z,q,r)):∃k U,r6 (names j x.length (i.length-j.length)) i=some k/\vH j x=some U/\pM j U k=some r/\xW j y=some q/\s.j5 (names j x.length (i.length-j.length))=some z:=by
 obtain⟨a,C,h⟩:=ai.1 h;obtain⟨b,F,h⟩:=ai.1 h;obtain⟨c,G,h⟩:=ai.1 h;obtain⟨e,H,h⟩:=ai.1 h;obtain⟨f,I,h⟩:=bO.1 h;cases h;exact⟨_,_,C,F,G,H,I⟩
def WN(P:Program)[T:nZ P](c:Nat->List D)(n N:Nat)(t:Tg)(K:List Fm)(m:Nat)(e:List (Nat×SV))(h:List Ob):Option (Op×Nat×List Oper×List Oper×List Fm×List (Nat×SV)×List Ob):=match run P c n N t K m e h with
 | .ok (.o ops (o::r)) K' sl' ob'=>match SU ops sl' o with
  |some true=>(UW n o).map λx=>(x.1,x.2,ops,r,K',sl',ob')
  |_=>none
 |_=>none
section
variable {P:Program} [T:nZ P] {X:Prop} {GL:Nat->List D} {n0:Nat} {Pn:jO} {K K':List Fm} {Q:Ex->St->Prop} {n m N d:Nat} {sl sl':List (Nat×SV)} {ob ob':List Ob} {t:Tg} {ops rest:List Oper} {p:Op}
theorem Dp(e:ob.length=m)(c:WN P GL n N t K m sl ob=some (p,d,ops,rest,K',sl',ob'))(h:∀o:Oper,o.op=p->o.guard=none->o.dst=some d->Nat.blt d n=true->iL P GL n0 Pn ops (o::rest) (den P GL n0 Pn Q K') ⟨n,sl',ob'⟩):Tg.ok P GL n0 Pn K Q ⟨n,sl,ob⟩ t:=by
 unfold WN at c;split at c
 .rename_i b o r G k U i;split at c
  .rename_i j;obtain⟨⟨x,y⟩,q,s⟩:=bO.1 c;cases s;obtain⟨z,C,F⟩:=wy q;exact ln e i (EI j (h _ z rfl C F))
  .cases c
 .cases c
def Ret(P:Program)(i:Nat->List D)(j:Nat)(q:jO)(K:List Fm)(Q:Ex->St->Prop)(n z:Nat)(r:List (Nat×SV))(x:List Ob)(y:List Nat)(e c:List Oper)(s:SV)(h:List Ob):Prop:=
 ∃U b k,TB y r x s h=some (U,b,k)/\Tg.ok P i j q K Q ⟨n,(z,U)::b,k⟩ (.o e c)
theorem uv(h:Tg.ok P GL n0 Pn K Q ⟨n,(d,j)::i,c⟩ (.o ops rest))(e:TB ix sl ob s ob'=some (j,i,c):=by exact rfl):Ret P GL n0 Pn K Q n d sl ob ix ops rest s ob':=⟨_,_,_,e,h⟩
theorem j8(h:s.j5 ρ=some c)(e:Fit ob (vO d sl) c)(i:tl ob ρ sl sl':=by repeat (first|exact rA|refine iU ?_)):tl ob ρ sl ((d,s)::sl'):=yu h e i
theorem oL(c:tl ob ρ sl sl')(e:jh ob ρ ob' ρ:=by repeat (first|exact nw|refine jN ?_|refine oT ?_|refine Nz ?_|refine D3 ?_|refine rl ?_|refine GK ?_))(h:pre 0 n0 ρ=true/\me ρ=true/\nF ob'=true:=by exact⟨rfl,rfl,rfl⟩):um n0 ⟨n,sl,ob⟩ ⟨n,sl',ob'⟩ ρ:=BH h.1 h.2.1 h.2.2 e c
variable [A:G2 X P GL n0 Pn K Q n sl ob t]
theorem rF(N)(h:Tg.ok P GL n0 Pn K' Q ⟨n,sl',ob'⟩ c)(e:ob.length=m:=by simp only[aj,aH,Nat.reduceAdd];rfl)(he:run P GL n N t K m sl ob=.ok c K' sl' ob':=by exact rfl):X:=A.of (ln e he h)
theorem jq{b:Bool}(N)(s:j->Tg.ok P GL n0 Pn K' Q ⟨n,sl',ob'⟩ (.c e))(x:q->Tg.ok P GL n0 Pn K' Q ⟨n,sl',ob'⟩ (.c i))(y:ob.length=m:=by simp only[aj,aH,Nat.reduceAdd];rfl)(he:run P GL n N t K m sl ob=.ok (.c (.cond c e i)) K' sl' ob'/\jb GL sl' c=some (fH b):=by exact⟨rfl,rfl⟩)(r:(b=true)=j/\(b=false)=q:=by constructor<;>first|(simp(decide:=true) only[lP];exact rfl)|exact rfl):X:=
 A.of (ln y he.1 (tu he.2 (λh=>s (r.1▸h)) λh=>x (r.2▸h)))
theorem j7{b:Bool}(N)(q:j->Tg.ok P GL n0 Pn K' Q ⟨n,sl',ob'⟩ (.c h))(r:i->Tg.ok P GL n0 Pn K' Q ⟨n,sl',ob'⟩ (.c e))(s:ob.length=m:=by simp only[aj,aH,Nat.reduceAdd];rfl)(x:run P GL n N t K m sl ob=.ok (.c (.cond c e h)) K' sl' ob'/\jb GL sl' c=some (fH b):=by exact⟨rfl,rfl⟩)(y:(b=true)=i/\(b=false)=j:=by constructor<;>first|(simp(decide:=true) only[lP];exact rfl)|exact rfl):X:=jq N r q s x y
theorem Eo{b:Bool}(N)(h:Tg.ok P GL n0 Pn K' Q ⟨n,sl',ob'⟩ (.c i))(q:ob.length=m:=by simp only[aj,aH,Nat.reduceAdd];rfl)(he:run P GL n N t K m sl ob=.ok (.c (.cond c i j)) K' sl' ob'/\jb GL sl' c=some (fH b):=by exact⟨rfl,rfl⟩)(r:(b=false)=False:=by simp(decide:=true) only[lP]):X:=jq N (λ_=>h) (λe=>(r▸e:False).elim) q he ⟨rfl,rfl⟩
theorem vw{b:Bool}(N)(h:Tg.ok P GL n0 Pn K' Q ⟨n,sl',ob'⟩ (.c i))(q:ob.length=m:=by simp only[aj,aH,Nat.reduceAdd];rfl)(r:run P GL n N t K m sl ob=.ok (.c (.cond c j i)) K' sl' ob'/\jb GL sl' c=some (fH b):=by exact⟨rfl,rfl⟩)(s:(b=true)=False:=by simp(decide:=true) only[lP]):X:=jq N (λe=>(s▸e:False).elim) (λ_=>h) q r ⟨rfl,rfl⟩
theorem wE(N)(i:jA P GL x a R)(h:∀r,R r->Tg.ok P GL n0 Pn K' Q ⟨n,(d,.d r)::sl',ob'⟩ (.o ops rest))(j:ob.length=m:=by simp only[aj,aH,Nat.reduceAdd];rfl)(e:WN P GL n N t K m sl ob=some (p,d,ops,rest,K',sl',ob')/\Na GL sl' p=some (x,c):=by exact⟨rfl,rfl⟩)(q:iA P x=true:=by kernel_rfl)(s:nQ ob' c (a.map .d):=by repeat (first|exact C9|exact .nil|refine jw ?_|refine oq ?_|refine XU ?_)):X:=
 A.of (Dp j e.1 λo b k hd U=>by
  obtain⟨_,_,rfl,ha⟩:=EN e.2;exact wT (T:=λ_=>False) k (oK q b ha hd U i s h))
theorem ny(N)(i:jA P GL x a (· =r))(h:Tg.ok P GL n0 Pn K' Q ⟨n,(d,.d r)::sl',ob'⟩ (.o ops rest))(j:ob.length=m:=by simp only[aj,aH,Nat.reduceAdd];rfl)(he:WN P GL n N t K m sl ob=some (p,d,ops,rest,K',sl',ob')/\Na GL sl' p=some (x,c):=by exact⟨rfl,rfl⟩)(q:iA P x=true:=by kernel_rfl)(s:nQ ob' c (a.map .d):=by repeat (first|exact C9|exact .nil|refine jw ?_|refine oq ?_|refine XU ?_)):X:=wE N i (λ_ e=>e▸h) j he q s
theorem uo{f:FuncId}(N)(y:jT P GL f c a R)(ix)(h:∀s b,R (.ret s) b->Ret P GL n0 Pn K' Q n d sl' ob' ix ops rest s b)(z:ob.length=m:=by simp only[aj,aH,Nat.reduceAdd];rfl)(x:WN P GL n N t K m sl ob=some (p,d,ops,rest,K',sl',ob')/\Na GL sl' p=some (f,i)/\UY ix c ob' a=some j:=by exact⟨rfl,rfl,rfl⟩)(C:iA P f=true:=by kernel_rfl)(q:jh ob' ix c ix:=by repeat (first|exact nw|refine jN ?_|refine oT ?_|refine Nz ?_|refine D3 ?_|refine rl ?_|refine GK ?_))(F:nQ ob' i j:=by repeat (first|exact C9|exact .nil|refine jw ?_|refine oq ?_|refine XU ?_))(r:∀s b,R (.vk s) b->False:=by first|(rintro s o ⟨h,_⟩;cases h;done)|(rintro s o ⟨_,h,_⟩;cases h;done)|(rintro s o ⟨_,_,h,_⟩;cases h;done)|(rintro s o ⟨_,_,_,h,_⟩;cases h;done)|(rintro s o ⟨_,_,_,_,h,_⟩;cases h;done)|(rintro s o ⟨_,_,_,_,_,h,_⟩;cases h;done)):X:=
 A.of (Dp z x.1 λo U G hd H=>by
  obtain⟨_,_,rfl,ha⟩:=EN x.2.1;obtain⟨o1,o2,I,J⟩:=QV x.2.2;refine wT G (iX C U ha hd H y ix q o1 o2 I J F (λs b k=>?_) λs b k=>(r s b k).elim);obtain⟨_,_,_,e,h⟩:=h s b k;obtain⟨_,_,M,S,V,W,Y⟩:=RJ e;exact⟨_,_,_,_,_,M,S,V,W,Y,h⟩)
theorem nC{f:FuncId}(N)(G:jT P GL f c a λout b=>out=.ret r/\b=x)(z)(h:Tg.ok P GL n0 Pn K' Q ⟨n,(d,F)::y,q⟩ (.o ops rest))(H:ob.length=m:=by simp only[aj,aH,Nat.reduceAdd];rfl)(he:WN P GL n N t K m sl ob=some (p,d,ops,rest,K',sl',ob')/\Na GL sl' p=some (f,i)/\UY z c ob' a=some j:=by exact⟨rfl,rfl,rfl⟩)(e:TB z sl' ob' r x=some (F,y,q):=by exact rfl)(I:iA P f=true:=by kernel_rfl)(C:jh ob' z c z:=by repeat (first|exact nw|refine jN ?_|refine oT ?_|refine Nz ?_|refine D3 ?_|refine rl ?_|refine GK ?_))(J:nQ ob' i j:=by repeat (first|exact C9|exact .nil|refine jw ?_|refine oq ?_|refine XU ?_)):X:=
 uo N G z (λs b hq=>by
  obtain⟨h1,rfl⟩:=hq;cases h1;exact⟨_,_,_,e,h⟩) H he I C J λs b hq=>by cases hq.1
theorem jS(N)(h:Tg.ok P GL n0 Pn K' Q ⟨n,(d,fE (i+j))::sl',ob'⟩ (.o ops rest))(q:ob.length=m:=by simp only[aj,aH,Nat.reduceAdd];rfl)(he:WN P GL n N t K m sl ob=some (.binOp .add e x y c,d,ops,rest,K',sl',ob')/\jb GL sl' x=some (fE i)/\jb GL sl' y=some (fE j):=by exact⟨rfl,rfl,rfl⟩)(hb: -9223372036854775808<=i+j/\i+j<=9223372036854775807:=by omega):X:=A.of (Dp q he.1 λo b k hd U=>tB k hd U (Pt b he.2.1 he.2.2 hb h))
theorem sH(N)(h:Tg.ok P GL n0 Pn K' Q ⟨n,(d,fE (i-j))::sl',ob'⟩ (.o ops rest))(q:ob.length=m:=by simp only[aj,aH,Nat.reduceAdd];rfl)(he:WN P GL n N t K m sl ob=some (.binOp .sub e x y c,d,ops,rest,K',sl',ob')/\jb GL sl' x=some (fE i)/\jb GL sl' y=some (fE j):=by exact⟨rfl,rfl,rfl⟩)(r: -9223372036854775808<=i-j/\i-j<=9223372036854775807:=by omega):X:=A.of (Dp q he.1 λo b k hd U=>tB k hd U (Pj b he.2.1 he.2.2 r h))
theorem ni{ls:List (List D)}(N)(s:P.underlying i=some (.slice (iH P i).elem))(z:iH P (iH P i).elem=q)(h:Tg.ok P GL n0 Pn K' Q ⟨n,(d,.d (.cp e))::sl',ob'⟩ (.o ops rest))(C:ob.length=m:=by simp only[aj,aH,Nat.reduceAdd];rfl)(c:WN P GL n N t K m sl ob=some (.indexAddr i x y,d,ops,rest,K',sl',ob')/\jb GL sl' x=some (.d (.sl H ls))/\jb GL sl' y=some (.d (.v (.int r j)))/\q.ok=true/\q.size=H:=by exact⟨rfl,rfl,rfl,rfl,rfl⟩)(F:0<=j:=by omega)(hat:ls[j.toNat]? =some e:=by omega):X:=A.of (Dp C c.1 λo b U hd G=>tB U hd G (BW s z c.2.2.2.1 c.2.2.2.2 b c.2.1 c.2.2.1 F hat h))
theorem oR(N)(G:rX P C j c q)(x)(H:iH P j=F)(h:Tg.ok P GL n0 Pn K' Q ⟨n,(d,.own R c r)::sl',s⟩ (.o ops rest))(I:ob.length=m:=by simp only[aj,aH,Nat.reduceAdd];rfl)(he:WN P GL n N t K m sl ob=some (.buildSlice C i e,d,ops,rest,K',sl',ob')/\Kd 0 x=some e.toList/\MO GL sl' F.agg x=some r/\GP c r=true/\x.length=i:=by exact⟨rfl,rfl,rfl,rfl,rfl⟩)(y:0<c/\0<i/\i*c<=16777216:=by decide)(J:ob'.length=R:=by simp only[aj,aH,Nat.reduceAdd];rfl)(z:pY ob' [.row j c]=some s:=by exact rfl):X:=
 A.of (Dp I he.1 λo b U hd M=>wT (T:=λ_=>False) U (OE G x H b hd M he.2.1 he.2.2.1 he.2.2.2.1 he.2.2.2.2 y.1 y.2.1 y.2.2 J z h))
theorem ma(N i)(hM:P.follows .mixedOrders=true)(h:iW P GL n0 Pn l e v L (den P GL n0 Pn Q K') ⟨n,j,ob'⟩)(r:ob.length=m:=by simp only[aj,aH,Nat.reduceAdd];rfl)(he:run P GL n N t K m sl ob=.ok (.c (.region q l.toArray true)) K' sl' ob'/\l.length=c/\Array.replicate c false=u/\Qd P GL n l ob' i [] sl'=some (L,j)/\Uo i u=v/\Nat.sub c i.length=e/\Nat.ble i.length c=true:=by exact⟨rfl,rfl,rfl,rfl,rfl,rfl,rfl⟩)(s:Tu l i u=true:=by kernel_rfl):X:=A.of (ln r he.1 (gz i hM h he.2.1 he.2.2.1 he.2.2.2.1 s he.2.2.2.2.1 he.2.2.2.2.2.1 he.2.2.2.2.2.2))
theorem DM{b:Bool}{z:Nat}{i:List Oper}{w:Bool}{c e:List (Nat×SV)}{r:Nat}(N yt d J:Nat)(C:y->(∀ U,oV yt U=some (fH w)->rh U ((d,fH true)::sl')=true->iL P GL n0 Pn ops (o::rest) (den P GL n0 Pn Q K') ⟨n,U++(d,fH true)::sl',ob'⟩)->Tg.ok P GL n0 Pn K' Q ⟨n,(d,fH true)::sl',ob'⟩ (.o ops i))(h:Tg.ok P GL n0 Pn K' Q ⟨n,(r,fH (b&&w))::sl',ob'⟩ (.o ops rest))(F:ob.length=m:=by simp only[aj,aH,Nat.reduceAdd];rfl)(q:run P GL n N t K m sl ob=.ok (.o ops i) K' sl' ob'/\nW J i=some (o::rest)/\oV d sl'=some (fH b):=by exact⟨rfl,rfl,rfl⟩)(s:ob'.length=z:=by simp only[aj,aH,Nat.reduceAdd];rfl)(j:run P GL n J (.o ops i) K' z ((d,fH false)::sl') ob'=.ok (.o ops (o::rest)) K' c ob'/\rJ J c=some e/\nW J c=some ((d,fH false)::sl')/\rh e ((d,fH false)::sl')=true:=by exact⟨rfl,rfl,rfl,rfl⟩)(x:UW n o=some (.pick (.tmp d) (.tmp yt) (.const (.bool false)),r):=by exact rfl)(G:(b=true)=y:=by first|(simp(decide:=true) only[lP];exact rfl)|exact rfl)(H:TO ops sl' o:=by first|exact .none rfl|exact .yes rfl rfl rfl rfl):X:=
 A.of (ln F q.1 (oa (yt:=yt) (d:=d) J (q2:=b=false) C (λ_ I=>ln (t:=.o ops i) s j.1 (by have:=I e j.2.2.2;rwa [W4 j.2.1 j.2.2.1] at this)) h q.2.1 (wy x).1 q.2.2 (wy x).2.1 (wy x).2.2 G rfl H))
theorem xP{b:Bool}{y:Nat}{j:List Oper}{w:Bool}{e i c q:List (Nat×SV)}{r:Nat}(N z J M:Nat)(h:Tg.ok P GL n0 Pn K' Q ⟨n,(r,fH (b&&w))::sl',ob'⟩ (.o ops rest))(C:ob.length=m:=by simp only[aj,aH,Nat.reduceAdd];rfl)(F:run P GL n N t K m sl ob=.ok (.o ops j) K' sl' ob'/\nW M j=some (o::rest)/\oV J sl'=some (fH b):=by exact⟨rfl,rfl,rfl⟩)(s:ob'.length=y:=by simp only[aj,aH,Nat.reduceAdd];rfl)(x:run P GL n M (.o ops j) K' y ((J,fH true)::sl') ob'=.ok (.o ops (o::rest)) K' e ob'/\rJ M e=some c/\nW M e=some ((J,fH true)::sl')/\rh c ((J,fH true)::sl')=true/\oV z c=some (fH w):=by exact⟨rfl,rfl,rfl,rfl,rfl⟩)(G:run P GL n M (.o ops j) K' y ((J,fH false)::sl') ob'=.ok (.o ops (o::rest)) K' i ob'/\rJ M i=some q/\nW M i=some ((J,fH false)::sl')/\rh q ((J,fH false)::sl')=true:=by exact⟨rfl,rfl,rfl,rfl⟩)(H:UW n o=some (.pick (.tmp J) (.tmp z) (.const (.bool false)),r):=by exact rfl)(I:TO ops sl' o:=by first|exact .none rfl|exact .yes rfl rfl rfl rfl):X:=
 DM N z J M (λ_ U=>ln (t:=.o ops j) s x.1 (by have:=U c x.2.2.2.2 x.2.2.2.1;rwa [W4 x.2.1 x.2.2.1] at this)) h C F s G H rfl I
theorem Cg{b:Bool}{z:Nat}{i:List Oper}{w:Bool}{c e:List (Nat×SV)}{r:Nat}(N yt d J:Nat)(C:y->(∀ U,oV yt U=some (fH w)->rh U ((d,fH false)::sl')=true->iL P GL n0 Pn ops (o::rest) (den P GL n0 Pn Q K') ⟨n,U++(d,fH false)::sl',ob'⟩)->Tg.ok P GL n0 Pn K' Q ⟨n,(d,fH false)::sl',ob'⟩ (.o ops i))(h:Tg.ok P GL n0 Pn K' Q ⟨n,(r,fH (b||w))::sl',ob'⟩ (.o ops rest))(F:ob.length=m:=by simp only[aj,aH,Nat.reduceAdd];rfl)(q:run P GL n N t K m sl ob=.ok (.o ops i) K' sl' ob'/\nW J i=some (o::rest)/\oV d sl'=some (fH b):=by exact⟨rfl,rfl,rfl⟩)(s:ob'.length=z:=by simp only[aj,aH,Nat.reduceAdd];rfl)(j:run P GL n J (.o ops i) K' z ((d,fH true)::sl') ob'=.ok (.o ops (o::rest)) K' c ob'/\rJ J c=some e/\nW J c=some ((d,fH true)::sl')/\rh e ((d,fH true)::sl')=true:=by exact⟨rfl,rfl,rfl,rfl⟩)(x:UW n o=some (.pick (.tmp d) (.const (.bool true)) (.tmp yt),r):=by exact rfl)(G:(b=false)=y:=by first|(simp(decide:=true) only[lP];exact rfl)|exact rfl)(H:TO ops sl' o:=by first|exact .none rfl|exact .yes rfl rfl rfl rfl):X:=
 A.of (ln F q.1 (oo (yt:=yt) (d:=d) J (q2:=b=true) C (λ_ I=>ln (t:=.o ops i) s j.1 (by have:=I e j.2.2.2;rwa [W4 j.2.1 j.2.2.1] at this)) h q.2.1 (wy x).1 q.2.2 (wy x).2.1 (wy x).2.2 G rfl H))
theorem rV{J:Bool}{y:Nat}{j:List Oper}{w:Bool}{e i c q:List (Nat×SV)}{r:Nat}(N z M R:Nat)(h:Tg.ok P GL n0 Pn K' Q ⟨n,(r,fH (J||w))::sl',ob'⟩ (.o ops rest))(C:ob.length=m:=by simp only[aj,aH,Nat.reduceAdd];rfl)(F:run P GL n N t K m sl ob=.ok (.o ops j) K' sl' ob'/\nW R j=some (o::rest)/\oV M sl'=some (fH J):=by exact⟨rfl,rfl,rfl⟩)(s:ob'.length=y:=by simp only[aj,aH,Nat.reduceAdd];rfl)(x:run P GL n R (.o ops j) K' y ((M,fH false)::sl') ob'=.ok (.o ops (o::rest)) K' e ob'/\rJ R e=some c/\nW R e=some ((M,fH false)::sl')/\rh c ((M,fH false)::sl')=true/\oV z c=some (fH w):=by exact⟨rfl,rfl,rfl,rfl,rfl⟩)(G:run P GL n R (.o ops j) K' y ((M,fH true)::sl') ob'=.ok (.o ops (o::rest)) K' i ob'/\rJ R i=some q/\nW R i=some ((M,fH true)::sl')/\rh q ((M,fH true)::sl')=true:=by exact⟨rfl,rfl,rfl,rfl⟩)(H:UW n o=some (.pick (.tmp M) (.const (.bool true)) (.tmp z),r):=by exact rfl)(I:TO ops sl' o:=by first|exact .none rfl|exact .yes rfl rfl rfl rfl):X:=
 Cg N z M R (λ_ U=>ln (t:=.o ops j) s x.1 (by have:=U c x.2.2.2.2 x.2.2.2.1;rwa [W4 x.2.1 x.2.2.1] at this)) h C F s G H rfl I
theorem vq(N)(q:ι->List (Nat×SV))(x)(e:ι->Prop)(μ:ι->Nat)(r:ι)(z:e r)(h:∀i,e i->Tg.ok P GL n0 Pn (.q (λb=>yr n0 (λi=>⟨n,q i++c,ob'⟩) (λj=>e j/\μ j<μ i) b)::K') Q ⟨n,q i++c,ob'⟩ (.c s))(C:ob.length=m:=by simp only[aj,aH,Nat.reduceAdd];rfl)(y:run P GL n N t K m sl ob=.ok (.c (.loop s)) K' sl' ob'/\uz sl' x=some c:=by exact⟨rfl,rfl⟩)(hM:um n0 ⟨n,sl',ob'⟩ ⟨n,q r++c,ob'⟩ (Ml 0 ob'.length):=by exact mz):X:=A.of (ln C y.1 (Lb q x e μ r y.2 z hM h))
theorem pt(N)(r:ι->List (Nat×SV))(e:ι->List Ob)(y)(q:ι->Prop)(μ:ι->Nat)(s:ι)(ρ)(C:q s)(h:∀i,q i->Tg.ok P GL n0 Pn (.q (λb=>yr n0 (λi=>⟨n,r i++c,e i⟩) (λj=>q j/\μ j<μ i) b)::K') Q ⟨n,r i++c,e i⟩ (.c x))(F:ob.length=m:=by simp only[aj,aH,Nat.reduceAdd];rfl)(z:run P GL n N t K m sl ob=.ok (.c (.loop x)) K' sl' ob'/\uz sl' y=some c:=by exact⟨rfl,rfl⟩)(hM:um n0 ⟨n,sl',ob'⟩ ⟨n,r s++c,e s⟩ ρ:=by exact mz):X:=A.of (ln F z.1 (La r e y q μ s ρ z.2 C hM h))
theorem ml[A:G2 X P GL n0 Pn K Q n sl ob t][F:GZ K n0 ι S I K'](N)(i:ι)(ρ)(h:I i)(j:ob.length=m:=by simp only[aj,aH,Nat.reduceAdd];rfl)(he:run P GL n N t K m sl ob=.ok (.e .normal) (.q (λb=>yr n0 S I b)::K') sl' ob'/\S i=⟨n,e,c⟩:=by exact⟨rfl,rfl⟩)(hM:um n0 ⟨n,sl',ob'⟩ ⟨n,e,c⟩ ρ:=by exact mz):X:=A.of (ln j he.1 (bk i he.2 h ρ hM))
theorem qX[A:G2 X P GL n0 Pn K Q n sl ob t][F:GZ K n0 ι S I K'](N)(i:ι)(h:I i)(j:ob.length=m:=by simp only[aj,aH,Nat.reduceAdd];rfl)(q:run P GL n N t K m sl ob=.ok (.e .normal) (.q (λb=>yr n0 S I b)::K') sl' ob'/\S i=⟨n,e,c⟩:=by exact⟨rfl,rfl⟩)(hM:um n0 ⟨n,sl',ob'⟩ ⟨n,e,c⟩ (Ml 0 c.length):=by exact mz):X:=ml N i _ h j q hM
theorem jD[A:G2 X P GL n0 Pn K Q n sl ob t][B:Nu Q P GL n0 rs R](N e ρ c)(hq:R (.ret (.d e)) c)(q:ob.length=m:=by simp only[aj,aH,Nat.reduceAdd];rfl)(h:run P GL n N t K m sl ob=.ok (.e .ret) [] sl' ob'/\Eg P sl' ob' rs=some l/\(ve l).p9=some z:=by exact⟨rfl,rfl,rfl⟩)(r:KK z e:=by repeat (first|exact .refl _|exact .nil|refine .agg ?_|refine .jj ?_|refine .sl ?_|refine .cons ?_ ?_))(i:jh ob' ρ c ρ:=by repeat (first|exact nw|refine jN ?_|refine oT ?_|refine Nz ?_|refine D3 ?_|refine rl ?_|refine GK ?_))(j:pre 0 n0 ρ=true/\me ρ=true/\nF c=true:=by exact⟨rfl,rfl,rfl⟩):X:=by
 obtain rfl:=B.eq;exact A.of (ln q h.1 (pc (n0:=n0) (vR h.2.1) h.2.2 e r ρ c j.1 j.2.1 j.2.2 i hq))
theorem B5[A:G2 X P GL n0 Pn K Q n sl ob t][B:Nu Q P GL n0 h R](N ρ c)(i:R (.ret (.d z)) c)(j:ob.length=m:=by simp only[aj,aH,Nat.reduceAdd];rfl)(he:run P GL n N t K m sl ob=.ok (.e .ret) [] sl' ob'/\Eg P sl' ob' h=some l/\(ve l).p9=some z:=by exact⟨rfl,rfl,rfl⟩)(e:jh ob' ρ c ρ:=by repeat (first|exact nw|refine jN ?_|refine oT ?_|refine Nz ?_|refine D3 ?_|refine rl ?_|refine GK ?_))(q:pre 0 n0 ρ=true/\me ρ=true/\nF c=true:=by exact⟨rfl,rfl,rfl⟩):X:=jD N z ρ c i j he (.refl _) e q
theorem v8[A:G2 X P GL n0 Pn K Q n sl ob t][B:Nu Q P GL n0 h (Cc Y)](N c)(i:Y c)(j:ob.length=m:=by simp only[aj,aH,Nat.reduceAdd];rfl)(e:run P GL n N t K m sl ob=.ok (.e .ret) [] sl' ob'/\Eg P sl' ob' h=some l/\(ve l).p9=some z:=by exact⟨rfl,rfl,rfl⟩)(q:KK z c:=by repeat (first|exact .refl _|exact .nil|refine .agg ?_|refine .jj ?_|refine .sl ?_|refine .cons ?_ ?_))(r:n0=0:=by exact rfl):X:=by
 obtain rfl:=B.eq;subst r;exact A.of (ln j e.1 (aae (vR e.2.1) e.2.2 c q i))
theorem od[A:G2 X P GL n0 Pn K Q n sl ob t][B:Nu Q P GL n0 c (Cc Y)](N)(e:Y z)(h:ob.length=m:=by simp only[aj,aH,Nat.reduceAdd];rfl)(he:run P GL n N t K m sl ob=.ok (.e .ret) [] sl' ob'/\Eg P sl' ob' c=some l/\(ve l).p9=some z:=by exact⟨rfl,rfl,rfl⟩)(i:n0=0:=by exact rfl):X:=v8 N z e h he (.refl _) i
variable [T:nZ P] {fuel:Nat} {l:List Oper} {u v:Array Bool} {L L2:List (Nat×Nat)} {o:Oper} {f:FuncId} {svs as' a:List SV}
theorem qB(i){a:List D}(q:jA P GL f a (· =r))(h:iW P GL n0 Pn l fuel v L2 Q ⟨n,(d,.d r)::sl,ob⟩)(s:l[i]? =some o/\UW n o=some (p,d)/\Na GL sl p=some (f,svs)/\o.guard=none/\u.setIfInBounds i true=v/\uh l i L=some L2:=by exact⟨rfl,rfl,rfl,rfl,rfl,rfl⟩)(x:iA P f=true:=by kernel_rfl)(y:nQ ob svs (a.map .d):=by repeat (first|exact C9|exact .nil|refine jw ?_|refine oq ?_|refine XU ?_))(j:Region.ready .any l.toArray u=[i]:=by kernel_rfl)(z:∀p∈L2,¬False/\∃c ty,jo p.2 ob=some (.cells c ty):=by first|exact Gp rfl|exact Gn rfl|exact DT rfl):iW P GL n0 Pn l (fuel+1) u L Q ⟨n,sl,ob⟩:=by
 obtain⟨b,k,U,C,F,G⟩:=s;obtain⟨H,hd,I⟩:=wy k;obtain⟨_,_,rfl,ha⟩:=EN U;exact KC (T:=λ_=>False) i b C j F G z (oK x H ha hd I q y λ_ e=>e▸h)
def aec(P:Program)(h:Nat->List D)(i:Nat)(j:jO)(l:List Oper)(c:Nat)(u:Array Bool)(L:List (Nat×Nat))(Q:Ex->St->Prop)(n y:Nat)(q:List (Nat×SV))(r:List Ob)(x:List Nat)(s:SV)(e:List Ob):Prop:=
 ∃U b k,TB x q r s e=some (U,b,k)/\iW P h i j l c u L Q ⟨n,(y,U)::b,k⟩
theorem Lg(h:iW P GL n0 Pn l fuel u L Q ⟨n,(d,r)::j,c⟩)(e:TB q sl ob s i=some (r,j,c):=by exact rfl):aec P GL n0 Pn l fuel u L Q n d sl ob q s i:=⟨_,_,_,e,h⟩
theorem MZ(i)(C:jT P GL f q a R)(r)(h:∀s b,R (.ret s) b->aec P GL n0 Pn l fuel v L2 Q n d sl ob r s b)(F:l[i]? =some o/\UW n o=some (p,d)/\Na GL sl p=some (f,svs)/\UY r q ob a=some as'/\o.guard=none/\u.setIfInBounds i true=v/\uh l i L=some L2:=by exact⟨rfl,rfl,rfl,rfl,rfl,rfl,rfl⟩)(G:iA P f=true:=by kernel_rfl)(x:jh ob r q r:=by repeat (first|exact nw|refine jN ?_|refine oT ?_|refine Nz ?_|refine D3 ?_|refine rl ?_|refine GK ?_))(H:nQ ob svs as':=by repeat (first|exact C9|exact .nil|refine jw ?_|refine oq ?_|refine XU ?_))(y:∀s b,R (.vk s) b->False:=by first|(rintro s o ⟨h,_⟩;cases h;done)|(rintro s o ⟨_,h,_⟩;cases h;done)|(rintro s o ⟨_,_,h,_⟩;cases h;done)|(rintro s o ⟨_,_,_,h,_⟩;cases h;done)|(rintro s o ⟨_,_,_,_,h,_⟩;cases h;done)|(rintro s o ⟨_,_,_,_,_,h,_⟩;cases h;done))(z:Region.ready .any l.toArray u=[i]:=by kernel_rfl)(I:∀p∈L2,¬p.2∈r/\∃c ty,jo p.2 ob=some (.cells c ty):=by first|exact Gp rfl|exact Gn rfl|exact DT rfl):iW P GL n0 Pn l (fuel+1) u L Q ⟨n,sl,ob⟩:=by
 obtain⟨U,J,M,S,V,W,Y⟩:=F;obtain⟨ho,hd,hn⟩:=wy J;obtain⟨_,_,rfl,ha⟩:=EN M;obtain⟨o1,o2,o3,o4⟩:=QV S;refine KC (T:=λj=>j∈r) i U V z W Y I (iX G ho ha hd hn C r x o1 o2 o3 o4 H (λs b k=>?_) λs b k=>(y s b k).elim);obtain⟨_,_,_,e,h⟩:=h s b k;obtain⟨_,_,e1,e2,e3,e4,e5⟩:=RJ e;exact⟨_,_,_,_,_,e1,e2,e3,e4,e5,h⟩
theorem pQ(i){k:Nat}(z:P.underlying c=some (.slice (iH P c).elem))(C:iH P (iH P c).elem=q)(h:iW P GL n0 Pn l fuel v L2 Q ⟨n,(d,.d (.cp e))::sl,ob⟩)(F:l[i]? =some o/\UW n o=some (.indexAddr c x y,d)/\jb GL sl x=some (.d (.sl k r))/\jb GL sl y=some (.d (.v (.int s j)))/\q.ok=true/\q.size=k/\o.guard=none/\Ea i [] L=some L2/\u.setIfInBounds i true=v:=by exact⟨rfl,rfl,rfl,rfl,rfl,rfl,rfl,rfl,rfl⟩)(G:0<=j:=by omega)(hat:r[j.toNat]? =some e:=by omega)(H:((Region.ready .any l.toArray u).contains i&&Region.free .any l.toArray u i&&Region.noSelect l.toArray)=true:=by kernel_rfl):iW P GL n0 Pn l (fuel+1) u L Q ⟨n,sl,ob⟩:=by
 obtain⟨b,U,I,J,M,R,S,V,W⟩:=F;obtain⟨Y,hd,hn⟩:=wy U;exact Wq i b S hd hn H W (BW z C M R Y I J G hat ⟨L2,V,h⟩)
theorem nO(i)(h:iW P GL n0 Pn l fuel v L2 Q ⟨n,sl,ob'⟩)(H:l[i]? =some o/\o.op=.store r x y/\o.dst=none/\o.guard=none/\u.setIfInBounds i true=v/\uh l i L=some L2:=by exact⟨rfl,rfl,rfl,rfl,rfl,rfl⟩)(hs:Nw P r=some z/\jb GL sl x=some (.jk j q)/\jb GL sl y=some s/\jo j ob=some (.cells c e)/\z.ok=true/\rk z.agg s=some C/\Nat.beq C.length z.size=true/\pH C=true/\CE q C c=some G/\pD j (.cells G e) ob=some ob':=by exact⟨rfl,rfl,rfl,rfl,rfl,rfl,rfl,rfl,rfl,rfl⟩)(F:Region.ready .any l.toArray u=[i]:=by kernel_rfl)(I:∀p∈L2,¬p.2=j/\∃c r,jo p.2 ob=some (.cells c r):=by first|exact Gp rfl|exact Gn rfl|exact DT rfl):iW P GL n0 Pn l (fuel+1) u L Q ⟨n,sl,ob⟩:=by
 obtain⟨h1,h2,k,U,J,M⟩:=H;obtain⟨k1,k2,R,S,V,W,Y,k8,k9,b⟩:=hs;exact KC (T:=λp=>p=j) i h1 U F J M I (Fy (ri P _ _ k1) V h2 k k2 R S W Y k8 k9 b h)
theorem nR{Q:Out->List Ob->Prop}(j:P.funcs[f]? =some i)(n q)(h:iK P GL q (YW q Q) c (den P GL q (YW q Q) (fin P GL q rs Q) []) ⟨n,sl,ob⟩)(he:i.ntmps=n/\i.body=some c/\i.results.toList=rs/\Nat.ble e.length n=true/\ur 0 e=some sl/\ob.length=q:=by exact⟨rfl,rfl,rfl,rfl,rfl,rfl⟩):jT P GL f ob e Q:=xy j he.2.1 he.1 he.2.2.1 he.2.2.2.1 he.2.2.2.2.1 q he.2.2.2.2.2 h
theorem oN{Q:D->Prop}(r:P.funcs[f]? =some j)(n)(h:iK P GL 0 ⟨λ_ _ _=>False,λ_ _ _ _=>False⟩ c (den P GL 0 ⟨λ_ _ _=>False,λ_ _ _ _=>False⟩ (fin P GL 0 q (Cc Q)) []) ⟨n,sl,[]⟩)(i:j.ntmps=n/\j.body=some c/\j.results.toList=q/\Nat.ble e.length n=true/\ur 0 (e.map .d)=some sl:=by exact⟨rfl,rfl,rfl,rfl,rfl⟩):jA P GL f e Q:=Jr r i.2.1 i.1 i.2.2.1 i.2.2.2.1 i.2.2.2.2 h
end
def int(n:Int):SV:=.d (.v (.int .i64 n))
def strs(l:List fB):List (List D):=l.map λs=>[.v (.string s)]
def ints(l:List Int):List (List D):=l.map λn=>[.v (.int .i64 n)]
abbrev nU(l:List fB):D:=.sl 1 (strs l)
abbrev ad5(l:List Int):D:=.sl 1 (ints l)
theorem jU(l):(strs l).length=l.length:=by simp[strs]
theorem qP(l):(ints l).length=l.length:=by simp[ints]
theorem u7(h:i<l.length):(strs l)[((i:Nat):Int).toNat]? =some [fG l[i]]:=by simp[strs,h]
theorem AI(h:i<l.length):(ints l)[((i:Nat):Int).toNat]? =some [fD l[i]]:=by simp[ints,h]
theorem wG(l s):strs l++[[fG s]]=strs (l++[s]):=by simp[strs]
theorem Gg(l n):ints l++[[fD n]]=ints (l++[n]):=by simp[ints]
def Ei(c:fB)(l:List fB):Bool:=l.any λs=>decide (s=c)
theorem SC(h:i<l.length)(e:l[i]=c):Ei c l=true:=by
 unfold Ei;rw[List.any_eq_true];exact⟨_,bS h,by simpa using e⟩
theorem sn:Ei c l=true↔c∈l:=by
 unfold Ei;rw[List.any_eq_true];exact⟨λ⟨x,b,e⟩=>by simp at e;subst e;exact b,λh=>⟨c,h,by simp⟩⟩
theorem OO(h:c∉l):Ei c l=false:=by
 cases b:Ei c l with
 |false=>rfl
 |true=>exact absurd (sn.1 b) h
theorem sj{l:List fB}{j:Nat}(h:j<l.length)(e:c∉l.take j)(i:¬l[j]=c):c∉l.take (j+1):=by
 rw[bo,bn];rintro(h3|h3)
 .exact e h3
 .simp [h] at h3;exact i h3.symm
inductive iq where
 |mk (kind:Int) (name:fB) (args:List iq)
mutual
def iq.cells:iq->List D
 | .mk k s args=>[.v (.int .i64 k),.v (.string s),.sl 3 (iR args)]
def iR:List iq->List (List D)
 |[]=>[]
 |l::r=>l.cells::iR r
end
def iq.d(l:iq):D:=.agg l.cells
theorem iq.xn:∀l:iq,l.cells.length=3
 | .mk _ _ _=>rfl
theorem iq.case(l:iq):∃k s args,l=.mk k s args:=by cases l;exact⟨_,_,_,rfl⟩
theorem jn:∀l:List iq,(iR l).length=l.length
 |[]=>rfl
 |l::r=>by simp[iR,jn r]
theorem L3:∀{l:List iq} {i:Nat} {x:iq},l[i]? =some x->(iR l)[i]? =some x.cells
 |[],i,x,h=>by simp at h
 |l::r,0,x,h=>by simp at h;subst h;simp[iR]
 |l::r,i+1,x,h=>by simpa[iR] using L3 (l:=r) (i:=i) (by simpa using h)
theorem lj(h:l[i]? =some (.mk e s c)):(iR l)[((i:Nat):Int).toNat]? =some [fD e,fG s,.sl 3 (iR c)]:=by
 rw[cb,L3 h];rfl
theorem yV(l m):iR (l++m)=iR l++iR m:=by
 induction l with
 |nil=>rfl
 |cons a r b=>simp[iR,b]
theorem kj{c:List iq}{i:Nat}(h:i<c.length):∃k s args,c[i]? =some (.mk k s args):=by
 have:c[i]? =some c[i]:=by simp[h]
 rw[this];cases c[i];exact⟨_,_,_,rfl⟩
mutual
def iq.size:iq->Nat
 | .mk _ _ args=>1+iG args
def iG:List iq->Nat
 |[]=>0
 |l::r=>l.size+iG r
end
theorem pJ:∀{ls:List iq} {i:Nat} {l:iq},ls[i]? =some l->l.size<=iG ls
 |[],i,l,h=>by simp at h
 |a::r,0,l,h=>by simp at h;subst h;simp[iG]
 |a::r,i+1,l,h=>by simp at h;have:=pJ h;simp[iG];omega
theorem pO:∀ls:List iq,ls.length<=iG ls
 |[]=>by simp
 |l::r=>by have:=pO r;cases l;simp[iG,iq.size];omega
mutual
def iq.same:iq->iq->Bool
 | .mk k s a,.mk k2 s2 a2=>decide (k=k2)&&decide (s=s2)&&n6 a a2
def n6:List iq->List iq->Bool
 |[],[]=>true
 |l::r,l2::r2=>l.same l2&&n6 r r2
 |_,_=>false
end
theorem iq.r4(i s a c e h):iq.same (.mk i s a) (.mk c e h)=(decide (i=c)&&decide (s=e)&&n6 a h):=by simp[iq.same]
theorem CF:∀{a b:List iq},n6 a b=true->a.length=b.length
 |[],[],_=>rfl
 |l::r,l2::k,h=>by simp[n6] at h;simp[CF h.2]
 |[],_::_,h=>by simp[n6] at h
 |_::_,[],h=>by simp[n6] at h
theorem HR:∀{a b:List iq} {x y:iq},a.length=b.length->n6 (a++[x]) (b++[y])=(n6 a b&&x.same y)
 |[],[],x,y,_=>by simp[n6]
 |l::r,l2::k,x,y,h=>by simp[n6,HR (a:=r) (b:=k) (by simpa using h),Bool.and_assoc]
 |[],_::_,_,_,h=>by simp at h
 |_::_,[],_,_,h=>by simp at h
theorem Fl{a h:List iq}{i:Nat}(c:a[i]? =some x)(e:h[i]? =some y):n6 (a.take (i+1)) (h.take (i+1))=(n6 (a.take i) (h.take i)&&x.same y):=by
 have k:=(aJ.1 c).1;have U:=(aJ.1 e).1;rw[bo,bo,c,e];exact HR (by simp;omega)
theorem yG:∀{a b:List iq} {i:Nat} {x y:iq},a[i]? =some x->b[i]? =some y->x.same y=false->n6 a b=false
 |[],_,i,_,_,h,_,_=>by simp at h
 |_::_,[],i,_,_,_,h,_=>by simp at h
 |l::r,l2::e,0,x,y,k,U,c=>by simp at k U;subst k U;simp[n6,c]
 |l::r,l2::e,i+1,x,y,k,U,c=>by simp[n6];intro _;exact yG (i:=i) (by simpa using k) (by simpa using U) c
mutual
def iq.q7:iq->Nat
 | .mk k _ args=>(if k=1 then 1 else 0)+Uc args
def Uc:List iq->Nat
 |[]=>0
 |l::r=>l.q7+Uc r
end
mutual
def iq.params:iq->List fB->List fB
 | .mk k s args,ah=>if k=4 then(if Ei s ah then ah else ah++[s]) else kP args ah
def kP:List iq->List fB->List fB
 |[],ah=>ah
 |l::r,ah=>kP r (l.params ah)
end
mutual
theorem iq.Fv:∀(l:iq) (ah:List fB),(l.params ah).length<=ah.length+l.size
 | .mk k s args,ah=>by
  have h:=yP args ah;simp only[iq.params,iq.size];split
  .split
   .omega
   .simp
  .omega
theorem yP:∀(ls:List iq) (ah:List fB),(kP ls ah).length<=ah.length+iG ls
 |[],ah=>by simp[kP]
 |l::r,ah=>by
  have h1:=l.Fv ah;have h2:=yP r (l.params ah);simp only[kP,iG];omega
end
theorem yQ(l m c):kP (l++m) c=kP m (kP l c):=by
 induction l generalizing c with
 |nil=>rfl
 |cons a r b=>simp[kP,b]
theorem xK{l:List iq}{i:Nat}(h:l[i]? =some a)(c:List fB):kP (l.take (i+1)) c=a.params (kP (l.take i) c):=by
 rw[bo,h];simp[yQ,kP]
theorem Bk(l m):iG (l++m)=iG l+iG m:=by
 induction l with
 |nil=>simp[iG]
 |cons a r b=>simp[iG,b];omega
theorem u9{l:List iq}{i:Nat}(h:l[i]? =some a):iG (l.take (i+1))=iG (l.take i)+a.size:=by
 rw[bo,h];simp[Bk,iG]
theorem rq(l i):iG (l.take i)<=iG l:=by
 have:iG l=iG (l.take i)+iG (l.drop i):=by rw[<- Bk,dp]
 omega
inductive jC where
 |zero
 |succ (a:jC)
 |max (a b:jC)
 |imax (a b:jC)
 |param (s:fB)
def jC.iT:jC->iq
 | .zero=>.mk 0 .empty []
 | .succ a=>.mk 1 .empty [a.iT]
 | .max a b=>.mk 2 .empty [a.iT,b.iT]
 | .imax a b=>.mk 3 .empty [a.iT,b.iT]
 | .param s=>.mk 4 s []
def jC.size:jC->Nat
 | .zero=>1
 | .succ a=>1+a.size
 | .max a b=>1+a.size+b.size
 | .imax a b=>1+a.size+b.size
 | .param _=>1
theorem jC.nq:∀l:jC,l.iT.size=l.size
 | .zero=>rfl
 | .succ a=>by simp[jC.iT,iq.size,iG,jC.size,a.nq]
 | .max a b=>by simp[jC.iT,iq.size,iG,jC.size,a.nq,b.nq];omega
 | .imax a b=>by simp[jC.iT,iq.size,iG,jC.size,a.nq,b.nq];omega
 | .param _=>rfl
def jC.q7:jC->Nat
 | .zero=>0
 | .succ a=>1+a.q7
 | .max a b=>a.q7+b.q7
 | .imax a b=>a.q7+b.q7
 | .param _=>0
def jC.params:jC->List fB->List fB
 | .zero,k=>k
 | .succ a,k=>a.params k
 | .max a b,k=>b.params (a.params k)
 | .imax a b,k=>b.params (a.params k)
 | .param s,k=>if Ei s k then k else k++[s]
theorem jC.oZ:∀(l:jC) (k:List fB),l.iT.params k=l.params k
 | .zero,k=>by simp[jC.iT,iq.params,kP,jC.params]
 | .succ a,k=>by simp[jC.iT,iq.params,kP,jC.params,a.oZ]
 | .max a b,k=>by simp[jC.iT,iq.params,kP,jC.params,a.oZ,b.oZ]
 | .imax a b,k=>by simp[jC.iT,iq.params,kP,jC.params,a.oZ,b.oZ]
 | .param s,k=>by simp[jC.iT,iq.params,jC.params]
def ZO:List fB->List Int->fB->Int
 |p::ps,n::b,s=>if p=s then n else ZO ps b s
 |_,_,_=>0
def jC.mP(σ:fB->Int):jC->Int
 | .zero=>0
 | .succ a=>a.mP σ+1
 | .max a b=>Max.max (a.mP σ) (b.mP σ)
 | .imax a b=>if b.mP σ=0 then 0 else Max.max (a.mP σ) (b.mP σ)
 | .param s=>σ s
def QB(c:Int)(r:Nat):Int:=if r%3=0 then 0 else if r%3=1 then 1 else c
def Hp(c:Int)(e n:Nat):List Int:=(List.range n).map λj=>QB c (e/3^j)
theorem Tf(c e n):Hp c e (n+1)=Hp c e n++[QB c (e/3^n)]:=by simp[Hp,eK]
theorem MQ(c e n):(Hp c e n).length=n:=by simp[Hp]
def jC.ps(a b:jC):List fB:=b.params (a.params [])
def jC.big(a c:jC):Int:=2+a.q7+c.q7
def YU(a c:jC)(e:Nat):Prop:=a.mP (ZO (a.ps c) (Hp (a.big c) e (a.ps c).length))<=c.mP (ZO (a.ps c) (Hp (a.big c) e (a.ps c).length))
instance (a b:jC) (k:Nat):Decidable (YU a b k):=by unfold YU;infer_instance
def qq(c:Int)(first:Bool):Bool:=decide ((97<=c/\c<=122)\/(65<=c/\c<=90)\/c=95\/(first=false/\((48<=c/\c<=57)\/c=46\/c=39)))
def nn(t:fB):Bool:=decide (t≠ .empty)&&qq (iM t 0) true
theorem yB{t:fB}(h:t≠ .empty):0<t.size:=by
 rcases cX t.size with h0|h0
 .refine absurd ?_ h;apply eH;exact ft h0
 .exact h0
def Ui(c:Int->Bool)(s:fB):Nat->Nat->Nat
 |0,p=>p
 |n+1,p=>if c (iM s p)=true then Ui c s n (p+1) else p
@[irreducible] def jZ (f:Int->Bool) (s:fB) (p:Nat):Nat:=Ui f s (s.size-p) p
theorem E7(c:Int->Bool)(s p):jZ c s p=if p<s.size/\c (iM s p)=true then jZ c s (p+1) else p:=by
 unfold jZ;by_cases h:p<s.size
 .rw [show s.size-p=(s.size-(p+1))+1 by omega,Ui];simp only[h,true_and]
 .rw [show s.size-p=0 by omega,if_neg λx=>h x.1];rfl
def zV(c:Int):Bool:=decide (c=32\/c=9\/c=10)
def ux(c:Int):Bool:=decide (48<=c/\c<=57)
def iE(s:fB)(e:Nat):fB×Nat×Bool:=
 let p:=jZ zV s e
 if p=s.size then(.empty,p,true) else
 let c:=iM s p
 if c=40\/c=41 then(s.extract p (p+1),p,true) else
 if qq c true then
  let q:=jZ (qq · false) s (p+1)
  if q-p>40 then(.empty,p,false) else(s.extract p q,p,true)
 else if c=35\/ux c then
  let q:=jZ ux s (p+1)
  let d:=if c=35 then p+1 else p
  if q=d\/q-d>5\/(q-d>1/\iM s d=48) then(.empty,p,false) else(s.extract p q,p,true)
 else(.empty,p,false)
theorem pI(f:Int->Bool)(s p)(h:p<=s.size):p<=jZ f s p/\jZ f s p<=s.size:=by
 rw[E7];split
 .rename_i h1;have:=pI f s (p+1) O;omega
 .omega
termination_by s.size-p
theorem xC(h:p<s.size)(c:e (iM s p)=true):jZ e s p=jZ e s (p+1):=by
 rw[E7];simp[h,c]
theorem uO(h:¬(p<s.size/\c (iM s p)=true)):jZ c s p=p:=by
 rw[E7,if_neg h]
mutual
def iq.subst(ps:List fB)(ls:List iq):iq->iq
 | .mk k s args=>if k=4 then(match ps.findIdx? (· =s) with|some i=>ls.getD i (.mk k s args)|none=>.mk k s args) else .mk k s (nH ps ls args)
def nH(ps:List fB)(ls:List iq):List iq->List iq
 |[]=>[]
 |l::r=>l.subst ps ls::nH ps ls r
end
theorem Aq(c e):∀a:List iq,(nH c e a).length=a.length
 |[]=>rfl
 |l::r=>by simp[nH,Aq c e r]
theorem E5(c e):∀a b:List iq,nH c e (a++b)=nH c e a++nH c e b
 |[],b=>rfl
 |l::r,b=>by simp[nH,E5 c e r b]
theorem Dy{c:List fB}{e a:List iq}{i:Nat}(h:a[i]? =some x):nH c e (a.take (i+1))=nH c e (a.take i)++[x.subst c e]:=by
 rw[bo,h,E5];rfl
theorem xY{c:List fB}{i:Nat}(h:i<c.length)(q:s∉c.take i)(r:c[i]=s):c.findIdx? (· =s)=some i:=by
 rw[fw];refine⟨h,by simpa using r,λj b=>?_⟩;simp only[decide_eq_true_eq];intro e;exact q (dH.2 ⟨j,by simp;omega,by simpa using e⟩)
theorem xZ{c:List fB}(h:s∉c):c.findIdx? (· =s)=none:=by
 rw[List.findIdx?_eq_none_iff];intro x b;simp only[decide_eq_false_iff_not];intro e;subst e;exact h b
theorem zv(a):(ByteArray.mk a).size=a.size:=rfl
def jC.weight:jC->Nat
 | .zero=>10
 | .succ a=>10+a.weight
 | .max a b=>10+a.weight+b.weight
 | .imax a b=>10+a.weight+b.weight
 | .param s=>10+s.size
mutual
def Da:iq->Prop
 | .mk k s args=>0<=k/\k<=4/\(k=4->s≠ .empty)/\Pu args
def Pu:List iq->Prop
 |[]=>True
 |l::r=>Da l/\Pu r
end
structure RS where
 p:Nat
 f:Option Nat
def iV:Option Nat->Int
 |none=>0
 |some _=>1
def ot:Option Nat->Int
 |none=>0
 |some a=>a
def RS.fail(c:Nat)(r:RS):RS:=match r.f with
 |none=>⟨r.p,some c⟩
 |some a=>⟨r.p,some a⟩
def iz(s:fB)(r:RS):fB×RS:=
 let t:=iE s r.p
 if t.2.2=false\/t.1=.empty then(.empty,r.fail t.2.1)
 else match r.f with
  |none=>(t.1,⟨t.2.1+t.1.size,none⟩)
  |some a=>(.empty,⟨r.p,some a⟩)
def jF(s w:fB)(r:RS):RS:=
 let t:=iE s r.p
 if t.2.2=false\/t.1≠w then r.fail t.2.1
 else match r.f with
  |none=>⟨t.2.1+t.1.size,none⟩
  |some a=>⟨r.p,some a⟩
def ra(w:fB):Int:=
 if w=⟨#[115]⟩ then 1 else if w=⟨#[109,97,120]⟩ then 2 else if w=⟨#[105,109,97,120]⟩ then 3 else 0
def uZ:iq:=.mk 0 .empty []
def je:Nat->fB->RS->iq×RS
 |0,_,r=>(uZ,r)
 |n+1,s,r=>
  match r.f with
  |some _=>(uZ,r)
  |none=>
   let t:=iE s r.p
   if t.1=⟨#[48]⟩ then(uZ,(iz s r).2)
   else if nn t.1 then(.mk 4 t.1 [],(iz s r).2)
   else if t.1=⟨#[40]⟩ then
    let k:=(iz s r).2
    let w:=iE s k.p
    if ra w.1=0 then(uZ,k.fail w.2.1)
    else
     let U:=(iz s k).2
     let a:=je n s U
     if ra w.1=1 then(.mk 1 .empty [a.1],jF s ⟨#[41]⟩ a.2)
     else
      let b:=je n s a.2
      (.mk (ra w.1) .empty [a.1,b.1],jF s ⟨#[41]⟩ b.2)
   else(uZ,r.fail t.2.1)
def rR(s:fB)(r:RS):RS:=
 let t:=iE s r.p
 if t.2.2=false\/t.1≠ .empty then r.fail t.2.1 else r
theorem W2(h:jZ zV s p=jZ zV s i)(c:i=s.size):iE s p=(.empty,i,true):=by
 have b:jZ zV s p=i:=h.trans (uO O);unfold iE;simp only[b,c];rfl
theorem W1(h:jZ zV s p=i)(e:i<s.size)(c:iM s i=40\/iM s i=41):iE s p=(s.extract i (i+1),i,true):=by
 unfold iE;simp only[h];rw[if_neg O,if_pos c]
theorem HH(h:jZ e s p=jZ e s q)(c:(s.size:Int)<=q\/e (iM s q)=false):jZ e s p=q:=h.trans (uO (by
 rintro⟨k,b⟩;rcases c with h3|h3
 .omega
 .rw [h3] at b;cases b))
theorem xD(h:jZ ux s p=jZ ux s q)(c:¬((q:Int)<s.size/\48<=iM s q/\iM s q<=57)):jZ ux s p=q:=h.trans (uO (by
 rintro⟨k,b⟩;simp only[ux,decide_eq_true_eq] at b;omega))
theorem NS(h:jZ zV s p=i)(x:i<s.size)(c:¬(iM s i=40\/iM s i=41))(e:qq (iM s i) true=true)(j:jZ (qq · false) s (i+1)=q)(r:40<q-i):iE s p=(.empty,i,false):=by
 unfold iE;simp only[h];rw[if_neg O,if_neg c,if_pos e,j,if_pos r]
theorem T5(h:jZ zV s p=i)(x:i<s.size)(c:¬(iM s i=40\/iM s i=41))(e:qq (iM s i) true=true)(j:jZ (qq · false) s (i+1)=q)(r:¬40<q-i):iE s p=(s.extract i q,i,true):=by
 unfold iE;simp only[h];rw[if_neg O,if_neg c,if_pos e,j,if_neg r]
theorem HC{d:Nat}(h:jZ zV s p=i)(z:i<s.size)(e:¬(iM s i=40\/iM s i=41))(j:qq (iM s i) true=false)(r:iM s i=35\/(48<=iM s i/\iM s i<=57))(x:jZ ux s (i+1)=q)(c:(if iM s i=35 then i+1 else i)=d)(y:q=d\/5<q-d\/(1<q-d/\iM s d=48)):iE s p=(.empty,i,false):=by
 have b:iM s i=35\/ux (iM s i)=true:=by simpa[ux] using r
 unfold iE;simp only[h];rw[if_neg O,if_neg e,if_neg (by simp[j]),if_pos b,x,c,if_pos y]
theorem Qz{d:Nat}(h:jZ zV s p=i)(z:i<s.size)(e:¬(iM s i=40\/iM s i=41))(j:qq (iM s i) true=false)(r:iM s i=35\/(48<=iM s i/\iM s i<=57))(x:jZ ux s (i+1)=q)(c:(if iM s i=35 then i+1 else i)=d)(y:¬(q=d\/5<q-d\/(1<q-d/\iM s d=48))):iE s p=(s.extract i q,i,true):=by
 have b:iM s i=35\/ux (iM s i)=true:=by simpa[ux] using r
 unfold iE;simp only[h];rw[if_neg O,if_neg e,if_neg (by simp[j]),if_pos b,x,c,if_neg y]
theorem T4(h:jZ zV s p=i)(q:i<s.size)(c:¬(iM s i=40\/iM s i=41))(e:qq (iM s i) true=false)(j:¬(iM s i=35\/(48<=iM s i/\iM s i<=57))):iE s p=(.empty,i,false):=by
 have b:¬(iM s i=35\/ux (iM s i)=true):=by simpa[ux] using j
 unfold iE;simp only[h];rw[if_neg O,if_neg c,if_neg (by simp[e]),if_neg b]
theorem pF(c:p<=s.size):p<=(iE s p).2.1/\(iE s p).2.1+(iE s p).1.size<=s.size:=by
 have h1:=pI zV s p c;unfold iE;simp only;split
 .rename_i h;exact⟨h1.1,by simp;omega⟩
 .rename_i h;have h2:jZ zV s p+1<=s.size:=O;split
  .exact ⟨h1.1,by simp[cC];omega⟩
  .split
   .have b:=pI (qq · false) s _ h2;split
    .exact ⟨h1.1,by simp;omega⟩
    .exact ⟨h1.1,by simp[cC];omega⟩
   .have b:=pI ux s _ h2
    repeat' split
    all_goals first
     |exact⟨h1.1,by simp;omega⟩
     |exact⟨h1.1,by simp[cC];omega⟩
theorem Al:(iE s p).2.2=false->(iE s p).1=.empty:=by
 unfold iE;dsimp only
 repeat' split
 all_goals first
  |(intro _;rfl)
  |(intro h;cases h)
theorem sk(c:(iE s p).1≠ .empty):iz s ⟨p,none⟩=((iE s p).1,⟨(iE s p).2.1+(iE s p).1.size,none⟩):=by
 unfold iz;dsimp only;rw[if_neg];rintro(h|h)
 .exact c (Al h)
 .exact c h
theorem RS.rG(c:Nat)(r:RS):(r.fail c).p=r.p:=by obtain⟨p,f⟩:=r;cases f<;>rfl
theorem ke(c:r.p<=s.size):r.p<=(iz s r).2.p/\(iz s r).2.p<=s.size:=by
 have b:=pF (s:=s) c;obtain⟨p,f⟩:=r;simp only at c b;unfold iz;dsimp only;split
 .rw [RS.rG];exact⟨ae _,c⟩
 .cases f with
  |none=>dsimp only;exact⟨O,b.2⟩
  |some a=>exact⟨ae _,c⟩
theorem jy(c:r.p<=s.size):r.p<=(jF s w r).p/\(jF s w r).p<=s.size:=by
 have b:=pF (s:=s) c;obtain⟨p,f⟩:=r;simp only at c b;unfold jF;dsimp only;split
 .rw [RS.rG];exact⟨ae _,c⟩
 .cases f with
  |none=>dsimp only;exact⟨O,b.2⟩
  |some a=>exact⟨ae _,c⟩
theorem oB:∀(n:Nat) {r:RS},r.p<=s.size->r.p<=(je n s r).2.p/\(je n s r).2.p<=s.size:=by
 intro n
 induction n with
 |zero=>intro r b;exact⟨ae _,b⟩
 |succ n c=>
  intro r b;obtain⟨p,f⟩:=r;simp only at b;cases f with
  |some a=>exact⟨ae _,b⟩
  |none=>
   have k:=ke (s:=s) (r:=⟨p,none⟩) b;have h:=ke (s:=s) (r:=(iz s ⟨p,none⟩).2) k.2;have e:=c h.2;have i:=c e.2;simp only at k;simp only[je];split
   .exact k
   .split
    .exact k
    .split
     .split
      .rw [RS.rG];exact k
      .split
       .have U:=jy (s:=s) (w:=⟨#[41]⟩) e.2;exact⟨aQ (m:=(je n s (iz s (iz s ⟨p,none⟩).2).2).2.p) O U.1,U.2⟩
       .have U:=jy (s:=s) (w:=⟨#[41]⟩) i.2;exact⟨aQ (m:=(je n s (je n s (iz s (iz s ⟨p,none⟩).2).2).2).2.p) O U.1,U.2⟩
     .rw [RS.rG];exact⟨ae _,b⟩
theorem vW(c:(iE s p).1=⟨#[48]⟩):je (n+1) s ⟨p,none⟩=(uZ,(iz s ⟨p,none⟩).2):=by simp only[je];rw[if_pos c]
theorem vX(c:¬(iE s p).1=⟨#[48]⟩)(e:nn (iE s p).1=true):je (n+1) s ⟨p,none⟩=(.mk 4 (iE s p).1 [],(iz s ⟨p,none⟩).2):=by simp only[je];rw[if_neg c,if_pos e]
theorem vY(h:¬(iE s p).1=⟨#[48]⟩)(i:nn (iE s p).1=false)(c:(iE s p).1=⟨#[40]⟩)(e:ra (iE s (iz s ⟨p,none⟩).2.p).1=0):
 je (n+1) s ⟨p,none⟩=(uZ,(iz s ⟨p,none⟩).2.fail (iE s (iz s ⟨p,none⟩).2.p).2.1):=by simp only[je];rw[if_neg h,if_neg (by simp[i]),if_pos c,if_pos e]
theorem xT(h:¬(iE s p).1=⟨#[48]⟩)(i:nn (iE s p).1=false)(c:(iE s p).1=⟨#[40]⟩)(e:ra (iE s (iz s ⟨p,none⟩).2.p).1=1):
 je (n+1) s ⟨p,none⟩=(.mk 1 .empty [(je n s (iz s (iz s ⟨p,none⟩).2).2).1],jF s ⟨#[41]⟩ (je n s (iz s (iz s ⟨p,none⟩).2).2).2):=by
 simp only[je];rw[if_neg h,if_neg (by simp[i]),if_pos c,if_neg O,if_pos e]
theorem tE(i:¬(iE s p).1=⟨#[48]⟩)(j:nn (iE s p).1=false)(c:(iE s p).1=⟨#[40]⟩)(e:¬ra (iE s (iz s ⟨p,none⟩).2.p).1=0)(h:¬ra (iE s (iz s ⟨p,none⟩).2.p).1=1):
 je (n+1) s ⟨p,none⟩=(.mk (ra (iE s (iz s ⟨p,none⟩).2.p).1) .empty [(je n s (iz s (iz s ⟨p,none⟩).2).2).1,(je n s (je n s (iz s (iz s ⟨p,none⟩).2).2).2).1],jF s ⟨#[41]⟩ (je n s (je n s (iz s (iz s ⟨p,none⟩).2).2).2).2):=by
 simp only[je];rw[if_neg i,if_neg (by simp[j]),if_pos c,if_neg e,if_neg h]
theorem vZ{s:fB}{p n:Nat}(e:¬(iE s p).1=⟨#[48]⟩)(h:nn (iE s p).1=false)(c:¬(iE s p).1=⟨#[40]⟩):je (n+1) s ⟨p,none⟩=(uZ,(RS.mk p none).fail (iE s p).2.1):=by
 simp only[je];rw[if_neg e,if_neg (by simp[h]),if_neg c]
end Go.Vd
namespace Go.Proofs.YtndbnldjidciiaaGreatDoor
variable{α ι A B C F G H I J K M P Q R S T V W Y a a6 args c e first fr gl h i j k2 l m n o ob' p q r s t u v vs w x y yt z}
section
open Go Go.Vd Go.RowKit
attribute [local irreducible] iK iL jI ik iW
theorem tP(c l)(e:l.length<=281474976710656):jA fC gl 101 [fG c,nU l] (· =fF (Ei c l)):=by
 refine oN Tryz.func101 18 ?_;have k:=jU l;refine vq 12 (ι:=Nat) (λi=>[(5,int i)]) [0,1] (λi=>i<=l.length/\c∉l.take i) (λi=>l.length-i) (0) ⟨O,by simp⟩ ?_;rintro i b
 try dsimp only at b
 refine j7 9 ?_ ?_<;>intro h
 .refine od 11 ?_;rw[OO];have:l.take i=l:=aS O;rw[<- this];exact b.2
 refine ni 8 yv Cs ?_ (hat:=by exact(u7 O));refine jq 5 ?_ ?_<;>intro U
 .refine od 11 ?_;rw[SC O U]
 refine jS 5 ?_;refine rF 2 ?_;refine bi (i+1) rfl ?_ ?_
 .exact ⟨⟨O,sj O b.2 U⟩,O⟩
 .exact mz
theorem Ly:∀(n:Nat) (k:Int) (s:fB) (args:List iq) (U:List fB),(iq.mk k s args).size<=n->U.length+(iq.mk k s args).size<=1099511627776->
 jT fC gl 100 [.row 9 1] [.d (iq.mk k s args).d,.own 0 1 (strs U)] λout ob'=>out=.ret (.own 0 1 (strs ((iq.mk k s args).params U)))/\ob'=[.row 9 1]:=by
 intro n
 induction n with
 |zero=>intro k s args U h;simp[iq.size] at h
 |succ n z=>
  intro k s args U C F;have G:iG args<=n:=by simp[iq.size] at C;omega
  have r:=jn args;have j:=jU U;have H:=pO args;simp only[iq.size] at F;refine nR Tryz.func100 37 1 ?_;refine jq 14 ?_ ?_<;>intro W
  .refine ny 5 (tP s U O) ?_;refine j7 10 ?_ ?_<;>intro x
   .refine rF 10 ?_;refine fR<|pe ⟨_,_,rfl,rfl,rfl⟩ [0] (.own 0 1 (strs U)) ([.row 9 1]) rfl rfl rfl ?_ rfl ?_ ?_
    .repeat (first|exact nw|refine oT ?_)
    .exact .refl _
    .refine ⟨?_,rfl⟩;simp only[iq.params,if_pos (show k=4 by omega),x];rfl
   refine oR 4 Ar [.tmp 18] R7 ?_;refine oc (ya Ar ?_);refine rF 11 ?_;refine fR<|pe ⟨_,_,rfl,rfl,rfl⟩ [0] (.own 0 1 (strs (U++[s]))) ([.row 9 1]) rfl rfl rfl ?_ rfl ?_ ?_
   .repeat (first|exact nw|refine oT ?_)
   .exact Fit.of_eq (by rw[<- wG];rfl)
   .refine ⟨?_,rfl⟩;simp only[iq.params,if_pos (show k=4 by omega),x];rfl
  refine vq 9 (ι:=Nat) (λi=>[(6,int i),(1,.own 0 1 (strs (kP (args.take i) U)))]) [2] (λi=>i<=args.length) (λi=>args.length-i) (0) (ak _) ?_;rintro i c
  try dsimp only at c
  refine j7 10 ?_ ?_<;>intro Y
  .refine rF 12 ?_;refine fR<|pe ⟨_,_,rfl,rfl,rfl⟩ [0] (.own 0 1 (strs (kP (args.take i) U))) ([.row 9 1]) rfl rfl rfl ?_ rfl ?_ ?_
   .repeat (first|exact nw|refine oT ?_)
   .exact .refl _
   .refine ⟨?_,rfl⟩;simp only[iq.params,if_neg (show ¬k=4 by omega)];rw[aS O]
  obtain⟨I,J,M,b⟩:=kj (show i<args.length by omega);have y:=pJ b;have R:=yP (args.take i) U;have S:=u9 b;have V:=rq args (i+1);refine ni 8 oz oP ?_ (hat:=(lj b));refine rF 2 ?_;refine oc (iX Nd rfl rfl rfl rfl (z I J M (kP (args.take i) U) O O) [0] (oT .nil) rfl rfl rfl rfl (oq (jw .nil)) (λs ob' e=>?_) (λs ob' e=>?_));rotate_left
  .first|exact e.elim|cases e.1
  obtain⟨q,rfl⟩:=e;cases q;rw[<- xK b];refine⟨_,_,_,_,_,rfl,rfl,rfl,rfl,rfl,?_⟩;refine jS 6 ?_;refine rF 2 ?_;refine bi (i+1) rfl ?_ ?_
  .exact ⟨O,O⟩
  .exact mz
theorem wz(c first):jA fC e 125 [.v (.int .u8 c),fF first] (· =fF (qq c first)):=by
 refine oN Tryz.func125 45 ?_;refine xP 10 10 8 2 ?_;refine' Cg 1 18 12 6 ?a2 ?_
 case a2=>
  intro k b;refine xP 3 17 15 2 ?_;exact b [_,_,_,_] rfl rfl
 refine rV 1 22 20 2 ?_;refine' Cg 7 43 25 18 ?a5 ?_
 case a5=>
  intro k b;refine' DM 3 42 28 14 ?a6 ?_
  case a6=>
   intro k b;refine xP 3 33 31 2 ?_;refine rV 1 37 35 2 ?_;refine rV 1 41 39 2 ?_;exact b [_,_,_,_,_,_,_,_] rfl rfl
  exact b [_,_,_,_] rfl rfl
 refine od 4 ?_
 congr 2
 rw[Bool.eq_iff_iff];cases first<;>simp only[qq,ew,bY,decide_eq_true_eq,Bool.not_eq_true',Bool.not_true,Bool.not_false,bu,Bool.true_eq_false,true_and,false_and,or_false,reduceCtorEq]<;>constructor<;>intro h<;>omega
theorem v5{c:Nat->List D}(t:fB):jA fC c 126 [fG t] (· =fF (nn t)):=by
 refine oN Tryz.func126 10 ?_;refine' DM 10 8 5 3 ?a10 ?_
 case a10=>
  intro k U;have b:=yB k;refine rF 1 ?_;refine gy<|o1 (P3 Du ?_);refine ny 0 (wz (iM t (0:Int).toNat) true) ?_;exact U [_,_,_] rfl rfl
 refine od 4 ?_
 congr 2
 unfold nn;rw[show(0:Int).toNat=0 from rfl];have e:(⟨#[]⟩:fB)=.empty:=rfl;rw[e];simp
theorem Zl(h:iM s i=32\/iM s i=9\/iM s i=10):zV (iM s i)=true:=by simpa[zV] using h
theorem kH(s:fB)(p:Nat)(c a:Int)(hs:s.size<=1099511627776)(z:p<=s.size):
 jT fC y 87 [.cells [fI s,fE p,fE c,fE a] 112] [.jk 0 0]
  λout ob'=>out=.ret (.d (.jj [fG (iE s p).1,fD (iE s p).2.1,fF (iE s p).2.2]))/\ob'=[.cells [fI s,fE p,fE c,fE a] 112]:=by
 refine nR Tryz.func87 177 1 ?_;refine vq 18 (ι:=Nat) (λi=>[(5,int i)]) [0] (λi=>i<=s.size/\jZ zV s p=jZ zV s i) (λi=>s.size-i) (p) ⟨z,rfl⟩ ?_;rintro i b
 try dsimp only at b
 refine' DM 11 46 21 25 ?a11 ?_
 case a11=>
  intro h k;refine rF 5 ?_;refine gy<|o1 (P3 Du ?_);refine' Cg 2 36 29 7 ?a12 ?_
  case a12=>
   intro h k;refine rF 5 ?_;refine gy<|o1 (P3 Du ?_);refine rF 1 ?_;exact k [_,_,_,_,_,_,_] rfl rfl
  refine' Cg 1 45 38 7 ?a13 ?_
  case a13=>
   intro h k;refine rF 5 ?_;refine gy<|o1 (P3 Du ?_);refine rF 1 ?_;exact k [_,_,_,_,_,_,_] rfl rfl
  exact k [_,_,_,_,_,_,_,_,_,_,_] rfl rfl
 refine jq 2 ?_ ?_<;>intro h2
 .refine jS 5 ?_;refine qX 3 (i+1) ?_;exact⟨⟨O,b.2.trans (xC O (Zl O))⟩,O⟩
 refine jq 17 ?_ ?_<;>intro J
 .refine B5 10 [0] [.cells [fI s,fE p,fE c,fE a] 112] ?_
  .rw [W2 b.2 O];exact⟨rfl,rfl⟩
 have U:=b.2.trans (uO (by rintro⟨M,C⟩;have r:iM s i=32\/iM s i=9\/iM s i=10:=(by simpa[zV] using C);omega));refine jS 5 ?_;refine rF 10 ?_;refine o1 (P3 Du ?_);refine ny 6 (wz (iM s i) true) ?_;refine rV 10 74 72 2 ?_;refine jq 3 ?_ ?_<;>intro r
 .refine rF 11 ?_;refine o1 (y7 Du ?_);refine B5 7 [0] [.cells [fI s,fE p,fE c,fE a] 112] ?_
  .rw [W1 U O O];exact⟨rfl,rfl⟩
 refine jq 6 ?_ ?_<;>intro e
 .refine vq 2 (ι:=Nat) (λq=>[(6,int q)]) [5,0] (λq=>i<q/\q<=s.size/\jZ (qq · false) s (i+1)=jZ (qq · false) s q) (λq=>s.size-q) (i+1) ⟨O,O,rfl⟩ ?_;rintro q b
  try dsimp only at b
  refine' DM 11 92 85 7 ?a15 ?_
  case a15=>
   intro h k;refine rF 5 ?_;refine gy<|o1 (P3 Du ?_);refine ny 0 (wz (iM s q) false) ?_;exact k [_,_,_,_,_,_,_] rfl rfl
  refine jq 2 ?_ ?_<;>intro j
  .refine jS 5 ?_;refine qX 3 (q+1) ?_;exact⟨⟨O,O,b.2.2.trans (xC O (by simpa using j.2))⟩,O⟩
  refine sH 9 ?_;refine jq 3 ?_ ?_<;>intro F
  .refine B5 11 [0] [.cells [fI s,fE p,fE c,fE a] 112] ?_
   .rw [NS U O O e (HH b.2.2 j) O];exact⟨rfl,rfl⟩
  refine rF 11 ?_;refine o1 (y7 Du ?_);refine B5 7 [0] [.cells [fI s,fE p,fE c,fE a] 112] ?_
  .rw [T5 U O O e (HH b.2.2 j) O];exact⟨rfl,rfl⟩
 refine' Cg 5 110 104 6 ?a16 ?_
 case a16=>
  intro h k;refine xP 3 109 107 2 ?_;exact k [_,_,_,_] rfl rfl
 refine j7 3 ?_ ?_<;>intro G
 .refine B5 11 [0] [.cells [fI s,fE p,fE c,fE a] 112] ?_
  .rw [T4 U O O e O];exact⟨rfl,rfl⟩
 refine vq 2 (ι:=Nat) (λq=>[(6,int q)]) [7,5,0] (λq=>i<q/\q<=s.size/\jZ ux s (i+1)=jZ ux s q) (λq=>s.size-q) (i+1) ⟨O,O,rfl⟩ ?_;rintro q b
 try dsimp only at b
 refine' DM 11 126 119 7 ?a18 ?_
 case a18=>
  intro h k;refine rF 5 ?_;refine gy<|o1 (P3 Du ?_);refine rF 1 ?_;exact k [_,_,_,_,_,_,_] rfl rfl
 refine' DM 1 135 128 7 ?a19 ?_
 case a19=>
  intro h k;refine rF 5 ?_;refine gy<|o1 (P3 Du ?_);refine rF 1 ?_;exact k [_,_,_,_,_,_,_] rfl rfl
 refine jq 2 ?_ ?_<;>intro H
 .refine jS 5 ?_;refine qX 3 (q+1) ?_;exact⟨⟨O,O,b.2.2.trans (xC O (by simp only[ux,decide_eq_true_eq];omega))⟩,O⟩
 refine j7 18 ?_ ?_<;>intro I
 .refine' Cg 8 151 147 4 ?a20 ?_
  case a20=>
   intro h k;refine sH 2 ?_;refine rF 1 ?_;exact k [_,_,_,_] rfl rfl
  refine' Cg 1 166 153 13 ?a21 ?_
  case a21=>
   intro h k;refine sH 2 ?_;refine' DM 2 165 158 7 ?a22 ?_
   case a22=>
    intro h k;refine rF 5 ?_;refine gy<|o1 (P3 Du ?_);refine rF 1 ?_;exact k [_,_,_,_,_,_,_] rfl rfl
   exact k [_,_,_,_,_,_] rfl rfl
  refine jq 2 ?_ ?_<;>intro x
  .refine B5 11 [0] [.cells [fI s,fE p,fE c,fE a] 112] ?_
   .rw [HC U O O e O (xD b.2.2 O) (d:=i) (by rw[if_neg O]) O];exact⟨rfl,rfl⟩
  refine rF 11 ?_;refine o1 (y7 Du ?_);refine B5 7 [0] [.cells [fI s,fE p,fE c,fE a] 112] ?_
  .rw [Qz U O O e O (xD b.2.2 O) (d:=i) (by rw[if_neg O]) O];exact⟨rfl,rfl⟩
 refine jS 2 ?_;refine' Cg 9 151 147 4 ?a23 ?_
 case a23=>
  intro h k;refine sH 2 ?_;refine rF 1 ?_;exact k [_,_,_,_] rfl rfl
 refine' Cg 1 166 153 13 ?a24 ?_
 case a24=>
  intro h k;refine sH 2 ?_;refine' DM 2 165 158 7 ?a25 ?_
  case a25=>
   intro h k;refine rF 5 ?_;refine gy<|o1 (P3 Du ?_);refine rF 1 ?_;exact k [_,_,_,_,_,_,_] rfl rfl
  exact k [_,_,_,_,_,_] rfl rfl
 refine jq 2 ?_ ?_<;>intro x
 .refine B5 11 [0] [.cells [fI s,fE p,fE c,fE a] 112] ?_
  .rw [HC U O O e O (xD b.2.2 O) (d:=i+1) (by rw[if_pos O]) O];exact⟨rfl,rfl⟩
 refine rF 11 ?_;refine o1 (y7 Du ?_);refine B5 7 [0] [.cells [fI s,fE p,fE c,fE a] 112] ?_
 .rw [Qz U O O e O (xD b.2.2 O) (d:=i+1) (by rw[if_pos O]) O];exact⟨rfl,rfl⟩
def rT(s:fB)(r:RS):Ob:=.cells [.d (.v (.string s)),.d (.v (.int .i64 r.p)),.d (.v (.int .i64 (iV r.f))),.d (.v (.int .i64 (ot r.f)))] 112
theorem oC(s:fB)(c:Nat)(r:RS):
 jT fC e 88 [rT s r] [.jk 0 0,fE c] λout ob'=>out=.ret (.d (.jj []))/\ob'=[rT s (r.fail c)]:=by
 obtain⟨p,f⟩:=r;cases f with
 |none=>
  refine nR Tryz.func88 15 1 ?_;refine rF 10 ?_;refine EM (λb=>?_) (λb=>?_)
  .simp (decide:=true) only[lP,iV,ot] at b
  (try simp(decide:=true) only[lP,iV,ot] at b);refine rF 8 ?_;refine fM ?_;refine tL (l:=[]) rfl rfl ([0]) ([rT s (RS.fail c ⟨p,none⟩)]) rfl rfl rfl ?_ ?_
  .repeat (first|exact nw|refine jN ?_)
  .exact ⟨rfl,rfl⟩
 |some a=>
  refine nR Tryz.func88 15 1 ?_;refine rF 10 ?_;refine cd (λb=>?_) (λb=>?_)
  .simp (decide:=true) only[lP,iV,ot] at b
  (try simp(decide:=true) only[lP,iV,ot] at b);refine rF 1 ?_;refine fM ?_;refine tL (l:=[]) rfl rfl ([0]) ([rT s (RS.fail c ⟨p,some a⟩)]) rfl rfl rfl ?_ ?_
  .repeat (first|exact nw|refine jN ?_)
  .exact ⟨rfl,rfl⟩
theorem rO(s:fB)(r:RS)(hs:s.size<=1099511627776)(c:r.p<=s.size):
 jT fC j 89 [rT s r] [.jk 0 0] λout ob'=>out=.ret (fI (iz s r).1)/\ob'=[rT s (iz s r).2]:=by
 have e:=pF (s:=s) c;obtain⟨p,f⟩:=r;simp only at e c;cases f with
 |none=>
  refine nR Tryz.func89 35 1 ?_;refine nC 8 (kH s p (iV none) (ot none) hs c) [0] ?_;refine rF 15 ?_;apply wu (yt:=16) (d:=14) 2 rfl rfl rfl (.none rfl) rfl rfl
  case h1=>
   intro b U;have i:=b;(try simp(decide:=true) only[lP,iV,ot,RS.fail] at i);refine uA ?_ (hbw:=by exact b);refine rF 1 ?_;refine uA ?_ (hbw:=by exact b);refine rF 1 ?_;exact U [_,_] rfl rfl
  case h2=>
   intro b U;refine tZ ?_ (hbw:=by exact b);refine tZ ?_ (hbw:=by exact b);exact U [_,_] rfl
  refine rF 2 ?_;refine cd (λh2=>?_) (λh2=>?_)
  ·(try simp(decide:=true) only[lP,iV,ot,RS.fail] at h2)
   refine nC 3 (oC s (iE s p).2.1 ⟨p,none⟩) [0] ?_;refine rF 13 ?_;refine EM (λk=>?_) (λk=>?_)
   .simp (decide:=true) only[lP,iV,ot,RS.fail] at k
   (try simp(decide:=true) only[lP,iV,ot,RS.fail] at k);refine B5 7 [0] [rT s (RS.fail (iE s p).2.1 ⟨p,none⟩)] ?_
   .unfold iz;simp only;rw[if_pos (by exact h2)];exact⟨rfl,rfl⟩
  (try simp(decide:=true) only[lP,iV,ot,RS.fail] at h2);refine rF 13 ?_;refine cd (λk=>?_) (λk=>?_)
  .simp (decide:=true) only[lP,iV,ot,RS.fail] at k
  (try simp(decide:=true) only[lP,iV,ot,RS.fail] at k);refine jS 8 ?_;refine B5 12 [0] [rT s ⟨(iE s p).2.1+(iE s p).1.size,none⟩] ?_
  .unfold iz;simp only;rw[if_neg (by rintro(h|h);exact absurd h (by simpa using h2.1);exact h2.2 h)];exact⟨rfl,rfl⟩
 |some a=>
  refine nR Tryz.func89 35 1 ?_;refine nC 8 (kH s p (iV (some a)) (ot (some a)) hs c) [0] ?_;refine rF 15 ?_;apply wu (yt:=16) (d:=14) 2 rfl rfl rfl (.none rfl) rfl rfl
  case h1=>
   intro b U;have i:=b;(try simp(decide:=true) only[lP,iV,ot,RS.fail] at i);refine uA ?_ (hbw:=by exact b);refine rF 1 ?_;refine uA ?_ (hbw:=by exact b);refine rF 1 ?_;exact U [_,_] rfl rfl
  case h2=>
   intro b U;refine tZ ?_ (hbw:=by exact b);refine tZ ?_ (hbw:=by exact b);exact U [_,_] rfl
  refine rF 2 ?_;refine EM (λh2=>?_) (λh2=>?_)
  ·(try simp(decide:=true) only[lP,iV,ot,RS.fail] at h2)
   refine rF 13 ?_;refine EM (λk=>?_) (λk=>?_)
   .simp (decide:=true) only[lP,iV,ot,RS.fail] at k
   (try simp(decide:=true) only[lP,iV,ot,RS.fail] at k);refine B5 7 [0] [rT s ⟨p,some a⟩] ?_
   .unfold iz;simp only;rw[if_neg (by rintro(h|h);exact absurd h (by simpa using h2.1);exact h2.2 h)];exact⟨rfl,rfl⟩
  (try simp(decide:=true) only[lP,iV,ot,RS.fail] at h2);refine nC 3 (oC s (iE s p).2.1 ⟨p,some a⟩) [0] ?_;refine rF 13 ?_;refine EM (λk=>?_) (λk=>?_)
  .simp (decide:=true) only[lP,iV,ot,RS.fail] at k
  (try simp(decide:=true) only[lP,iV,ot,RS.fail] at k);refine B5 7 [0] [rT s (RS.fail (iE s p).2.1 ⟨p,some a⟩)] ?_
  .unfold iz;simp only;rw[if_pos (by exact h2)];exact⟨rfl,rfl⟩
theorem qu(s t:fB)(r:RS)(hs:s.size<=1099511627776)(c:r.p<=s.size):
 jT fC j 94 [rT s r] [.jk 0 0,fI t] λout ob'=>out=.ret (.d (.jj []))/\ob'=[rT s (jF s t r)]:=by
 have e:=pF (s:=s) c;obtain⟨p,f⟩:=r;simp only at e c;cases f with
 |none=>
  refine nR Tryz.func94 36 1 ?_;refine nC 3 (kH s p (iV none) (ot none) hs c) [0] ?_;refine rF 15 ?_;apply wu (yt:=18) (d:=15) 3 rfl rfl rfl (.none rfl) rfl rfl
  case h1=>
   intro b U;have i:=b;(try simp(decide:=true) only[lP,iV,ot,RS.fail] at i);refine uA ?_ (hbw:=by exact b);refine rF 1 ?_;refine uA ?_ (hbw:=by exact b);refine rF 1 ?_;refine uA ?_ (hbw:=by exact b);refine rF 1 ?_;exact U [_,_,_] rfl rfl
  case h2=>
   intro b U;refine tZ ?_ (hbw:=by exact b);refine tZ ?_ (hbw:=by exact b);refine tZ ?_ (hbw:=by exact b);exact U [_,_,_] rfl
  refine rF 2 ?_;refine cd (λh1=>?_) (λh1=>?_)
  ·(try simp(decide:=true) only[lP,iV,ot,RS.fail] at h1)
   refine nC 3 (oC s (iE s p).2.1 ⟨p,none⟩) [0] ?_;refine rF 12 ?_;refine cd (λk=>?_) (λk=>?_)
   .simp (decide:=true) only[lP,iV,ot,RS.fail] at k
   (try simp(decide:=true) only[lP,iV,ot,RS.fail] at k);refine rF 1 ?_;refine fM ?_;refine tL (l:=[]) rfl rfl ([0]) ([rT s (RS.fail (iE s p).2.1 ⟨p,none⟩)]) rfl rfl rfl ?_ ?_
   .repeat (first|exact nw|refine jN ?_)
   .refine ⟨rfl,?_⟩;unfold jF;dsimp only;rw[if_pos (by exact h1)]
  (try simp(decide:=true) only[lP,iV,ot,RS.fail] at h1);refine rF 12 ?_;refine EM (λk=>?_) (λk=>?_)
  .simp (decide:=true) only[lP,iV,ot,RS.fail] at k
  (try simp(decide:=true) only[lP,iV,ot,RS.fail] at k);refine jS 5 ?_;refine rF 4 ?_;refine fM ?_;refine tL (l:=[]) rfl rfl ([0]) ([rT s ⟨(iE s p).2.1+(iE s p).1.size,none⟩]) rfl rfl rfl ?_ ?_
  .repeat (first|exact nw|refine jN ?_)
  .refine ⟨rfl,?_⟩;unfold jF;dsimp only;rw[if_neg (by rintro(h|h);exact absurd h (by simpa using h1.1);exact h h1.2)]
 |some a=>
  refine nR Tryz.func94 36 1 ?_;refine nC 3 (kH s p (iV (some a)) (ot (some a)) hs c) [0] ?_;refine rF 15 ?_;apply wu (yt:=18) (d:=15) 3 rfl rfl rfl (.none rfl) rfl rfl
  case h1=>
   intro b U;have i:=b;(try simp(decide:=true) only[lP,iV,ot,RS.fail] at i);refine uA ?_ (hbw:=by exact b);refine rF 1 ?_;refine uA ?_ (hbw:=by exact b);refine rF 1 ?_;refine uA ?_ (hbw:=by exact b);refine rF 1 ?_;exact U [_,_,_] rfl rfl
  case h2=>
   intro b U;refine tZ ?_ (hbw:=by exact b);refine tZ ?_ (hbw:=by exact b);refine tZ ?_ (hbw:=by exact b);exact U [_,_,_] rfl
  refine rF 2 ?_;refine EM (λh1=>?_) (λh1=>?_)
  ·(try simp(decide:=true) only[lP,iV,ot,RS.fail] at h1)
   refine rF 12 ?_;refine cd (λk=>?_) (λk=>?_)
   .simp (decide:=true) only[lP,iV,ot,RS.fail] at k
   (try simp(decide:=true) only[lP,iV,ot,RS.fail] at k);refine rF 1 ?_;refine fM ?_;refine tL (l:=[]) rfl rfl ([0]) ([rT s ⟨p,some a⟩]) rfl rfl rfl ?_ ?_
   .repeat (first|exact nw|refine jN ?_)
   .refine ⟨rfl,?_⟩;unfold jF;dsimp only;rw[if_neg (by rintro(h|h);exact absurd h (by simpa using h1.1);exact h h1.2)]
  (try simp(decide:=true) only[lP,iV,ot,RS.fail] at h1);refine nC 3 (oC s (iE s p).2.1 ⟨p,some a⟩) [0] ?_;refine rF 12 ?_;refine cd (λk=>?_) (λk=>?_)
  .simp (decide:=true) only[lP,iV,ot,RS.fail] at k
  (try simp(decide:=true) only[lP,iV,ot,RS.fail] at k);refine rF 1 ?_;refine fM ?_;refine tL (l:=[]) rfl rfl ([0]) ([rT s (RS.fail (iE s p).2.1 ⟨p,some a⟩)]) rfl rfl rfl ?_ ?_
  .repeat (first|exact nw|refine jN ?_)
  .refine ⟨rfl,?_⟩;unfold jF;dsimp only;rw[if_pos (by exact h1)]
theorem Tc(s:fB)(r:RS)(e:s.size<=1099511627776)(i:r.p<=s.size):
 jT fC c 53 [rT s r] [.jk 0 0] λout ob'=>out=.ret (.d (.agg [fD (iV (rR s r).f),fD (ot (rR s r).f)]))/\ob'=[rT s (rR s r)]:=by
 refine nR Tryz.func53 25 1 ?_;refine nC 8 (kH s r.p (iV r.f) (ot r.f) e i) [0] ?_;refine rV 15 16 14 2 ?_;refine j7 2 ?_ ?_<;>intro b
 .refine B5 12 [0] [rT s r] ?_
  .unfold rR;simp only;rw[if_neg (by rintro(h|h);exact absurd h (by simpa using b.1);exact h b.2)];exact⟨rfl,rfl⟩
 refine nC 3 (oC s (iE s r.p).2.1 r) [0] ?_;refine B5 12 [0] [rT s (RS.fail (iE s r.p).2.1 r)] ?_
 .unfold rR;simp only;rw[if_pos (by exact b)];exact⟨rfl,rfl⟩
theorem F0{gl:Nat->List D}(s:fB)(hs:s.size<=1099511627776):∀(n:Nat) (r:RS),r.p<=s.size->s.size-r.p<n->
 jT fC gl 91 [rT s r] [.jk 0 0] λout ob'=>out=.ret (.d (je n s r).1.d)/\ob'=[rT s (je n s r).2]:=by
 intro n
 induction n with
 |zero=>intro r _ h;omega
 |succ n W=>
  intro r j hn;have M:=pF (s:=s) j;obtain⟨p,f⟩:=r;simp only at M j hn;cases f with
  |some a=>
   refine nR Tryz.func91 89 1 ?_;refine nC 8 (kH s p (iV (some a)) (ot (some a)) hs j) [0] ?_;refine ny 12 (v5 (iE s p).1) ?_;refine rF 16 ?_;refine EM (λx=>?_) (λx=>?_)
   .simp (decide:=true) only[lP,iV,ot] at x
   (try simp(decide:=true) only[lP,iV,ot] at x);refine jD 10 (uZ.d) [0] [rT s ⟨p,some a⟩] ⟨rfl,rfl⟩
  |none=>
   have y:=ke (s:=s) (r:=⟨p,none⟩) j;have z:=ke (s:=s) (r:=(iz s ⟨p,none⟩).2) y.2;have e:=oB (s:=s) n (r:=(iz s (iz s ⟨p,none⟩).2).2) z.2;have R:=oB (s:=s) n (r:=(je n s (iz s (iz s ⟨p,none⟩).2).2).2) e.2;refine nR Tryz.func91 89 1 ?_;refine nC 8 (kH s p (iV none) (ot none) hs j) [0] ?_;refine ny 12 (v5 (iE s p).1) ?_;refine rF 16 ?_;refine cd (λx=>?_) (λx=>?_)
   .simp (decide:=true) only[lP,iV,ot] at x
   (try simp(decide:=true) only[lP,iV,ot] at x);refine rF 7 ?_;refine cd (λi=>?_) (λi=>?_)
   ·(try simp(decide:=true) only[lP,iV,ot] at i)
    refine nC 2 (rO s ⟨p,none⟩ hs j) [0] ?_;refine jD 10 (uZ.d) [0] [rT s (iz s ⟨p,none⟩).2] ?_
    .rw [vW i];exact⟨rfl,rfl⟩
   (try simp(decide:=true) only[lP,iV,ot] at i);refine rF 6 ?_;refine cd (λq=>?_) (λq=>?_)
   ·(try simp(decide:=true) only[lP,iV,ot] at q)
    refine nC 3 (rO s ⟨p,none⟩ hs j) [0] ?_;refine jD 12 ((iq.mk 4 (iE s p).1 []).d) [0] [rT s (iz s ⟨p,none⟩).2] ?_
    .rw [vX i q];exact⟨rfl,rfl⟩
   (try simp(decide:=true) only[lP,iV,ot] at q);refine rF 7 ?_;refine EM (λb=>?_) (λb=>?_)
   ·(try simp(decide:=true) only[lP,iV,ot] at b)
    refine nC 3 (oC s (iE s p).2.1 ⟨p,none⟩) [0] ?_;refine jD 10 (uZ.d) [0] [rT s ((RS.mk p none).fail (iE s p).2.1)] ?_
    .rw [vZ i q b];exact⟨rfl,rfl⟩
   (try simp(decide:=true) only[lP,iV,ot] at b);refine nC 3 (rO s ⟨p,none⟩ hs j) [0] ?_;refine nC 5 (kH s (iz s ⟨p,none⟩).2.p (iV (iz s ⟨p,none⟩).2.f) (ot (iz s ⟨p,none⟩).2.f) hs y.2) [0] ?_;refine rF 20 ?_;refine xc (ι:=Unit) (λ_=>[(10,int (ra (iE s (iz s ⟨p,none⟩).2.p).1))]) [8,2,0] (λ_=>True) rfl ?_ ?_
   .refine rF 7 ?_;refine cd (λC=>?_) (λC=>?_)
    ·(try simp(decide:=true) only[lP,iV,ot] at C)
     refine qX 4 (()) (by trivial) (hM:=by exact oL (j8 rfl (by exact Fit.of_eq (by simp only[ra];simp_all<;>rfl))))
    (try simp(decide:=true) only[lP,iV,ot] at C);refine rF 6 ?_;refine cd (λF=>?_) (λF=>?_)
    ·(try simp(decide:=true) only[lP,iV,ot] at F)
     refine qX 4 (()) (by trivial) (hM:=by exact oL (j8 rfl (by exact Fit.of_eq (by simp only[ra];simp_all<;>rfl))))
    (try simp(decide:=true) only[lP,iV,ot] at F);refine rF 6 ?_;refine EM (λG=>?_) (λG=>?_)
    ·(try simp(decide:=true) only[lP,iV,ot] at G)
     refine qX 2 (()) (by trivial) (hM:=by exact oL (j8 rfl (by exact Fit.of_eq (by simp only[ra];simp_all<;>rfl))))
    (try simp(decide:=true) only[lP,iV,ot] at G);refine qX 4 (()) (by trivial) (hM:=by exact oL (j8 rfl (by exact Fit.of_eq (by simp only[ra];simp_all<;>rfl))))
   .rintro _ I
    try dsimp only at I
    refine rF 7 ?_;refine cd (λU=>?_) (λU=>?_)
    ·(try simp(decide:=true) only[lP,iV,ot] at U)
     refine nC 4 (oC s (iE s (iz s ⟨p,none⟩).2.p).2.1 (iz s ⟨p,none⟩).2) [0] ?_;refine jD 12 (uZ.d) [0] [rT s ((iz s ⟨p,none⟩).2.fail (iE s (iz s ⟨p,none⟩).2.p).2.1)] ?_
     .rw [vY i q b U];exact⟨rfl,rfl⟩
    (try simp(decide:=true) only[lP,iV,ot] at U);refine nC 5 (rO s (iz s ⟨p,none⟩).2 hs y.2) [0] ?_
    have S:(iE s p).1≠ .empty:=by rw[b];decide
    have Y:(iE s p).1.size=1:=by rw[b];rfl
    have V:=sk S;have hpr:p<(iz s ⟨p,none⟩).2.p:=by rw[V];simp only;omega
    have hpr2:=z.1;obtain⟨k1,s1,a1,H⟩:=iq.case (je n s (iz s (iz s ⟨p,none⟩).2).2).1;obtain⟨k2,s2,a2,J⟩:=iq.case (je n s (je n s (iz s (iz s ⟨p,none⟩).2).2).2).1;refine ma 11 [0,1,2] mixed ?_;refine A2 3 rfl (iX Yt rfl rfl rfl rfl (W (iz s (iz s ⟨p,none⟩).2).2 z.2 O) [0] (jN .nil) rfl rfl rfl rfl (jw .nil) (λs ob' hq=>?_) (λs ob' hq=>?_))
    rotate_left
    .first|exact hq.elim|cases hq.1
    obtain⟨c,rfl⟩:=hq;rw[H] at c;cases c;refine⟨_,_,_,_,_,rfl,rfl,rfl,rfl,rfl,?_⟩;refine A2 4 rfl (CW tr [.tmp 72] pC ?_);refine A2 (T:=λ_=>False) 5 rfl (Ae tr rfl rfl rfl rfl rfl rfl (by simp only[aj,aH,Nat.reduceAdd];rfl) rfl rfl Z (by simp) (by first|decide|(simp only[maxLen,aj,aH,aN,bc];omega)|omega) rfl rfl rfl ?_);refine ga [6] ?_;refine nO 7 ?_;refine iB<|rF 8 ?_;refine EM (λk=>?_) (λk=>?_)
    ·(try simp(decide:=true) only[lP,iV,ot] at k)
     refine nC 5 (qu s ⟨#[41]⟩ (je n s (iz s (iz s ⟨p,none⟩).2).2).2 hs e.2) [0] ?_;refine jD 11 ((iq.mk (ra (iE s (iz s ⟨p,none⟩).2.p).1) .empty [iq.mk k1 s1 a1]).d) [0] [rT s (jF s ⟨#[41]⟩ (je n s (iz s (iz s ⟨p,none⟩).2).2).2)] ?_
     .rw [xT i q b k,H,k];exact⟨rfl,rfl⟩
    (try simp(decide:=true) only[lP,iV,ot] at k);refine ma 0 [0,1,2] mixed ?_;refine A2 3 rfl (iX Yt rfl rfl rfl rfl (W (je n s (iz s (iz s ⟨p,none⟩).2).2).2 e.2 (by have:=e.1;omega)) [0] (jN .nil) rfl rfl rfl rfl (jw .nil) (λs ob' hq=>?_) (λs ob' hq=>?_))
    rotate_left
    .first|exact hq.elim|cases hq.1
    obtain⟨c,rfl⟩:=hq;rw[J] at c;cases c;refine⟨_,_,_,_,_,rfl,rfl,rfl,rfl,rfl,?_⟩;refine A2 4 rfl (CW tr [.tmp 81] pC ?_);refine A2 5 rfl (ya tr ?_);refine ga [6] ?_;refine nO 7 ?_;refine iB<|nC 4 (qu s ⟨#[41]⟩ (je n s (je n s (iz s (iz s ⟨p,none⟩).2).2).2).2 hs R.2) [0] ?_;refine jD 11 ((iq.mk (ra (iE s (iz s ⟨p,none⟩).2.p).1) .empty [iq.mk k1 s1 a1,iq.mk k2 s2 a2]).d) [0] [rT s (jF s ⟨#[41]⟩ (je n s (je n s (iz s (iz s ⟨p,none⟩).2).2).2).2)] ?_
    .rw [tE i q b U k,H,J];exact⟨rfl,rfl⟩
theorem Gb(w):ra w=0\/((ra w=1\/ra w=2\/ra w=3)/\w≠ .empty):=by
 unfold ra;split
 .rename_i h;subst h;exact .inr ⟨.inl rfl,Z⟩
 .split
  .rename_i h;subst h;exact .inr ⟨.inr (.inl rfl),Z⟩
  .split
   .rename_i h;subst h;exact .inr ⟨.inr (.inr rfl),Z⟩
   .exact .inl rfl
theorem F5:∀(n:Nat) {r:RS},r.p<=s.size->∃x:jC,(je n s r).1=x.iT/\Da x.iT/\x.weight+20*r.p<=10+20*(je n s r).2.p:=by
 have hz:Da jC.zero.iT:=by simp[jC.iT,Da,Pu]
 have R:uZ=jC.zero.iT:=rfl;intro n
 induction n with
 |zero=>intro r i;exact⟨.zero,rfl,hz,by simp[je,jC.weight]⟩
 |succ n F=>
  intro r i;obtain⟨p,f⟩:=r;simp only at i;cases f with
  |some a=>exact⟨.zero,rfl,hz,by simp[je,jC.weight]⟩
  |none=>
   have j:=pF (s:=s) i;have G:=ke (s:=s) (r:=⟨p,none⟩) i;have H:=ke (s:=s) (r:=(iz s ⟨p,none⟩).2) G.2;have q:=oB n H.2;have S:=oB n q.2;obtain⟨y,z,C,wa⟩:=F H.2;obtain⟨I,J,M,wb⟩:=F q.2;have h5:=jy (s:=s) (w:=⟨#[41]⟩) q.2;have h6:=jy (s:=s) (w:=⟨#[41]⟩) S.2;simp only at G;by_cases c:(iE s p).1=⟨#[48]⟩
   .rw [vW c];exact⟨.zero,rfl,hz,by simp only[jC.weight];omega⟩
   cases U:nn (iE s p).1 with
   |true=>
    have k:(iE s p).1≠ .empty:=by
     intro e;rw[e] at U;simp[nn] at U
    rw[vX c U,sk k];refine⟨.param (iE s p).1,rfl,by simp[jC.iT,Da,Pu,k],?_⟩;simp only[jC.weight];omega
   |false=>
    by_cases h:(iE s p).1=⟨#[40]⟩
    .have k:(iE s p).1≠ .empty:=by rw[h];decide
     have V:p+1<=(iz s ⟨p,none⟩).2.p:=by
      rw[sk k];have:(iE s p).1.size=1:=by rw[h];rfl
      simp only;omega
     rcases Gb (iE s (iz s ⟨p,none⟩).2.p).1 with hk|⟨hk,b⟩
     .rw [vY c U h hk];exact⟨.zero,rfl,hz,by simp only[jC.weight,RS.rG];omega⟩
     .have W:(iz s ⟨p,none⟩).2.p+1<=(iz s (iz s ⟨p,none⟩).2).2.p:=by
       have Y:iz s ⟨p,none⟩=((iE s p).1,⟨(iE s p).2.1+(iE s p).1.size,none⟩):=sk k;rw[Y] at b ⊢;simp only at b ⊢;rw[sk b];have h8:=pF (s:=s) (p:=(iE s p).2.1+(iE s p).1.size) j.2;have h9:=yB b;simp only;omega
      rcases hk with hk|hk|hk
      .rw [xT c U h hk,z];refine⟨.succ y,rfl,by simp[jC.iT,Da,Pu,C],?_⟩;simp only[jC.weight];omega
      .rw [tE c U h O O,z,J,hk];refine⟨.max y I,rfl,by simp[jC.iT,Da,Pu,C,M],?_⟩;simp only[jC.weight];omega
      .rw [tE c U h O O,z,J,hk];refine⟨.imax y I,rfl,by simp[jC.iT,Da,Pu,C,M],?_⟩;simp only[jC.weight];omega
    .rw [vZ c U h];exact⟨.zero,rfl,hz,by simp only[jC.weight,RS.rG];omega⟩
end
section
open Go Go.Vd Go.RowKit
def UW(K:Int)(S T c:fB)(A B:Int):D:=.agg [.v (.int .i64 K),.v (.string S),.v (.string T),.v (.string c),.v (.int .i64 A),.v (.int .i64 B)]
def i64(n:Int):Prop:= -9223372036854775808<=n/\n<=9223372036854775807
structure Step where
 k:Int
 s:fB
 t:fB
 u:fB
 a:Int
 b:Int
def Step.cells(o:Step):List D:=[.v (.int .i64 o.k),.v (.string o.s),.v (.string o.t),.v (.string o.u),.v (.int .i64 o.a),.v (.int .i64 o.b)]
def steps(l:List Step):List (List D):=l.map Step.cells
theorem Cw(l):(steps l).length=l.length:=by simp[steps]
theorem Ez(h:i<l.length):(steps l)[((i:Nat):Int).toNat]? =some [fD l[i].k,fG l[i].s,fG l[i].t,fG l[i].u,fD l[i].a,fD l[i].b]:=by simp[steps,h,Step.cells]
end
section
open Go Go.Vd Go.RowKit Go.ChangeShapes Go.WideShapes
def zY(w:World):Mem:=λb o=>(w.cell? ⟨b,o,none⟩).bind λx=>if x.oneCell' then some x else none
theorem EH(h:w.cell? ⟨e,o,none⟩=some x)(c:x.oneCell'=true):zY w e o=some x:=by simp[zY,h,c]
theorem Zy(e:∀b,oU (zY w) b 0 (c b)):jX c [] ⟨zY w,[]⟩ w:=by
 refine⟨rfl,by simp,by simp,by simp,λb o x h=>?_,e⟩;simp only[zY,ai] at h;obtain⟨y,U,k⟩:=h;split at k
 .cases k;exact⟨U,by assumption⟩
 .cases k
theorem Hq(h:jA P y V z Q)(C:∀b,oU (zY w) b 0 (y b))(F:iN ⟨zY w,[]⟩ (z.map .d) vs):
 Calls P V ⟨vs⟩ w λe q=> ∃v d m,e=.returned v/\D.Den m d v/\Q d/\Below w.heap.size w q:=by
 refine(h _ w vs (Zy C) F).mono λe q j=>?_
 obtain⟨M,ob',R,U,_,_,j⟩:=j;have G:Below w.heap.size w q:=⟨U.fr.os,U.fr.tape,U.fr.output,U.fr.size,λk H=>U.fr.block k H (λI=>by
  obtain⟨i,o,p,r,_⟩:=I;simp at r)⟩
 cases e with
 |returned v=>
  obtain⟨s,r,S,d,x,J⟩:=j;cases x;exact⟨v,d,_,rfl,r,J,G⟩
 |panicked c=>obtain⟨v,s,_,_,_,d,x,_⟩:=j;cases x
 |outgrown=>exact j.elim
theorem MI{α:Type}{n:Nat}{p:Nat->α->Prop}(h:∀i,i<n->∃x,p i x):∃l:List α,l.length=n/\∀(i:Nat) x,l[i]? =some x->p i x:=by
 induction n with
 |zero=>exact⟨[],rfl,by simp⟩
 |succ n e=>
  obtain⟨l,U,j⟩:=e λi c=>h i O
  obtain⟨x,q⟩:=h n O;refine⟨l++[x],by simp[U],λi y b=>?_⟩;by_cases c:i<l.length
  .rw [bl c] at b;exact j i y b
  .have k:i=l.length:=by
    have:=(aJ.1 b).1;simp at this;omega
   subst k;rw[bA (ae _),bL] at b;simp at b;subst b;rw[U];exact q
theorem Kv{α:Type}{m:Mem}{e j:Nat}(c:α->List D):∀{l:List α} {off:Nat},(∀ (i:Nat) x,l[i]? =some x->(c x).length=e/\oU m j (off+i*e) (c x))->nT m e j off (l.map c)
 |[],_,_=>trivial
 |x::r,off,h=>⟨by have:=h 0 x rfl;simpa using this,Kv c λi y U=>by
  have:=h (i+1) y (by simpa using U)
  rwa [show off+(i+1)*e=off+e+i*e by rw[bQ];omega] at this⟩
theorem yZ{H:Type}{e:TypeId×Value->H}{W:World}{j:Nat->Bool}{q:Bool}{k:Nat}{c:Nat}{i:List Value}{x:DataW H×List MemPlace}(h:DataW.trod e fC W 0 j q c 3 i=some x):∃n:Int,i=[.int .i64 n]/\i64 n:=by
 obtain⟨n,U,_,b⟩:=DataW.trod_int ui3 h;refine⟨n,U,?_⟩;simp only[Lit.wf,bY,decide_eq_true_eq] at b;exact⟨b.1,b.2⟩
theorem Dz{H:Type}{e:TypeId×Value->H}{W:World}{j:Nat->Bool}{q:Bool}{c:Nat}{i:List Value}{x:DataW H×List MemPlace}(h:DataW.trod e fC W 0 j q c 9 i=some x):∃s:fB,i=[.string s]:=by
 obtain⟨s,b,_⟩:=DataW.trod_string Du h;exact⟨s,b⟩
end
section
open Go Go.Vd Go.RowKit Go.Extern
theorem Hr(t w):(ReflectliteValue.unpack (.iface 117 (.pointer (some t)))).run Tryz.prog w
 =.ok (.agg #[.pointer (some ⟨2,117,none⟩),.pointer (some ⟨w.heap.size,0,none⟩),.int .u64 150]) (w.alloc (.cells #[.pointer (some t)] 117)):=gN
theorem P7(a w) : (ReflectliteValue.methodAny (ReflectliteValue.valueError "reflectlite.Value.Type" 0) (λt _ _ _ => ReflectliteType.toType t) #[.agg #[.pointer (some ⟨2, 117, none⟩), .pointer (some a), .int .u64 150]]).run Tryz.prog w
 =.ok (.iface 180 (.agg #[.pointer (some ⟨2,117,none⟩)])) w:=gN
theorem Hs(h w) : (Go.method 372 180 (.agg #[h]) "Kind").run Tryz.prog w = .ok (197, h) w := by kernel_rfl
theorem P9(w):((ReflectliteType.abiMethod λt=>(λa:Nat=>Value.int IntKind.u8 (a:Int)) <$> Rtype.kind t) #[.pointer (some ⟨2,117,none⟩)]).run Tryz.prog w=.ok (.int .u8 22) w:=gN
theorem TD(w):((ReflectliteType.abiMethod λt=>(λa:Nat=>Value.int IntKind.u8 (a:Int)) <$> Rtype.kind t) #[.pointer (some ⟨2,115,none⟩)]).run Tryz.prog w=.ok (.int .u8 22) w:=gN
theorem Wn(z:Sem Value)(c:TypeId->Addr->Nat->Nat->Sem Value)(v):
 ReflectliteValue.method z c #[v]=(do match <-ReflectliteValue.parts v with|none=>z|some (t,a,b)=>c t a b (b%32)):=rfl
theorem D4(a w):(ReflectliteValue.parts (.agg #[.pointer (some ⟨2,117,none⟩),.pointer (some a),.int .u64 150])).run Tryz.prog w=.ok (some (117,a,150)) w:=gN
theorem Ni(a p W)(c:W.cell? a=some (.pointer (some p))):
 (ReflectliteValue.method (ReflectliteValue.valueError "reflectlite.Value.IsNil" 0) ReflectliteValue.isNil #[.agg #[.pointer (some ⟨2, 117, none⟩), .pointer (some a), .int .u64 150]]).run Tryz.prog W = .ok (.bool false) W := by
 rw[Wn];simp only[Sem.run_bind,D4,Result.andThen];simp[ReflectliteValue.isNil,loadVar,isAgg,underlying,YL,c,Result.andThen]
theorem Ht(h w) : (Go.method 372 180 (.agg #[h]) "Elem").run Tryz.prog w = .ok (208, .agg #[h]) w := by kernel_rfl
theorem z7(h w) : (Go.method 372 180 (.agg #[h]) "Implements").run Tryz.prog w = .ok (209, .agg #[h]) w := by kernel_rfl
theorem yp(h w) : (Go.method 372 180 (.agg #[h]) "AssignableTo").run Tryz.prog w = .ok (206, .agg #[h]) w := by kernel_rfl
theorem Qa(w):(ReflectliteType.method ReflectliteType.elem #[.agg #[.pointer (some ⟨2,117,none⟩)]]).run Tryz.prog w=.ok (.iface 180 (.agg #[.pointer (some ⟨2,115,none⟩)])) w:=gN
theorem Er(w) : (ReflectliteType.relation "Implements" ReflectliteType.implements_ #[.agg #[.pointer (some ⟨2, 115, none⟩)], .iface 180 (.agg #[.pointer (some ⟨2, 49, none⟩)])]).run Tryz.prog w = .ok (.bool true) w := by kernel_rfl
theorem Ng(v w):(ReflectliteType.typeOf #[.iface 115 v]).run Tryz.prog w=.ok (.iface 180 (.agg #[.pointer (some ⟨2,115,none⟩)])) w:=gN
theorem Es(w) : (ReflectliteType.relation "AssignableTo" ReflectliteType.assignableTo #[.agg #[.pointer (some ⟨2, 115, none⟩)], .iface 180 (.agg #[.pointer (some ⟨2, 115, none⟩)])]).run Tryz.prog w = .ok (.bool true) w := by kernel_rfl
theorem Kz(e w):(ReflectliteValue.unpack (.iface 115 (.pointer (some e)))).run Tryz.prog w
 =.ok (.agg #[.pointer (some ⟨2,115,none⟩),.pointer (some ⟨w.heap.size,0,none⟩),.int .u64 150]) (w.alloc (.cells #[.pointer (some e)] 115)):=gN
theorem KA(w):(Rtype.elem? 117).run Tryz.prog w=.ok (some 115) w:=gN
theorem Yw(p w):(ReflectliteValue.mk 115 p ReflectliteValue.flagAddr).run Tryz.prog w=.ok (.agg #[.pointer (some ⟨2,115,none⟩),.pointer (some p),.int .u64 406]) w:=gN
theorem Nj(a p W)(c:W.cell? a=some (.pointer (some p))):
 (ReflectliteValue.method (ReflectliteValue.valueError "reflectlite.Value.Elem" 0) ReflectliteValue.elem #[.agg #[.pointer (some ⟨2, 117, none⟩), .pointer (some a), .int .u64 150]]).run Tryz.prog W
  =.ok (.agg #[.pointer (some ⟨2,115,none⟩),.pointer (some p),.int .u64 406]) W:=by
 rw[Wn];simp only[Sem.run_bind,D4,Result.andThen];simp[ReflectliteValue.elem,loadVar,isAgg,underlying,YL,c,Result.andThen,KA,Yw]
theorem ab6(v x):ReflectliteValue.set #[v,x]=(do
 let (some (k,a,U),some (src,b,_)):=(<- ReflectliteValue.parts v,<-ReflectliteValue.parts x)
  | unsupported (.noEntry "extern/(internal/reflectlite.Value).Set.zeroValue")
 if U / ReflectliteValue.flagAddr % 2 == 0 then unsupported (.noEntry "extern/(internal/reflectlite.Value).Set.unaddressable")
 let val <-loadVar src b
 if <-Rtype.directlyAssignable k src then storeVar k a val
 else if <-Rtype.implements k src then
  if (<- Rtype.kind src)==20 then
   match val with
   | .nilIface => unsupported (.noEntry "extern/reflectlite: a nil value of one interface type handed on as a value of another")
   |_=>storeVar k a val
  else storeVar k a (.iface src val)
 else panicString ("reflectlite.Set: value of type " ++ (<- Rtype.spelt src) ++ " is not assignable to type " ++ (<- Rtype.spelt k))
 pure (.tuple #[])):=rfl
theorem Nh(a w):(ReflectliteValue.parts (.agg #[.pointer (some ⟨2,115,none⟩),.pointer (some a),.int .u64 406])).run Tryz.prog w=.ok (some (115,a,406)) w:=gN
theorem P8(a w):(ReflectliteValue.parts (.agg #[.pointer (some ⟨2,115,none⟩),.pointer (some a),.int .u64 150])).run Tryz.prog w=.ok (some (115,a,150)) w:=gN
theorem Nk(w):(Rtype.directlyAssignable 115 115).run Tryz.prog w=.ok true w:=gN
theorem Wm(c r e h W)(i:W.cell? r=some (.pointer (some e)))(j:W.cell? c=some h)(q:W.frozen? c=false):
 (ReflectliteValue.set #[.agg #[.pointer (some ⟨2,115,none⟩),.pointer (some c),.int .u64 406],.agg #[.pointer (some ⟨2,115,none⟩),.pointer (some r),.int .u64 150]]).run Tryz.prog W
  =.ok (.tuple #[]) (W.setCell c (.pointer (some e))):=by
 rw[ab6];simp only[Sem.run_bind,Nh,P8,Result.andThen];simp[ReflectliteValue.flagAddr,loadVar,isAgg,underlying,YM,i,Result.andThen,Nk,storeVar,Value.cells,storeCells,Addr.add];rw[run_store Tryz.prog W c _ _ (by rfl)];simp[j,q]
set_option maxHeartbeats 4000000 in
theorem ab7(e t c w)(q:w.cell? ⟨1,0,none⟩=some (.iface 180 (.agg #[.pointer (some ⟨2,49,none⟩)])))(i:w.cell? t=some c)(j:w.frozen? t=false):
 Calls Tryz.prog 54 #[.iface 115 (.pointer (some e)),.iface 117 (.pointer (some t))] w λev U=>ev=.returned (.bool true)/\U=((((w.alloc (.cells #[.pointer (some t)] 117)).alloc (.cells #[.pointer (some ⟨2,117,none⟩),.pointer (some ⟨w.heap.size,0,none⟩),.int .u64 150] 156)).alloc (.cells #[.pointer (some ⟨2,117,none⟩),.pointer (some ⟨w.heap.size,0,none⟩),.int .u64 150] 156)).alloc (.cells #[.pointer (some e)] 115)).setCell t (.pointer (some e)):=by
 have V:=@run_callFunc_extern Tryz.prog 95 _ (λargs=>ReflectliteValue.unpack (args.getD 0 (.tuple #[]))) Tryz.func95 gN gN gN gN;have W := @run_callFunc_extern Tryz.prog 96 _ (ReflectliteValue.methodAny (ReflectliteValue.valueError "reflectlite.Value.Type" 0) (λt _ _ _ => ReflectliteType.toType t)) Tryz.func96 (by kernel_rfl) (by kernel_rfl) (by kernel_rfl) (by kernel_rfl)
 have Y := @run_callFunc_extern Tryz.prog 97 _ (ReflectliteValue.method (ReflectliteValue.valueError "reflectlite.Value.IsNil" 0) ReflectliteValue.isNil) Tryz.func97 (by kernel_rfl) (by kernel_rfl) (by kernel_rfl) (by kernel_rfl)
 have r:=@run_callFunc_extern Tryz.prog 197 _ (ReflectliteType.abiMethod λt=>do pure (.int .u8 (<- Rtype.kind t))) Tryz.func197 gN gN gN gN;have s:=@run_callFunc_extern Tryz.prog 208 _ (ReflectliteType.method ReflectliteType.elem) Tryz.func208 gN gN gN gN;have x := @run_callFunc_extern Tryz.prog 209 _ (ReflectliteType.relation "Implements" ReflectliteType.implements_) Tryz.func209 (by kernel_rfl) (by kernel_rfl) (by kernel_rfl) (by kernel_rfl)
 have y:=@run_callFunc_extern Tryz.prog 127 _ ReflectliteType.typeOf Tryz.func127 gN gN gN gN;have z := @run_callFunc_extern Tryz.prog 206 _ (ReflectliteType.relation "AssignableTo" ReflectliteType.assignableTo) Tryz.func206 (by kernel_rfl) (by kernel_rfl) (by kernel_rfl) (by kernel_rfl)
 have C := @run_callFunc_extern Tryz.prog 128 _ (ReflectliteValue.method (ReflectliteValue.valueError "reflectlite.Value.Elem" 0) ReflectliteValue.elem) Tryz.func128 (by kernel_rfl) (by kernel_rfl) (by kernel_rfl) (by kernel_rfl)
 have F:=@run_callFunc_extern Tryz.prog 129 _ ReflectliteValue.set Tryz.func129 gN gN gN gN;have tO:=Ng;have mA:=yp;have G:=Es;have H:=Kz;have f6:=Hr;have f7:=P7;have mK:=Hs;have mE:=Ht;have mI:=z7;have I:=P9;have J:=TD;have M:=Qa;have R:=Er;have n8:=Ni ⟨w.heap.size,0,none⟩ t ((w.alloc (.cells #[.pointer (some t)] 117)).alloc (.cells #[.pointer (some ⟨2,117,none⟩),.pointer (some ⟨w.heap.size,0,none⟩),.int .u64 150] 156)) (by simp);have k:1<w.heap.size:=by
  rcases bV 1 w.heap.size with h|h
  .exact h
  .simp [World.cell?,eC h] at q
 have S:((w.alloc (.cells #[.pointer (some t)] 117)).alloc (.cells #[.pointer (some ⟨2,117,none⟩),.pointer (some ⟨w.heap.size,0,none⟩),.int .u64 150] 156)).cell? ⟨1,0,none⟩=some (.iface 180 (.agg #[.pointer (some ⟨2,49,none⟩)])):=by
  rw[World.cell?_alloc_lt _ _ ⟨1,0,none⟩ (by simp;omega),World.cell?_alloc_lt _ _ ⟨1,0,none⟩ k];exact q
 have b:t.block<w.heap.size:=by
  rcases bV t.block w.heap.size with h|h
  .exact h
  .simp [World.cell?,eC h] at i
 have el:=Nj ⟨w.heap.size,0,none⟩ t (((w.alloc (.cells #[.pointer (some t)] 117)).alloc (.cells #[.pointer (some ⟨2,117,none⟩),.pointer (some ⟨w.heap.size,0,none⟩),.int .u64 150] 156)).alloc (.cells #[.pointer (some ⟨2,117,none⟩),.pointer (some ⟨w.heap.size,0,none⟩),.int .u64 150] 156)) (by rw[World.cell?_alloc_lt _ _ ⟨w.heap.size,0,none⟩ (by simp;omega)];simp);have st:=Wm t ⟨w.heap.size+1+1+1,0,none⟩ e c ((((w.alloc (.cells #[.pointer (some t)] 117)).alloc (.cells #[.pointer (some ⟨2,117,none⟩),.pointer (some ⟨w.heap.size,0,none⟩),.int .u64 150] 156)).alloc (.cells #[.pointer (some ⟨2,117,none⟩),.pointer (some ⟨w.heap.size,0,none⟩),.int .u64 150] 156)).alloc (.cells #[.pointer (some e)] 115))
  (by rw[World.cell?_alloc_at _ _ _ _ (by simp)];rfl)
  (by rw[World.cell?_alloc_lt _ _ t (by simp;omega),World.cell?_alloc_lt _ _ t (by simp;omega),World.cell?_alloc_lt _ _ t (by simp;omega),World.cell?_alloc_lt _ _ t b];exact i)
  (by rw[World.frozen?_alloc_old _ _ t (by simp;omega),World.frozen?_alloc_old _ _ t (by simp;omega),World.frozen?_alloc_old _ _ t (by simp;omega),World.frozen?_alloc_old _ _ t (Nat.ne_of_lt b)];exact j)
 go_enter Tryz.func54,Tryz.ntmps54
 go_wp2
 refine wp_loop_rounds 1 ?_;rw[rounds_succ]
 go_wp2
 go_ret
 exact⟨rfl,rfl⟩
end
end Go.Proofs.YtndbnldjidciiaaGreatDoor
namespace Go.Vd
variable{α σ B C F G H I J L M P R S V W Y a args c e first g h i j k2 l m n n0 o p q r r3 s sl t v w x y z}
open Go Go.RowKit
abbrev jR:=fB->Option Int
def Ow(c:jR)(s:fB)(n:Int):jR:=match c s with
 |none=>pW c s n
 |some m=>if n>m then pW c s n else c
def yg(f:jR)(c:Int):List (fB×Int)->jR
 |[]=>f
 |(s,n)::r=>Ow (yg f c r) s (n+c)
def qO(e g:jR)(c:Int):jR:=λp=>match g p with
 |none=>e p
 |some n=>match e p with
  |none=>some (n+c)
  |some m=>if n+c>m then some (n+c) else some m
theorem Xl(p):Ow c s n p=if p=s then(match c s with|none=>some n|some m=>if n>m then some n else some m) else c p:=by
 unfold Ow;cases h:c s with
 |none=>simp only[pW]
 |some m=>
  simp only;by_cases k:n>m
  .simp only[if_pos k,pW]
  .simp only[if_neg k];by_cases b:p=s
   .rw [if_pos b,b,h]
   .rw [if_neg b]
theorem C1{f g:jR}{up:Int}:∀{k:List (fB×Int)},(k.map Prod.fst).Nodup->(∀ p∈k,g p.1=some p.2)->∀p,(p∈k.map Prod.fst->yg f up k p=qO f g up p)/\(p∉k.map Prod.fst->yg f up k p=f p)
 |[],_,_,p=>by simp[yg]
 |(s,n)::r,b,i,p=>by
  simp only[bG,cG] at b;have U:=λq=>C1 (f:=f) (up:=up) b.2 (λq j=>i q (bB _ j)) q
  have x:g s=some n:=i (s,n) bC;simp only[yg,Xl,bG,bh];rw[(U s).2 b.1];by_cases c:p=s
  .subst c;refine⟨λ_=>?_,λh=>absurd (.inl rfl) h⟩;rw[if_pos rfl];unfold qO;rw[x]
  .rw [if_neg c];exact⟨λh=>(U p).1 (h.resolve_left c),λh=>(U p).2 (λe=>h (.inr e))⟩
theorem SJ(e:(c.map Prod.fst).Nodup)(q:∀p∈c,g p.1=some p.2)(i:∀s n,g s=some n->(s,n)∈c):yg r j c=qO r g j:=by
 funext p;by_cases h:p∈c.map Prod.fst
 .exact (C1 e q p).1 h
 .rw [(C1 e q p).2 h];unfold qO;cases b:g p with
  |none=>rfl
  |some n=>exact absurd (bD.2 ⟨_,i p n b,rfl⟩) h
def Jj(n:Int)(c:jR)(σ:fB->Int)(v:Int):Prop:=
 n<=v/\(∀ p m,c p=some m->σ p+m<=v)/\(v=n\/∃p m,c p=some m/\v=σ p+m)
theorem Jj.join{up:Int}(h:Jj n H σ v)(I:Jj m g σ w):Jj (max n (m+up)) (qO H g up) σ (max v (w+up)):=by
 obtain⟨G,r,j⟩:=h;obtain⟨k1,k2,s⟩:=I;refine⟨O,λp x U=>?_,?_⟩
 .unfold qO at U;cases i:g p with
  |none=>rw[i] at U;have:=r p x U;omega
  |some a=>
   rw[i] at U;have z:=k2 p a i;cases c:H p with
   |none=>rw[c] at U;simp only[an] at U;omega
   |some b=>
    rw[c] at U;have C:=r p b c;simp only at U;split at U<;>simp only[an] at U<;>omega
 .have F:max v (w+up)=v/\w+up<=v\/max v (w+up)=w+up/\v<=w+up:=O;rcases F with⟨e,y⟩|⟨e,y⟩
  .rw [e];rcases j with j|⟨p,x,U,j⟩
   .left;omega
   .right;cases i:g p with
    |none=>exact⟨p,x,by unfold qO;rw[i];exact U,j⟩
    |some a=>
     have z:=k2 p a i;exact⟨p,x,by unfold qO;rw[i,U];simp only;rw[if_neg O],j⟩
  .rw [e];rcases s with s|⟨p,x,U,s⟩
   .left;omega
   .right;cases c:H p with
    |none=>exact⟨p,x+up,by unfold qO;rw[U,c],O⟩
    |some b=>
     have C:=r p b c;by_cases q:x+up>b
     .exact ⟨p,x+up,by unfold qO;rw[U,c];simp only;rw[if_pos q],O⟩
     .exact ⟨p,b,by unfold qO;rw[U,c];simp only;rw[if_neg q],O⟩
def jC.has:jC->fB->Prop
 | .zero,_=>False
 | .succ a,p=>a.has p
 | .max a b,p=>a.has p\/b.has p
 | .imax a b,p=>a.has p\/b.has p
 | .param s,p=>p=s
def U1(l:jC):Prop:= ∀p,l.has p->p≠ .empty
structure Fits (z o:jR) (σ:fB->Int):Prop where
 pos:∀p,0<=σ p
 zero:∀p,z p≠none->σ p=0
 one:∀p,o p≠none->1<=σ p
def xq(z:jR):Prop:= ∀p m,z p=some m->m=1
def off(o:jR)(σ:fB->Int):fB->Int:=λp=>σ p-(o p).getD 0
structure Zk (l:jC) (n:Int) (f:jR):Prop where
 n0:0<=n
 n1:n<=l.size
 f0:∀p m,f p=some m->0<=m/\m<=l.size
 sup:∀p m,f p=some m->l.has p
structure Form (l:jC) (z o:jR) (n:Int) (f:jR):Prop where
 val:∀σ,Fits z o σ->Jj n f (off o σ) (l.mP σ)
 z:∀p m,f p=some m->z p=none/\(o p).getD 0<=m/\m<=n
 le:n<=l.q7+1
 le0:(∀ p,o p=none)->n<=l.q7
structure Shape (l:jC) (z o:jR) (n:Int) (f:jR) (q:fB):Prop where
 b:Zk l n f
 ok:q=.empty->Form l z o n f
 no:q≠ .empty->l.has q/\z q=none/\o q=none
theorem VP(e:xq z)(c:xq o)(h:Fits z o σ)(p):0<=off o σ p:=by
 unfold off;cases b:o p with
 |none=>have:=h.pos p;simp;omega
 |some m=>have:=c p m b;have:=h.one p (by rw[b];simp);simp;omega
theorem Zk.empty(l):Zk l 0 λ_=>none:=⟨aP _,O,(λp m h=>by cases h),(λp m h=>by cases h)⟩
theorem K4(i:xq z)(c:xq o)(s)(h:z s=none):Shape (.param s) z o ((o s).getD 0) (pW (λ_=>none) s ((o s).getD 0)) .empty:=by
 have U:(o s).getD 0=0\/(o s).getD 0=1:=by
  cases k:o s with
  |none=>left;rfl
  |some m=>right;exact c s m k
 have b:∀p m,pW (λ_=>none) s ((o s).getD 0) p=some m->p=s/\m=(o s).getD 0:=λp m e=>by
  simp only[pW] at e;split at e
  .rename_i k;cases e;exact⟨k,rfl⟩
  .cases e
 have j:pW (λ_=>none) s ((o s).getD 0) s=some ((o s).getD 0):=by simp[pW]
 refine⟨⟨O,by simp only[jC.size];omega,λp m e=>?_,λp m e=>?_⟩,λ_=>⟨λσ q=>⟨?_,λp m e=>?_,.inr ⟨s,_,j,?_⟩⟩,λp m e=>?_,?_,λr=>?_⟩,λx=>absurd rfl x⟩
 .obtain ⟨rfl,rfl⟩:=b p m e;simp only[jC.size];omega
 .obtain ⟨rfl,rfl⟩:=b p m e;rfl
 .have:=VP i c q s;simp only[off] at this;simp only[jC.mP];omega
 .obtain ⟨rfl,rfl⟩:=b p m e;simp only[off,jC.mP];omega
 .simp only[off,jC.mP];omega
 .obtain ⟨rfl,rfl⟩:=b p m e;exact⟨h,aP _,aP _⟩
 .simp only[jC.q7];omega
 .rw [r s];simp[jC.q7]
theorem Jy(s)(h:z s≠none):Shape (.param s) z o 0 (λ_=>none) .empty:=
 ⟨Zk.empty _,λ_=>⟨λσ b=>⟨by simp only[jC.mP];rw[b.zero s h];omega,(λp m e=>by cases e),.inl (by simp only[jC.mP];exact b.zero s h)⟩,(λp m e=>by cases e),O,λ_=>O⟩,λk=>absurd rfl k⟩
theorem N8:Shape .zero z o 0 (λ_=>none) .empty:=
 ⟨Zk.empty _,λ_=>⟨λσ k=>⟨by simp[jC.mP],(λp m e=>by cases e),.inl (by simp[jC.mP])⟩,(λp m e=>by cases e),O,λ_=>O⟩,λb=>absurd rfl b⟩
theorem qf(h:qO i g c p=some m):i p=some m\/∃k,g p=some k/\m=k+c:=by
 unfold qO at h;cases U:g p with
 |none=>rw[U] at h;exact .inl h
 |some k=>
  rw[U] at h;cases e:i p with
  |none=>rw[e] at h;cases h;exact .inr ⟨k,rfl,rfl⟩
  |some b=>
   rw[e] at h;simp only at h;split at h
   .cases h;exact .inr ⟨k,rfl,rfl⟩
   .exact .inl h
theorem jC.p8{σ:fB->Int}(h:∀p,0<=σ p):∀l:jC,0<=l.mP σ
 | .zero=>by simp[jC.mP]
 | .succ a=>by have:=a.p8 h;simp only[jC.mP];omega
 | .max a b=>by have:=a.p8 h;simp only[jC.mP];omega
 | .imax a b=>by have:=a.p8 h;have:=b.p8 h;simp only[jC.mP];split<;>omega
 | .param s=>h s
theorem AG(σ:fB->Int):Jj 0 (λ_=>none) σ 0:=⟨aP _,(λp m e=>by cases e),.inl rfl⟩
def TN(c:Int)(z o:jR):List jC->Int->jR->Prop
 |[],n,f=>n=0/\f=λ_=>none
 |a::r,n,f=> ∃n0 f0 b k,TN c z o r n0 f0/\Shape a z o b k .empty/\n=max n0 (b+c)/\f=qO f0 k c
theorem TN.bound{h M:Int}{z o:jR}(s:0<=h)(x:0<=M):∀{U:List jC} {n:Int} {f:jR},TN h z o U n f->(∀ a∈U,a.size+h<=M)->(0<=n/\n<=M)/\(∀ p m,f p=some m->0<=m/\m<=M)
 |[],n,f,⟨i,c⟩,_=>⟨O,λp m e=>by rw[c] at e;cases e⟩
 |a::r,n,f,⟨n0,f0,H,I,i,c,J,y⟩,j=>by
  have C:=TN.bound s x i (λb q=>j b (bB _ q));have ha:=j a bC;have q:=c.b.n0;have F:=c.b.n1;refine⟨O,λp m e=>?_⟩;rw[y] at e;rcases qf e with e|⟨k,G,rfl⟩
  .exact C.2 p m e
  .have:=c.b.f0 p k G;omega
theorem TN.sup{i:Int}{z o:jR}:∀{U:List jC} {n:Int} {f:jR},TN i z o U n f->∀p m,f p=some m->∃a∈U,a.has p
 |[],n,f,⟨h,c⟩,p,m,e=>by rw[c] at e;cases e
 |a::r,n,f,⟨n0,f0,y,C,h,c,F,j⟩,p,m,e=>by
  rw[j] at e;rcases qf e with e|⟨k,q,rfl⟩
  .obtain ⟨b,s,x⟩:=h.sup p m e;exact⟨b,bB _ s,x⟩
  .exact ⟨a,bC,c.b.sup p k q⟩
theorem Iz(y:Shape a z o q s .empty)(C:Shape V z o r x .empty)(H:∀σ,Fits z o σ->c.mP σ=max (a.mP σ) (V.mP σ))(M:c.q7=a.q7+V.q7):
 Form c z o (max (max 0 (q+0)) (r+0)) (qO (qO (λ_=>none) s 0) x 0):=by
 have U:=y.ok rfl;have h:=C.ok rfl;have I:=y.b.n0;have J:=C.b.n0;refine⟨λσ i=>?_,λp m e=>?_,?_,λF=>?_⟩
 .have G:=((AG (off o σ)).join (up:=0) (U.val σ i)).join (up:=0) (h.val σ i);have R:=a.p8 i.pos;have S:=V.p8 i.pos;have e:max (max 0 (a.mP σ+0)) (V.mP σ+0)=c.mP σ:=by rw[H σ i];omega
  rw[e] at G;exact G
 .rcases qf e with e|⟨k,j,rfl⟩
  .rcases qf e with e|⟨k,j,rfl⟩
   .cases e
   .have:=U.z p k j;exact⟨this.1,O,O⟩
  .have:=h.z p k j;exact⟨this.1,O,O⟩
 .have:=U.le;have:=h.le;omega
 .have:=U.le0 F;have:=h.le0 F;omega
theorem N9(h:TN 1 z o [a] n J):Shape (.succ a) z o n J .empty:=by
 have c:=h.bound (M:=(jC.succ a).size) O O (λx U=>by simp at U;subst U;simp only[jC.size];omega);refine⟨⟨c.1.1,c.1.2,c.2,λp m e=>by obtain⟨x,U,r⟩:=h.sup p m e;simp at U;subst U;exact r⟩,λ_=>?_,λs=>absurd rfl s⟩;obtain⟨n0,f0,G,H,⟨rfl,rfl⟩,i,rfl,rfl⟩:=h;have b:=i.ok rfl;have y:=i.b.n0;refine⟨λσ j=>?_,λp m e=>?_,?_,λC=>?_⟩
 .have q:=(AG (off o σ)).join (up:=1) (b.val σ j);have I:=a.p8 j.pos;have e:max 0 (a.mP σ+1)=(jC.succ a).mP σ:=by simp only[jC.mP];omega
  rw[e] at q;exact q
 .rcases qf e with e|⟨k,F,rfl⟩
  .cases e
  .have:=b.z p k F;exact⟨this.1,O,O⟩
 .have:=b.le;simp only[jC.q7];omega
 .have:=b.le0 C;simp only[jC.q7];omega
theorem Sc(h:TN 0 z o [G,a] n H):Shape (.max a G) z o n H .empty:=by
 have U:=h.bound (M:=(jC.max a G).size) O O (λx k=>by simp at k;rcases k with rfl|rfl<;>simp only[jC.size]<;>omega);refine⟨⟨U.1.1,U.1.2,U.2,λp m e=>by obtain⟨x,k,c⟩:=h.sup p m e;simp at k;rcases k with rfl|rfl;exact .inr c;exact .inl c⟩,λ_=>?_,λi=>absurd rfl i⟩;obtain⟨n1,f1,r,s,⟨n0,f0,y,C,⟨rfl,rfl⟩,j,rfl,rfl⟩,q,rfl,rfl⟩:=h;exact Iz j q (λσ F=>by simp only[jC.mP]) (by simp only[jC.q7])
theorem DG(h:TN i z o c n C)(r:0<=i)(j:∀a∈c,(a.size:Int)+i<=l.size/\∀p,a.has p->l.has p)(s:q≠ .empty)(y:l.has q/\z q=none/\o q=none):Shape l z o n C q:=by
 have b:=h.bound (M:=l.size) r O (λx k=>(j x k).1);exact⟨⟨b.1.1,b.1.2,b.2,λp m e=>by obtain⟨x,k,U⟩:=h.sup p m e;exact(j x k).2 p U⟩,λe=>absurd e s,λ_=>y⟩
theorem Ec{b:jC}(c:Shape b z o 0 q .empty)(h:∀p,q p=none):Shape (.imax a b) z o 0 (λ_=>none) .empty:=by
 refine⟨Zk.empty _,λ_=>⟨λσ k=>?_,(λp m e=>by cases e),O,λ_=>O⟩,λU=>absurd rfl U⟩;have i:=(c.ok rfl).val σ k;have hw:b.mP σ=0:=by
  rcases i.2.2 with j|⟨p,m,e,_⟩
  .exact j
  .rw [h p] at e;cases e
 have e:(jC.imax a b).mP σ=0:=by simp only[jC.mP];rw[if_pos hw]
 rw[e];exact AG _
theorem G5{b:jC}(j:xq o)(c:Shape b z o 0 s .empty)(h:s q=some m)(r:q≠ .empty):Shape (.imax a b) z o 0 (λ_=>none) q:=by
 refine⟨Zk.empty _,λe=>absurd e r,λ_=>⟨.inr (c.b.sup q m h),?_⟩⟩;have U:=(c.ok rfl).z q m h;refine⟨U.1,?_⟩;cases i:o q with
 |none=>rfl
 |some k=>
  have:=j q k i;rw[i] at U;simp at U;omega
theorem Oa{b:jC}(c:Shape b z o i s .empty)(M:¬i=0)(h:Shape a z o j r q):Shape (.imax a b) z o (max (max 0 (i+0)) (j+0)) (qO (qO (λ_=>none) s 0) r 0) q:=by
 have y:=c.b.n0;have C:=c.b.n1;have F:=h.b.n0;have G:=h.b.n1;refine⟨⟨O,by simp only[jC.size];omega,λp m e=>?_,λp m e=>?_⟩,λe=>?_,λH=>?_⟩
 .rcases qf e with e|⟨k,U,rfl⟩
  .rcases qf e with e|⟨k,U,rfl⟩
   .cases e
   .have:=c.b.f0 p k U;simp only[jC.size];omega
  .have:=h.b.f0 p k U;simp only[jC.size];omega
 .rcases qf e with e|⟨k,U,rfl⟩
  .rcases qf e with e|⟨k,U,rfl⟩
   .cases e
   .exact .inr (c.b.sup p k U)
  .exact .inl (h.b.sup p k U)
 .subst e;refine Iz c h (λσ I=>?_) (by simp only[jC.q7];omega);have x:=((c.ok rfl).val σ I).1;simp only[jC.mP];rw[if_neg O];omega
 .obtain ⟨x,J⟩:=h.no H;exact⟨.inl x,J⟩
theorem Jz{b:jC}(j:Shape b z o h i q)(c:q≠ .empty):Shape (.imax a b) z o 0 (λ_=>none) q:=
 ⟨Zk.empty _,λe=>absurd e c,λ_=>by obtain⟨k,U⟩:=j.no c;exact⟨.inr k,U⟩⟩
def FLe(n:Int)(c:jR)(m:Int)(g:jR):Prop:=(∀ p x,c p=some x->∃y,g p=some y/\x<=y)/\n<=m
def Sem(z o:jR)(a c:jC):Prop:= ∀σ,Fits z o σ->a.mP σ<=c.mP σ
theorem Oh{b:jC}(c:Form a z o n C)(i:Form b z o m g)(h:FLe n C m g):Sem z o a b:=λσ k=>by
 have j:=c.val σ k;have U:=i.val σ k;rcases j.2.2 with q|⟨p,x,e,q⟩
 .have:=U.1;have:=h.2;omega
 .obtain ⟨y,r,s⟩:=h.1 p x e;have:=U.2.1 p y r;omega
def tY(o:jR)(p:fB)(B:Int):fB->Int:=λq=>(if q=p then B else 0)+(o q).getD 0
theorem xU(j:xq z)(c:xq o)(i:∀q,z q≠none->o q=none)(r:0<=B)(hp:B=0\/z p=none):Fits z o (tY o p B):=by
 have k:∀q,0<=(o q).getD 0:=λq=>by
  cases h:o q with
  |none=>simp
  |some m=>have:=c q m h;simp;omega
 refine⟨λq=>?_,λq b=>?_,λq b=>?_⟩
 .have:=k q;unfold tY;split<;>omega
 .unfold tY;rw[i q b];split
  .rename_i e;subst e;rcases hp with hp|hp
   .simp [hp]
   .exact absurd hp b
  .simp
 .unfold tY;cases h:o q with
  |none=>exact absurd h b
  |some m=>have:=c q m h;simp;split<;>omega
theorem CR(o p B q):off o (tY o p B) q=if q=p then B else 0:=by unfold off tY;omega
theorem Ph{a b:jC}{z o:jR}(I:xq z)(r:xq o)(J:∀q,z q≠none->o q=none){n m:Int}{f g:jR}(e:Form a z o n f)(i:Form b z o m g){B:fB->Int}(S:∀p,m<B p+(o p).getD 0/\0<=B p)
 (h:∀p x,(x=0\/(x=B p/\z p=none))->a.mP (tY o p x)<=b.mP (tY o p x)):FLe n f m g:=by
 have V:∀q,0<=(o q).getD 0:=λq=>by
  cases h:o q with
  |none=>simp
  |some m=>have:=r q m h;simp;omega
 refine⟨λp x s=>?_,?_⟩
 .have U:=(e.z p x s).1;have W:=(e.z p x s).2.1;have Y:=V p;have C:=S p;have c:=xU I r J (p:=p) C.2 (.inr U);have F:=e.val _ c;have G:=i.val _ c;have h3:=h p (B p) (.inr ⟨rfl,U⟩);have M:=F.2.1 p x s;rw[CR,if_pos rfl] at M;rcases G.2.2 with k|⟨q,y,j,k⟩
  .omega
  .rw [CR] at k;have H:=(i.z q y j).2.2;by_cases R:q=p
   .subst R;rw[if_pos rfl] at k;exact⟨y,j,O⟩
   .rw [if_neg R] at k;omega
 .have c:=xU I r J (p:=.empty) (B:=0) (aP _) (.inl rfl);have F:=e.val _ c;have G:=i.val _ c;have h3:=h .empty 0 (.inl rfl);have M:=F.1;rcases G.2.2 with k|⟨q,y,j,k⟩
  .omega
  .rw [CR] at k;have H:=(i.z q y j).2.2;split at k<;>omega
def WS(z o:jR)(c:Int)(a e:jC):Prop:= ∃σ,Fits z o σ/\(∀ p,σ p=0\/σ p=1\/σ p=c)/\e.mP σ<a.mP σ
def Nf(a c:jC):Int:=2+a.q7+c.q7
theorem P0{a b:jC}{z o:jR}(j:xq z)(c:xq o)(r:∀q,z q≠none->o q=none){n m:Int}{H g:jR}(y:Form a z o n H)(s:Form b z o m g)(h:¬FLe n H m g):WS z o (Nf a b) a b:=by
 have k:∀q,(o q).getD 0=0\/(o q).getD 0=1:=λq=>by
  cases h:o q with
  |none=>left;rfl
  |some m=>right;exact c q m h
 refine dj λC=>h (Ph j c r y s (B:=λp=>Nf a b-(o p).getD 0) (λp=>?_) λp x U=>?_)
 .have:=s.le;have:=k p;unfold Nf;omega
 .refine dJ.1 λi=>C ⟨tY o p x,?_,λq=>?_,i⟩
  .refine xU j c r ?_ (U.imp (λh=>h) (λh=>h.2));have:=k p;rcases U with rfl|⟨rfl,_⟩
   .exact aP _
   .unfold Nf;omega
  .unfold tY;have F:=k q;have G:=k p;split
   .rename_i e;subst e;rcases U with rfl|⟨rfl,_⟩
    .omega
    .right;right;omega
   .omega
theorem WS.zero{z o:jR}{q:fB}{c:Int}{a b:jC}(h:WS (pW z q 1) o c a b):WS z o c a b:=by
 obtain⟨σ,k,h1,h2⟩:=h;refine⟨σ,⟨k.pos,λp U=>k.zero p ?_,k.one⟩,h1,h2⟩;simp only[pW];split
 .simp
 .exact U
theorem WS.one{z o:jR}{q:fB}{c:Int}{a b:jC}(h:WS z (pW o q 1) c a b):WS z o c a b:=by
 obtain⟨σ,k,U,e⟩:=h;refine⟨σ,⟨k.pos,k.zero,λp i=>k.one p ?_⟩,U,e⟩;simp only[pW];split
 .simp
 .exact i
theorem WS.not(h:WS z o c a i):¬Sem z o a i:=λk=>by
 obtain⟨σ,U,_,e⟩:=h;have:=k σ U;omega
structure YD (z o:jR) (a b:jC) (c:Bool):Prop where
 yes:c=true->Sem z o a b
 no:c=false->WS z o (Nf a b) a b
def UZ:jR:=λ_=>none
noncomputable def Fj (a b:jC):Bool:=@decide (Sem UZ UZ a b) (Classical.propDecidable _)
theorem Fi:Fj a c=true↔Sem UZ UZ a c:=@decide_eq_true_iff _ (Classical.propDecidable _)
theorem YD.eq{b:jC}(h:YD UZ UZ a b c):c=Fj a b:=by
 cases c with
 |true=>exact(Fi.2 (h.yes rfl)).symm
 |false=>
  cases k:Fj a b with
  |false=>rfl
  |true=>exact absurd (Fi.1 k) (h.no rfl).not
def II(z o:jR)(U:List fB):Nat:=(U.filter λp=>(z p).isNone&&(o p).isNone).length
theorem DZ(j:P q=true)(h:∀x,c x=true->P x=true/\x≠q){l:List α}(e:q∈l):(l.filter c).length<(l.filter P).length:=by
 have le:∀l:List α,(l.filter c).length<=(l.filter P).length:=by
  intro l
  induction l with
  |nil=>simp
  |cons x l k=>
   rw[eL,eL];cases b:c x with
   |true=>rw[if_pos (h x b).1];simp;exact k
   |false=>rw[if_neg (by simp)];split<;>(try simp only[aj])<;>omega
 induction l with
 |nil=>cases e
 |cons x l k=>
  rw[eL,eL];by_cases i:x=q
  .subst i;have b:c x=false:=by
    cases b:c x with
    |false=>rfl
    |true=>exact absurd rfl (h x b).2
   have:=le l;rw[b,if_pos j];simp;omega
  .have U:q∈l:=(bh.1 e).resolve_left (bd i);have:=k U;cases b:c x with
   |true=>rw[if_pos (h x b).1];simp;exact this
   |false=>rw[if_neg (by simp)];split<;>(try simp only[aj])<;>omega
theorem SW{j:List fB}(c:q∈j)(h:z q=none)(i:o q=none):II (pW z q 1) o j<II z o j:=by
 refine DZ (by simp[h,i]) (λx b=>?_) c;simp only[pW,bY] at b;by_cases e:x=q
 .rw [if_pos e] at b;simp at b
 .rw [if_neg e] at b;exact⟨by simp[b.1,b.2],e⟩
theorem VH{j:List fB}(c:q∈j)(h:z q=none)(i:o q=none):II z (pW o q 1) j<II z o j:=by
 refine DZ (by simp[h,i]) (λx b=>?_) c;simp only[pW,bY] at b;by_cases e:x=q
 .rw [if_pos e] at b;simp at b
 .rw [if_neg e] at b;exact⟨by simp[b.1,b.2],e⟩
theorem Te{z o:jR}{q:fB}(c:∀q,z q≠none->o q=none)(h:o q=none):∀p,pW z q 1 p≠none->o p=none:=λp b=>by
 by_cases e:p=q
 .rw [e];exact h
 .simp only[pW,if_neg e] at b;exact c p b
theorem V5{z o:jR}{q:fB}(c:∀q,z q≠none->o q=none)(h:z q=none):∀p,z p≠none->pW o q 1 p=none:=λp b=>by
 by_cases e:p=q
 .rw [e] at b;exact absurd h b
 .simp only[pW,if_neg e];exact c p b
theorem Sd(a b):Sem z o a b↔(Sem (pW z q 1) o a b/\Sem z (pW o q 1) a b):=by
 constructor
 .intro h;refine⟨λσ k=>h σ ⟨k.pos,λp U=>k.zero p ?_,k.one⟩,λσ k=>h σ ⟨k.pos,k.zero,λp U=>k.one p ?_⟩⟩
  .simp only[pW];split
   .simp
   .exact U
  .simp only[pW];split
   .simp
   .exact U
 .rintro ⟨c,i⟩ σ k;by_cases j:σ q=0
  .refine c σ ⟨k.pos,λp U=>?_,k.one⟩;by_cases e:p=q
   .rw [e];exact j
   .simp only[pW,if_neg e] at U;exact k.zero p U
  .refine i σ ⟨k.pos,k.zero,λp U=>?_⟩;by_cases e:p=q
   .rw [e];have:=k.pos q;omega
   .simp only[pW,if_neg e] at U;exact k.one p U
theorem Qv(h:z q=none):PR (pW z q 1) q=z:=by
 funext p;simp only[PR,pW];by_cases e:p=q
 .rw [if_pos e,e,h]
 .rw [if_neg e,if_neg e]
theorem LJ(h:xq z):xq (pW z q 1):=λp m e=>by
 simp only[pW] at e;split at e
 .cases e;rfl
 .exact h p m e
theorem zC{α:Type}:∀{a b:List α},a.Nodup->(∀ x∈a,x∈b)->a.length<=b.length
 |[],b,_,_=>by simp
 |x::r,b,k,U=>by
  obtain⟨s,t,rfl⟩:=List.append_of_mem (U x bC);simp only[cG] at k;have:=zC (b:=s++t) k.2 λy c=>by
   have h1:=U y (bB _ c);simp only[bn,bh] at h1 ⊢;rcases h1 with h1|h1|h1
   .exact .inl h1
   .subst h1;exact absurd c k.1
   .exact .inr h1
  simp only[aN,aj] at this ⊢;omega
theorem jC.pZ:∀(l:jC) {k:List fB} {p:fB},p∈k->p∈l.params k
 | .zero,_,_,h=>h
 | .succ a,_,_,h=>a.pZ h
 | .max a b,_,_,h=>b.pZ (a.pZ h)
 | .imax a b,_,_,h=>b.pZ (a.pZ h)
 | .param s,k,p,h=>by
  simp only[jC.params];split
  .exact h
  .exact cQ _ h
theorem jC.nX:∀(l:jC) {k:List fB} {p:fB},l.has p->p∈l.params k
 | .zero,_,_,h=>h.elim
 | .succ a,_,_,h=>a.nX (show a.has _ from h)
 | .max a b,_,_,h=>(show a.has _\/b.has _ from h).elim (λh=>b.pZ (a.nX h)) (λh=>b.nX h)
 | .imax a b,_,_,h=>(show a.has _\/b.has _ from h).elim (λh=>b.pZ (a.nX h)) (λh=>b.nX h)
 | .param s,k,p,h=>by
  have e:p=s:=h;subst e;simp only[jC.params];split
  .rename_i U;exact sn.1 U
  .simp
theorem Lo{f:jR}(h:(f s).isSome=false\/(f s).getD 0<n):pW f s n=Ow f s n:=by
 unfold Ow;cases b:f s with
 |none=>rfl
 |some m=>rw[b] at h;simp at h;simp only;rw[if_pos h]
theorem QO{f:jR}(c:(f s).isSome=true)(e:n<=(f s).getD 0):f=Ow f s n:=by
 unfold Ow;cases b:f s with
 |none=>rw[b] at c;cases c
 |some m=>rw[b] at e;simp at e;simp only;rw[if_neg O]
theorem AF{g:jR}{c:List (fB×Int)}{s:fB}{v:Int}(j:(c.map Prod.fst).Nodup)(h:∀p∈c,g p.1=some p.2)(i:g s=some v)(q:(s,v)∉c):(((s,v)::c).map Prod.fst).Nodup/\∀p∈(s,v)::c,g p.1=some p.2:=by
 refine⟨?_,λp hp=>?_⟩
 .simp only[bG,cG];refine⟨λb=>?_,j⟩;obtain⟨⟨k,r⟩,hp,e⟩:=bD.1 b;have U:k=s:=e;subst U;have:=h _ hp;rw[i] at this;cases this;exact q hp
 .rcases bh.1 hp with rfl|hp
  .exact i
  .exact h p hp
theorem PN{g:jR}{c:List (fB×Int)}{L:List fB}(e:(c.map Prod.fst).Nodup)(h:∀p∈c,g p.1=some p.2)(i:∀p m,g p=some m->p∈L):c.length<=L.length:=by
 have:=zC e (b:=L) λx k=>by
  obtain⟨p,U,rfl⟩:=bD.1 k;exact i _ _ (h p U)
 simpa using this
theorem jM(s)(h:p+i<q)(c:q<=s.size):iM (s.extract p q) i=iM s (p+i):=by
 unfold iM;have e:(s.extract p q).data=s.data.extract p q:=by simp
 rw[e];have b:s.size=s.data.size:=rfl;simp only[dQ,Array.getElem?_extract];rw[if_pos O]
theorem Cx{f:Int->Bool}:∀{p j:Nat},p<=j->j<jZ f s p->f (iM s j)=true:=by
 intro p
 induction h:s.size-p generalizing p with
 |zero=>
  intro j U b;rw[uO O] at b;omega
 |succ n c=>
  intro j U b;by_cases k:p<s.size/\f (iM s p)=true
  .rw [xC k.1 k.2] at b;rcases Nat.eq_or_lt_of_le U with rfl|h3
   .exact k.2
   .exact c O O b
  .rw [uO k] at b;omega
structure rC (w:fB):Prop where
 ne:0<w.size
 le:w.size<=40
 first:qq (iM w 0) true=true
 rest:∀i,i<w.size->qq (iM w i) false=true
theorem E2(z:p<=s.size)(h:nn (iE s p).1=true):rC (iE s p).1:=by
 have C:=pI zV s p z;unfold iE at h ⊢;simp only at h ⊢;generalize S:jZ zV s p=i at h C ⊢;split at h
 .simp [nn] at h
 rename_i r;rw[if_neg r];have F:i<s.size:=O;split at h
 .rename_i k;have G:iM (s.extract i (i+1)) 0=iM s i:=jM s O O;simp only[nn,bY] at h;rw[G] at h;have e:=h.2;simp only[qq,decide_eq_true_eq] at e;omega
 rename_i k;rw[if_neg k];have e:i+1<=s.size:=O;split at h
 .rename_i b;rw[if_pos b];have y:=pI (qq · false) s (i+1) e;generalize H:jZ (λx=>qq x false) s (i+1)=q at h y ⊢;split at h
  .simp [nn] at h
  .rename_i I;rw[if_neg I];have U:(s.extract i q).size=q-i:=by rw[cC];omega
   refine⟨by rw[U];omega,by rw[U];omega,?_,λj J=>?_⟩
   .rw [jM s O y.2];exact b
   .rw [U] at J;rw[jM s O y.2];rcases cX j with rfl|hj0
    .rw [b6];simp[qq] at b ⊢;omega
    .exact Cx (f:=λx=>qq x false) (p:=i+1) O (by rw[H];omega)
 .rename_i b;rw[if_neg b];have c:∀q,i<q->q<=s.size->nn (s.extract i q)=false:=λq V M=>by
   unfold nn;rw[jM s O M,b6];simp only[Bool.not_eq_true] at b;rw[b];simp
  have R:=pI ux s (i+1) e;generalize(if iM s i=35 then i+1 else i)=d at h ⊢;split at h
  .split at h
   .simp [nn] at h
   .rw [c _ O R.2] at h;cases h
  .simp [nn] at h
inductive ie where
 |mk (kind num:Int) (name:fB) (levels:List iq) (args:List ie)
mutual
def ie.cells:ie->List D
 | .mk k n s ls args=>[.v (.int .i64 k),.v (.int .i64 n),.v (.string s),.sl 3 (iR ls),.sl 5 (im args)]
def im:List ie->List (List D)
 |[]=>[]
 |t::r=>t.cells::im r
end
def ie.d(t:ie):D:=.agg t.cells
theorem ie.case(t:ie):∃k n s ls args,t=.mk k n s ls args:=by cases t;exact⟨_,_,_,_,_,rfl⟩
theorem ir:∀l:List ie,(im l).length=l.length
 |[]=>rfl
 |l::r=>by simp[im,ir r]
theorem rm:∀{l:List ie} {i:Nat} {x:ie},l[i]? =some x->(im l)[i]? =some x.cells
 |[],i,x,h=>by simp at h
 |l::r,0,x,h=>by simp at h;subst h;simp[im]
 |l::r,i+1,x,h=>by simpa[im] using rm (l:=r) (i:=i) (by simpa using h)
theorem jr(h:l[i]? =some (.mk j n s e c)):(im l)[((i:Nat):Int).toNat]? =some [fD j,fD n,fG s,.sl 3 (iR e),.sl 5 (im c)]:=by
 rw[cb,rm h];rfl
theorem ll(l m):im (l++m)=im l++im m:=by
 induction l with
 |nil=>rfl
 |cons a r b=>simp[im,b]
theorem iZ{c:List ie}{i:Nat}(h:i<c.length):∃k n s l args,c[i]? =some (.mk k n s l args):=by
 have:c[i]? =some c[i]:=by simp[h]
 rw[this];cases c[i];exact⟨_,_,_,_,_,rfl⟩
mutual
def ie.size:ie->Nat
 | .mk _ _ _ ls args=>1+iG ls+ij args
def ij:List ie->Nat
 |[]=>0
 |l::r=>l.size+ij r
end
theorem iO:∀{ls:List ie} {i:Nat} {l:ie},ls[i]? =some l->l.size<=ij ls
 |[],i,l,h=>by simp at h
 |a::r,0,l,h=>by simp at h;subst h;simp[ij]
 |a::r,i+1,l,h=>by simp at h;have:=iO h;simp[ij];omega
theorem Cn:∀ls:List ie,ls.length<=ij ls
 |[]=>by simp
 |l::r=>by have:=Cn r;cases l;simp[ij,ie.size];omega
mutual
def ie.same:ie->ie->Bool
 | .mk k n s ls a,.mk k2 n2 s2 ls2 a2=>decide (k=k2)&&decide (n=n2)&&decide (s=s2)&&n6 ls ls2&&q8 a a2
def q8:List ie->List ie->Bool
 |[],[]=>true
 |l::r,l2::r2=>l.same l2&&q8 r r2
 |_,_=>false
end
theorem ie.r4(r n s e a h i j c q):ie.same (.mk r n s e a) (.mk h i j c q)=(decide (r=h)&&decide (n=i)&&decide (s=j)&&n6 e c&&q8 a q):=by simp[ie.same]
theorem HP:∀{a b:List ie},q8 a b=true->a.length=b.length
 |[],[],_=>rfl
 |l::r,l2::k,h=>by simp[q8] at h;simp[HP h.2]
 |[],_::_,h=>by simp[q8] at h
 |_::_,[],h=>by simp[q8] at h
theorem HQ:∀{a b:List ie} {x y:ie},a.length=b.length->q8 (a++[x]) (b++[y])=(q8 a b&&x.same y)
 |[],[],x,y,_=>by simp[q8]
 |l::r,l2::k,x,y,h=>by simp[q8,HQ (a:=r) (b:=k) (by simpa using h),Bool.and_assoc]
 |[],_::_,_,_,h=>by simp at h
 |_::_,[],_,_,h=>by simp at h
theorem Oj{a h:List ie}{i:Nat}(c:a[i]? =some x)(e:h[i]? =some y):q8 (a.take (i+1)) (h.take (i+1))=(q8 (a.take i) (h.take i)&&x.same y):=by
 have k:=(aJ.1 c).1;have U:=(aJ.1 e).1;rw[bo,bo,c,e];exact HQ (by simp;omega)
theorem DH:∀{a b:List ie} {i:Nat} {x y:ie},a[i]? =some x->b[i]? =some y->x.same y=false->q8 a b=false
 |[],_,i,_,_,h,_,_=>by simp at h
 |_::_,[],i,_,_,_,h,_=>by simp at h
 |l::r,l2::e,0,x,y,k,U,c=>by simp at k U;subst k U;simp[q8,c]
 |l::r,l2::e,i+1,x,y,k,U,c=>by simp[q8];intro _;exact DH (i:=i) (by simpa using k) (by simpa using U) c
mutual
theorem iq.uP:∀l:iq,l.same l=true
 | .mk k s a=>by rw[iq.r4];simp[Av a]
theorem Av:∀l:List iq,n6 l l=true
 |[]=>rfl
 |t::r=>by simp[n6,t.uP,Av r]
end
mutual
theorem ie.uP:∀t:ie,t.same t=true
 | .mk k n s ls a=>by rw[ie.r4];simp[Av ls,Fk a]
theorem Fk:∀l:List ie,q8 l l=true
 |[]=>rfl
 |t::r=>by simp[q8,t.uP,Fk r]
end
def vn(t:fB):Nat->Int
 |0=>0
 |k+1=>10*vn t k+(iM t k-48)
def Ds(t:fB):Prop:= ∀i:Nat,(i:Int)<t.size->48<=iM t i/\iM t i<=57
theorem FG(h:Ds t):∀k:Nat,k<=t.size->k<=5->0<=vn t k/\vn t k<=99999
 |0,_,_=>by simp[vn]
 |1,U,b=>by have:=h 0 O;simp only[vn];omega
 |2,U,b=>by have:=h 0 O;have:=h 1 O;simp only[vn];omega
 |3,U,b=>by have:=h 0 O;have:=h 1 O;have:=h 2 O;simp only[vn];omega
 |4,U,b=>by have:=h 0 O;have:=h 1 O;have:=h 2 O;have:=h 3 O;simp only[vn];omega
 |5,U,b=>by have:=h 0 O;have:=h 1 O;have:=h 2 O;have:=h 3 O;have:=h 4 O;simp only[vn];omega
 |_+6,_,b=>O
def vh(s:fB)(r:RS):fB:=if (iE s r.p).2.2=false\/r.f≠none then .empty else(iE s r.p).1
def jW(s:fB)(r:RS):fB×RS:=
 let t:=iE s r.p
 if t.2.2=false\/nn t.1=false then(.empty,r.fail t.2.1)
 else match r.f with
  |none=>(t.1,⟨t.2.1+t.1.size,none⟩)
  |some a=>(.empty,⟨r.p,some a⟩)
def kQ:Nat->fB->RS->List iq×RS
 |0,_,r=>([],r)
 |n+1,s,r=>
  if r.f=none/\vh s r≠⟨#[41]⟩ then
   let a:=je (s.size+1) s r
   let b:=kQ n s a.2
   (a.1::b.1,b.2)
  else([],r)
def pw:List fB:=[.empty,⟨#[115,111,114,116]⟩,⟨#[99,111,110,115,116]⟩,⟨#[97,112,112]⟩,⟨#[108,97,109]⟩,⟨#[112,105]⟩,⟨#[108,101,116]⟩]
def pP(w:fB):Nat:=
 if w=⟨#[115,111,114,116]⟩ then 1 else if w=⟨#[99,111,110,115,116]⟩ then 2 else if w=⟨#[97,112,112]⟩ then 3
 else if w=⟨#[108,97,109]⟩ then 4 else if w=⟨#[112,105]⟩ then 5 else if w=⟨#[108,101,116]⟩ then 6 else 0
theorem Ga(w):pP w<=6:=by
 unfold pP;repeat' split
 all_goals omega
theorem F9(c:1<=i)(h:i<pw.length):pw[i]=w↔pP w=i:=by
 constructor
 .rintro rfl;rcases i with _|_|_|_|_|_|_|i
  .omega
  all_goals first
   |rfl
   |(simp[pw] at h;omega)
 .intro e;unfold pP at e
  repeat' split at e
  all_goals (subst e;first|omega|(rename_i b;exact b.symm)|(simp_all [pw]))
def xV(w:fB)(i:Nat):Nat:=if pP w<i then pP w else 0
theorem Vk(w):xV w 7=pP w:=by have:=Ga w;unfold xV;rw[if_pos O]
theorem F8(h1:1<=i)(h:i<pw.length)(e:pw[i]=w):xV w (i+1)=i:=by
 have:=(F9 h1 h).1 e;unfold xV;rw[if_pos O];exact this
theorem Iv(h1:1<=i)(h:i<pw.length)(e:¬pw[i]=w):xV w (i+1)=xV w i:=by
 have:¬pP w=i:=λh2=>e ((F9 h1 h).2 h2)
 unfold xV;by_cases b:pP w<i
 .rw [if_pos b,if_pos O]
 .rw [if_neg b,if_neg O]
def iu:ie:=.mk 0 0 .empty [] []
def nJ(f:RS->ie×RS):Nat->RS->List ie×RS
 |0,r=>([],r)
 |n+1,r=>let b:=nJ f n r;let a:=f b.2;(b.1++[a.1],a.2)
def partsOf(c:Nat):Nat:=if c=1\/c=2 then 0 else if c=6 then 3 else 2
def tj(s:fB)(e:Nat)(c:RS):fB×List iq×RS:=
 if e=1 then(.empty,[(je (s.size+1) s c).1],(je (s.size+1) s c).2)
 else if e=2 then((jW s c).1,(kQ (s.size+2) s (jW s c).2).1,(kQ (s.size+2) s (jW s c).2).2)
 else(.empty,[],c)
def DU(t:fB):Prop:=t≠ .empty/\(iM t 0=35\/t=⟨#[40]⟩)
instance (t:fB):Decidable (DU t):=inferInstanceAs (Decidable (_/\_))
def jt:Nat->fB->RS->ie×RS
 |0,_,r=>(iu,r)
 |n+1,s,r=>
  match r.f with
  |some _=>(iu,r)
  |none=>
   let t:=iE s r.p
   if ¬DU t.1 then(iu,r.fail t.2.1)
   else if t.1≠⟨#[40]⟩ then(.mk 0 (vn (t.1.extract 1 t.1.size) (t.1.size-1)) .empty [] [],(iz s r).2)
   else
    let b:=(iz s r).2
    let w:=iE s b.p
    let k:=pP w.1
    if k=0 then(iu,b.fail w.2.1)
    else
     let h:=tj s k (iz s b).2
     let a:=nJ (jt n s) (partsOf k) h.2.2
     (.mk k 0 h.1 h.2.1 a.1,jF s ⟨#[41]⟩ a.2)
def pK(s:fB):ie×Int×Int:=
 if s.size>20000 then(iu,2,0)
 else
  let a:=jt (s.size+1) s ⟨0,none⟩
  match (rR s a.2).f with
  |none=>(a.1,0,0)
  |some b=>(iu,1,b)
theorem n7(c:r.p<=s.size):r.p<=(jW s r).2.p/\(jW s r).2.p<=s.size:=by
 have b:=pF (s:=s) c;obtain⟨p,f⟩:=r;simp only at c b;unfold jW;dsimp only;split
 .rw [RS.rG];exact⟨ae _,c⟩
 .cases f with
  |none=>dsimp only;exact⟨O,b.2⟩
  |some a=>exact⟨ae _,c⟩
theorem OU:∀(n:Nat) {r:RS},r.p<=s.size->r.p<=(kQ n s r).2.p/\(kQ n s r).2.p<=s.size:=by
 intro n
 induction n with
 |zero=>intro r b;exact⟨ae _,b⟩
 |succ n c=>
  intro r b;simp only[kQ];split
  .have k:=oB (s:=s) (s.size+1) b;have U:=c k.2;exact⟨aQ k.1 U.1,U.2⟩
  .exact ⟨ae _,b⟩
theorem BQ(e)(c:r.p<=s.size):r.p<=(tj s e r).2.2.p/\(tj s e r).2.2.p<=s.size:=by
 unfold tj;split
 .exact oB (s:=s) (s.size+1) c
 .split
  .have h1:=n7 (s:=s) c;have h2:=OU (s.size+2) h1.2;exact⟨aQ h1.1 h2.1,h2.2⟩
  .exact ⟨ae _,c⟩
theorem uR{s:fB}{f:RS->ie×RS}(c:∀r:RS,r.p<=s.size->r.p<=(f r).2.p/\(f r).2.p<=s.size):∀(n:Nat) {r:RS},r.p<=s.size->r.p<=(nJ f n r).2.p/\(nJ f n r).2.p<=s.size:=by
 intro n
 induction n with
 |zero=>intro r b;exact⟨ae _,b⟩
 |succ n k=>
  intro r b;have h1:=k b;have h2:=c _ h1.2;exact⟨aQ h1.1 h2.1,h2.2⟩
theorem Ft(c:RS->ie×RS):∀(n:Nat) (r:RS),(nJ c n r).1.length=n:=by
 intro n
 induction n with
 |zero=>intro r;rfl
 |succ n b=>intro r;simp[nJ,b]
theorem nN:∀(n:Nat) (r:RS),r.p<=s.size->r.p<=(jt n s r).2.p/\(jt n s r).2.p<=s.size:=by
 intro n
 induction n with
 |zero=>intro r b;exact⟨ae _,b⟩
 |succ n e=>
  intro r b;obtain⟨p,f⟩:=r;simp only at b;cases f with
  |some a=>exact⟨ae _,b⟩
  |none=>
   have h1:=ke (s:=s) (r:=⟨p,none⟩) b;have h2:=ke (s:=s) (r:=(iz s ⟨p,none⟩).2) h1.2;simp only at h1;simp only[jt];split
   .rw [RS.rG];exact⟨ae _,b⟩
   .split
    .exact h1
    .split
     .rw [RS.rG];exact h1
     .have k:=BQ (s:=s) (pP (iE s (iz s ⟨p,none⟩).2.p).1) h2.2;have U:=uR e (partsOf (pP (iE s (iz s ⟨p,none⟩).2.p).1)) k.2;have c:=jy (s:=s) (w:=⟨#[41]⟩) U.2;exact⟨aQ h1.1 (aQ h2.1 (aQ k.1 (aQ U.1 c.1))),c.2⟩
theorem R6(e:p<=s.size)(c:(iE s p).1≠ .empty)(h:iM (iE s p).1 0=35):(iE s p).1.size<=6/\2<=(iE s p).1.size/\Ds ((iE s p).1.extract 1 (iE s p).1.size):=by
 have U:=pI zV s p e;revert c h;unfold iE;dsimp only;split
 .intro c;exact absurd rfl c
 .rename_i z;have q:jZ zV s p<s.size:=O;split
  .rename_i r;intro _ h;rw[jM s O O,b6] at h;omega
  .split
   .rename_i r k;have x:=pI (qq · false) s (jZ zV s p+1) O;split
    .intro c;exact absurd rfl c
    .intro _ h;rw[jM s O O,b6] at h;rw[h] at k;exact absurd k Z
   .split
    .have x:=pI ux s (jZ zV s p+1) O;by_cases b:iM s (jZ zV s p)=35
     .simp only[if_pos b];split
      .intro c;exact absurd rfl c
      .rename_i hd;intro _ h;simp only[cC];refine⟨O,O,λi y=>?_⟩;simp only[cC] at y;rw[jM _ O (by simp only[cC];omega),jM s O O];have:=Cx (f:=ux) (s:=s) (p:=jZ zV s p+1) (j:=jZ zV s p+(1+i)) O O
       simpa[ux] using this
     .simp only[if_neg b];split
      .intro c;exact absurd rfl c
      .intro _ h;rw[jM s O O,b6] at h;exact absurd h b
    .intro c;exact absurd rfl c
theorem KU(c:p<=s.size)(e:(iE s p).1≠ .empty)(h:iM (iE s p).1 0=35):(iE s p).1.size<=6/\1<=(iE s p).1.size/\Ds ((iE s p).1.extract 1 (iE s p).1.size):=by
 have:=R6 c e h;exact⟨this.1,O,this.2.2⟩
theorem Cr(h:¬DU (iE s p).1):jt (n+1) s ⟨p,none⟩=(iu,(RS.mk p none).fail (iE s p).2.1):=by simp only[jt];rw[if_pos h]
theorem Cq(h:DU (iE s p).1)(h1:(iE s p).1≠⟨#[40]⟩):jt (n+1) s ⟨p,none⟩=(.mk 0 (vn ((iE s p).1.extract 1 (iE s p).1.size) ((iE s p).1.size-1)) .empty [] [],(iz s ⟨p,none⟩).2):=by
 simp only[jt];rw[if_neg (by simpa using h),if_pos h1]
theorem Ap(h1:(iE s p).1=⟨#[40]⟩)(h2:pP (iE s (iz s ⟨p,none⟩).2.p).1=0):jt (n+1) s ⟨p,none⟩=(iu,(iz s ⟨p,none⟩).2.fail (iE s (iz s ⟨p,none⟩).2.p).2.1):=by
 simp only[jt];rw[if_neg (by rw[h1];decide),if_neg (by simpa using h1),if_pos h2]
theorem Ao(h1:(iE s p).1=⟨#[40]⟩)(h2:pP (iE s (iz s ⟨p,none⟩).2.p).1=h)(c:¬h=0){nm:fB}(e:tj s h (iz s (iz s ⟨p,none⟩).2).2=(nm,L,r3)):
 jt (n+1) s ⟨p,none⟩=(.mk h 0 nm L (nJ (jt n s) (partsOf h) r3).1,jF s ⟨#[41]⟩ (nJ (jt n s) (partsOf h) r3).2):=by
 simp only[jt];rw[if_neg (by rw[h1];decide),if_neg (by simpa using h1),h2,if_neg c,e]
theorem OB(h:¬s.size>20000)(c:¬iV (rR s (jt (s.size+1) s ⟨0,none⟩).2).f=0):
 pK s=(iu,iV (rR s (jt (s.size+1) s ⟨0,none⟩).2).f,ot (rR s (jt (s.size+1) s ⟨0,none⟩).2).f):=by
 unfold pK;rw[if_neg h];simp only;cases b:(rR s (jt (s.size+1) s ⟨0,none⟩).2).f with
 |none=>rw[b] at c;exact absurd rfl c
 |some a=>rfl
theorem Lx(h:¬s.size>20000)(c:iV (rR s (jt (s.size+1) s ⟨0,none⟩).2).f=0):
 pK s=((jt (s.size+1) s ⟨0,none⟩).1,iV (rR s (jt (s.size+1) s ⟨0,none⟩).2).f,ot (rR s (jt (s.size+1) s ⟨0,none⟩).2).f):=by
 unfold pK;rw[if_neg h];simp only;cases b:(rR s (jt (s.size+1) s ⟨0,none⟩).2).f with
 |none=>rfl
 |some a=>rw[b] at c;cases c
end Go.Vd
namespace Go.Proofs.YtndbnldjidciiaaGreatDoor
variable{B F G H L P a args c e h i j k2 l m n p q r s t v w x y z}
open Go Go.Vd Go.RowKit
mutual
def ju(F:ie->Int->ie):ie->Int->ie
 | .mk k n s ls args,d=>if k=0 then F (.mk k n s ls args) d else .mk k n s ls (jm F (decide (4<=k)) args d)
def jm(F:ie->Int->ie)(b:Bool):List ie->Int->List ie
 |[],_=>[]
 |t::r,d=>ju F t (if b&&r.isEmpty then d+1 else d)::jm F b r d
end
theorem pN(F:ie->Int->ie)(c e):∀l:List ie,(jm F c l e).length=l.length
 |[]=>by simp[jm]
 |t::r=>by simp[jm,pN F c e r]
theorem w0(F:ie->Int->ie)(c e):∀{l:List ie} {i:Nat} {t:ie},l[i]? =some t->(jm F c l e)[i]? =some (ju F t (if c=true/\i+1=l.length then e+1 else e))
 |[],i,t,h=>by simp at h
 |a::r,0,t,h=>by
  simp at h;subst h;simp only[jm,List.getElem?_cons_zero];cases r<;>simp
 |a::r,i+1,t,h=>by
  have:=w0 F c e (l:=r) (i:=i) (t:=t) (by simpa using h);simp only[jm,eW,this,aj,dV]
mutual
def Hv(P:Int->Int->Prop):ie->Int->Prop
 | .mk k n s ls args,d=>if k=0 then P n d else Jf P (decide (4<=k)) args d
def Jf(P:Int->Int->Prop)(b:Bool):List ie->Int->Prop
 |[],_=>True
 |t::r,d=>Hv P t (if b&&r.isEmpty then d+1 else d)/\Jf P b r d
end
def yk(B:Int)(t:ie):Prop:=Hv (λn _=>0<=n/\n<=B) t 0
def mr(m c:Int):ie->Int->ie
 | .mk k n s ls args,d=>if n≥c+d then .mk k (n+m) s ls args else .mk k n s ls args
def lJ(t:ie)(m c:Int):ie:=if m=0 then t else ju (mr m c) t 0
def j6(v:ie):ie->Int->ie
 | .mk k n s ls args,d=>if n-d<0 then .mk k n s ls args else if n-d<1 then lJ v d 0 else .mk k (n-1) s ls args
def jJ(t v:ie):ie:=ju (j6 v) t 0
def ac2:List D:=[.v (.int .i64 0),.v (.int .i64 0),.v (.string .empty),.v (.slice none 0 0),.v (.slice none 0 0)]
def CI(L:List ie)(i n:Nat):List (List D):=im (L.take i)++List.replicate (n-i) ac2
theorem Lk(h:i<=L.length)(c:i<=n):(CI L i n).length=n:=by
 simp only[CI,aN,ir,bj,List.length_replicate];omega
theorem Lj(h:L[i]? =some t)(c:i<n):(CI L i n).set i t.cells=CI L (i+1) n:=by
 have k:=(aJ.1 h).1;have b:(im (L.take i)).length=i:=by rw[ir,bj];omega
 unfold CI;rw[List.set_append_right _ _ O,b,bL,bo,h];simp only[dq,ll,bq];rw[show n-i=(n-(i+1))+1 by omega,List.replicate_succ];rfl
theorem Ll(h:L.length=n):CI L n n=im L:=by
 unfold CI;rw[bL,aS O];simp
theorem iO:∀{l:List ie} {i:Nat} {t:ie},l[i]? =some t->t.size<=ij l
 |[],i,t,h=>by simp at h
 |a::r,0,t,h=>by simp at h;subst h;simp[ij]
 |a::r,i+1,t,h=>by
  have:=iO (l:=r) (i:=i) (t:=t) (by simpa using h);simp[ij];omega
theorem iJ:∀l:List ie,l.length<=ij l
 |[]=>by simp
 | .mk k n s ls args::r=>by have:=iJ r;simp[ij,ie.size];omega
theorem Jd{P:Int->Int->Prop}{c:Bool}{e:Int}:∀{l:List ie} {i:Nat} {t:ie},Jf P c l e->l[i]? =some t->Hv P t (if c=true/\i+1=l.length then e+1 else e)
 |[],i,t,_,h=>by simp at h
 |a::r,0,t,k,h=>by
  simp at h;subst h;have:=k.1;cases r<;>simpa using this
 |a::r,i+1,t,k,h=>by
  have:=Jd (l:=r) (i:=i) (t:=t) k.2 (by simpa using h)
  simpa only[aj,dV] using this
mutual
theorem Nl{P:Int->Prop}:∀(t:ie) (d e:Int),Hv (λn _=>P n) t d->Hv (λn _=>P n) t e
 | .mk k n s ls args,d,e,h=>by
  simp only[Hv] at h ⊢;by_cases hk:k=0
  .rw [if_pos hk] at h ⊢;exact h
  .rw [if_neg hk] at h ⊢;exact Je args _ d e h
theorem Je{P:Int->Prop}:∀(l:List ie) (b:Bool) (d e:Int),Jf (λn _=>P n) b l d->Jf (λn _=>P n) b l e
 |[],_,_,_,_=>trivial
 |t::r,b,d,e,h=>⟨Nl t _ _ h.1,Je r b d e h.2⟩
end
theorem LP{B r n:Int}{e:List iq}{c:List ie}{i:Nat}(h:yk B (.mk r n s e c))(j:¬r=0)(q:c[i]? =some t):yk B t:=by
 unfold yk at h ⊢;simp only[Hv,if_neg j] at h;exact Nl _ _ _ (Jd h q)
theorem LO(h:yk B (.mk 0 n s e c)):0<=n/\n<=B:=by
 unfold yk at h
 simpa only[Hv,if_true] using h
mutual
def nP(G:ie->Int->Bool):ie->Int->Bool
 | .mk k n s ls args,d=>G (.mk k n s ls args) d||rZ G (decide (4<=k)) args d
def rZ(G:ie->Int->Bool)(b:Bool):List ie->Int->Bool
 |[],_=>false
 |t::r,d=>nP G t (if b&&r.isEmpty then d+1 else d)||rZ G b r d
end
theorem yz{G:ie->Int->Bool}{c:Bool}{e:Int}:∀{l:List ie} {i:Nat} {t:ie},l[i]? =some t->nP G t (if c=true/\i+1=l.length then e+1 else e)=true->rZ G c l e=true
 |[],i,t,h,_=>by simp at h
 |a::r,0,t,h,k=>by
  simp at h;subst h;simp only[rZ,ew];left;cases r<;>simpa using k
 |a::r,i+1,t,h,k=>by
  simp only[rZ,ew];right;exact yz (l:=r) (i:=i) (t:=t) (by simpa using h) (by simpa only[aj,dV] using k)
theorem xE{G:ie->Int->Bool}{c:Bool}{e:Int}:∀{l:List ie},(∀ (i:Nat) t,l[i]? =some t->nP G t (if c=true/\i+1=l.length then e+1 else e)=false)->rZ G c l e=false
 |[],_=>rfl
 |a::r,h=>by
  simp only[rZ,ef];refine⟨?_,xE λi t k=>?_⟩
  .have:=h 0 a rfl;cases r<;>simpa using this
  .have:=h (i+1) t (by simpa using k)
   simpa only[aj,dV] using this
def ig:ie->ie×List ie
 | .mk k n s ls [f,a]=>if k=3 then((ig f).1,(ig f).2++[a]) else(.mk k n s ls [f,a],[])
 |t=>(t,[])
def iF(f:ie)(c:List ie):ie:=c.foldl (λf a=>.mk 3 0 .empty [] [f,a]) f
def zX:ie->Prop
 | .mk k n s ls [f,a]=>k=3->zX f
 | .mk k n s ls _=> ¬k=3
theorem E8(h:zX (.mk q n s j e))(i:q=3):∃k1 n1 s1 l1 a1 k2 n2 s2 l2 a2,e=[.mk k1 n1 s1 l1 a1,.mk k2 n2 s2 l2 a2]/\zX (.mk k1 n1 s1 l1 a1):=by
 match e,h with
 |[⟨k1,n1,s1,l1,a1⟩,⟨k2,n2,s2,l2,a2⟩],h=>exact⟨k1,n1,s1,l1,a1,k2,n2,s2,l2,a2,rfl,by simp only[zX] at h;exact h i⟩
 |[],h=>exact absurd i (by simpa only[zX] using h)
 |[a],h=>exact absurd i (by simpa only[zX] using h)
 |a::b::c::r,h=>exact absurd i (by simpa only[zX] using h)
theorem qv:ig (.mk 3 n s c [e,a])=((ig e).1,(ig e).2++[a]):=by
 simp only[ig,if_true]
theorem oE(h:¬j=3):ig (.mk j n s i e)=(.mk j n s i e,[]):=by
 match e with
 |[f,a]=>simp only[ig,if_neg h]
 |[]=>rfl
 |[a]=>rfl
 |a::b::c::r=>rfl
theorem ug(F:ie->Int->ie)(c r d):(jm F c r d).isEmpty=r.isEmpty:=by cases r<;>simp[jm]
mutual
theorem zG{F G H:ie->Int->ie}(hv:∀n s ls args (j:Int),0<=j->ju G (F (.mk 0 n s ls args) j) j=H (.mk 0 n s ls args) j):∀(t:ie) (j:Int),0<=j->ju G (ju F t j) j=ju H t j
 | .mk k n s ls args,j,hj=>by
  by_cases hk:k=0
  .subst hk;rw[ju,if_pos rfl,hv n s ls args j hj,ju,if_pos rfl]
  .rw [ju,if_neg hk,ju,if_neg hk,ju,if_neg hk,FQ hv args _ j hj]
theorem FQ{F G H:ie->Int->ie}(hv:∀n s ls args (j:Int),0<=j->ju G (F (.mk 0 n s ls args) j) j=H (.mk 0 n s ls args) j):∀(l:List ie) (b:Bool) (j:Int),0<=j->jm G b (jm F b l j) j=jm H b l j
 |[],b,j,_=>rfl
 |t::r,b,j,hj=>by
  simp only[jm,ug];rw[zG hv t _ (by split<;>omega),FQ hv r b j hj]
end
mutual
theorem CU{F:ie->Int->ie}(hv:∀n s ls args (j:Int),F (.mk 0 n s ls args) j=.mk 0 n s ls args):∀(t:ie) (j:Int),ju F t j=t
 | .mk k n s ls args,j=>by
  by_cases hk:k=0
  .subst hk;rw[ju,if_pos rfl,hv]
  .rw [ju,if_neg hk,FP hv args]
theorem FP{F:ie->Int->ie}(hv:∀n s ls args (j:Int),F (.mk 0 n s ls args) j=.mk 0 n s ls args):∀(l:List ie) (b:Bool) (j:Int),jm F b l j=l
 |[],b,j=>rfl
 |t::r,b,j=>by
  simp only[jm];rw[CU hv t,FP hv r]
end
theorem mZ(t m c):lJ t m c=ju (mr m c) t 0:=by
 unfold lJ;split
 .rename_i h;subst h;exact(CU (λn s ls args j=>by rw[mr];split<;>simp) t 0).symm
 .rfl
theorem jL(F:ie->Int->ie)(n s e c j):ju F (.mk 0 n s e c) j=F (.mk 0 n s e c) j:=by rw[ju,if_pos rfl]
theorem A9{x:jC}(h:uZ=x.iT):∀w,x.has w->rC w:=by
 cases x<;>simp[uZ,jC.iT] at h;intro w hw;exact hw.elim
theorem SG:∀(n:Nat) {r:RS},r.p<=s.size->∀x:jC,(je n s r).1=x.iT->∀w,x.has w->rC w:=by
 intro n
 induction n with
 |zero=>intro r i x h;exact A9 h
 |succ n U=>
  intro r i x h;obtain⟨p,f⟩:=r;simp only at i;cases f with
  |some a=>exact A9 h
  |none=>
   have z:=ke (s:=s) (r:=⟨p,none⟩) i;have j:=ke (s:=s) (r:=(iz s ⟨p,none⟩).2) z.2;have q:=oB n j.2;by_cases b:(iE s p).1=⟨#[48]⟩
   .rw [vW b] at h;exact A9 h
   cases k:nn (iE s p).1 with
   |true=>
    rw[vX b k] at h;cases x<;>simp[jC.iT] at h;intro w hw;have e:w=_:=hw;rw[e,<-h];exact E2 i k
   |false=>
    by_cases c:(iE s p).1=⟨#[40]⟩
    .rcases Gb (iE s (iz s ⟨p,none⟩).2.p).1 with hk|⟨hk,y⟩
     .rw [vY b k c hk] at h;exact A9 h
     .rcases hk with hk|hk|hk
      .rw [xT b k c hk] at h;cases x<;>simp[jC.iT] at h;intro w hw;exact U j.2 _ h w hw
      .rw [tE b k c O O,hk] at h;cases x<;>simp[jC.iT] at h;intro w hw;rcases hw with hw|hw
       .exact U j.2 _ h.1 w hw
       .exact U q.2 _ h.2 w hw
      .rw [tE b k c O O,hk] at h;cases x<;>simp[jC.iT] at h;intro w hw;rcases hw with hw|hw
       .exact U j.2 _ h.1 w hw
       .exact U q.2 _ h.2 w hw
    .rw [vZ b k c] at h;exact A9 h
end Go.Proofs.YtndbnldjidciiaaGreatDoor
namespace Go.Vd
variable{C F G H I a args c e h i j k2 l m n p q r s sl t v w x y z}
open Go Go.RowKit
inductive mJ where
 |mk (kind:Int) (name:fB) (params:List fB) (ty val:ie) (arity:Int) (ctors:List (fB×ie))
def qW(l:List (fB×ie)):List (List D):=l.map λc=>.v (.string c.1)::c.2.cells
def mJ.cells:mJ->List D
 | .mk k s ps t v a cs=>.v (.int .i64 k)::.v (.string s)::.sl 1 (strs ps)::(t.cells++(v.cells++[.v (.int .i64 a),.sl 6 (qW cs)]))
def mJ.d(x:mJ):D:=.agg x.cells
def ui(l:List mJ):List (List D):=l.map mJ.cells
theorem mJ.case(x:mJ):∃k s ps k1 n1 s1 l1 a1 k2 n2 s2 l2 a2 a cs,x=.mk k s ps (.mk k1 n1 s1 l1 a1) (.mk k2 n2 s2 l2 a2) a cs:=by
 obtain⟨k,s,ps,⟨k1,n1,s1,l1,a1⟩,⟨k2,n2,s2,l2,a2⟩,a,cs⟩:=x;exact⟨_,_,_,_,_,_,_,_,_,_,_,_,_,_,_,rfl⟩
theorem mJ.M0(G s c e h i j q r x y z C a F):
 (mJ.mk G s c (.mk e h i j q) (.mk r x y z C) a F).cells=[fD G,fG s,.sl 1 (strs c),fD e,fD h,fG i,.sl 3 (iR j),.sl 5 (im q),fD r,fD x,fG y,.sl 3 (iR z),.sl 5 (im C),fD a,.sl 6 (qW F)]:=rfl
theorem sZ(l):(qW l).length=l.length:=by simp[qW]
theorem GI(l):(ui l).length=l.length:=by simp[ui]
theorem V9(l m):qW (l++m)=qW l++qW m:=by simp[qW]
theorem MU(l m):ui (l++m)=ui l++ui m:=by simp[ui]
theorem x8(h:l[i]? =some (e,.mk q n s j c)):(qW l)[((i:Nat):Int).toNat]? =some [fG e,fD q,fD n,fG s,.sl 3 (iR j),.sl 5 (im c)]:=by
 simp[qW,h,ie.cells]
theorem aav
 (h:l[i]? =some (.mk I s c (.mk e j q r x) (.mk y z C F G) a H)):(ui l)[((i:Nat):Int).toNat]? =some [fD I,fG s,.sl 1 (strs c),fD e,fD j,fG q,.sl 3 (iR r),.sl 5 (im x),fD y,fD z,fG C,.sl 3 (iR F),.sl 5 (im G),fD a,.sl 6 (qW H)]:=by
 simp[ui,h,mJ.M0]
theorem zT{l:List (fB×ie)}{i:Nat}(h:i<l.length):∃nm k n s ls args,l[i]? =some (nm,.mk k n s ls args):=by
 have:l[i]? =some l[i]:=by simp[h]
 rw[this];obtain⟨nm,⟨k,n,s,ls,args⟩⟩:=l[i];exact⟨_,_,_,_,_,_,rfl⟩
def nA:Nat->fB->RS->List fB×RS
 |0,_,r=>([],r)
 |n+1,s,r=>
  if r.f=none/\vh s r≠⟨#[41]⟩ then
   let a:=jW s r
   let b:=nA n s a.2
   (a.1::b.1,b.2)
  else([],r)
def uB:fB:=⟨#[99,116,111,114]⟩
def oI(s:fB)(r:RS):(fB×ie)×RS:=
 let c:=jW s (jF s uB (jF s ⟨#[40]⟩ r))
 let t:=jt (s.size+1) s c.2
 ((c.1,t.1),jF s ⟨#[41]⟩ t.2)
def ns:Nat->fB->RS->List (fB×ie)×RS
 |0,_,r=>([],r)
 |n+1,s,r=>
  if r.f=none/\vh s r=⟨#[40]⟩ then
   let a:=oI s r
   let b:=ns n s a.2
   (a.1::b.1,b.2)
  else([],r)
def DR(w:fB):Nat:=
 if w=⟨#[97,120,105,111,109]⟩ then 1 else if w=⟨#[100,101,102]⟩ then 2 else if w=⟨#[105,110,100,117,99,116,105,118,101]⟩ then 3 else 0
theorem Vl(w):DR w<=3:=by
 unfold DR;repeat' split
 all_goals omega
def ze(t:fB×Nat×Bool):Prop:=t.1≠ .empty/\48<=iM t.1 0/\iM t.1 0<=57/\t.1.size<=2
instance (t:fB×Nat×Bool):Decidable (ze t):=inferInstanceAs (Decidable (_/\_))
def ji(s:fB)(r:RS):Nat×fB×List fB×RS:=
 let b:=jF s ⟨#[40]⟩ r
 let k:=DR (iE s b.p).1
 if k=0 then(0,.empty,[],b.fail (iE s b.p).2.1)
 else
  let nm:=jW s (iz s b).2
  let ps:=nA (s.size+2) s (jF s ⟨#[40]⟩ nm.2)
  (k,nm.1,ps.1,jF s ⟨#[41]⟩ ps.2)
def qm(s:fB)(k:Nat)(r:RS):Int×RS:=if k=3 then(vn (iE s r.p).1 (iE s r.p).1.size,(iz s r).2) else(0,r)
def Aj(s:fB)(c:Nat)(r:RS):ie×RS:=if c=2 then jt (s.size+1) s r else(iu,r)
def wc(s:fB)(c:Nat)(r:RS):List (fB×ie)×RS:=if c=3 then ns (s.size+2) s r else([],r)
def sS(s:fB)(k:Nat)(e:fB)(h:List fB)(a:Int)(r:RS):mJ×RS:=
 let t:=jt (s.size+1) s r
 let v:=Aj s k t.2
 let c:=wc s k v.2
 (.mk k e h t.1 v.1 a c.1,jF s ⟨#[41]⟩ c.2)
def oh(s:fB)(r:RS):mJ×RS:=
 let h:=ji s r
 if h.1=0 then(.mk 0 .empty [] iu iu 0 [],h.2.2.2)
 else if h.1=3/\¬ze (iE s h.2.2.2.p) then(.mk 3 h.2.1 h.2.2.1 iu iu 0 [],h.2.2.2.fail (iE s h.2.2.2.p).2.1)
 else sS s h.1 h.2.1 h.2.2.1 (qm s h.1 h.2.2.2).1 (qm s h.1 h.2.2.2).2
def atEnd(s:fB)(r:RS):Prop:=(iE s r.p).2.2=true/\(iE s r.p).1=.empty
instance (s:fB) (r:RS):Decidable (atEnd s r):=inferInstanceAs (Decidable (_/\_))
def pS:Nat->fB->RS->List mJ×RS
 |0,_,r=>([],r)
 |n+1,s,r=>
  if r.f=none/\¬atEnd s r then
   let a:=oh s r
   let b:=pS n s a.2
   (a.1::b.1,b.2)
  else([],r)
def oY(s:fB):List mJ×Int×Int:=
 match (pS (s.size+2) s ⟨0,none⟩).2.f with
 |none=>((pS (s.size+2) s ⟨0,none⟩).1,0,0)
 |some a=>([],1,a)
def pL(s:fB):List mJ×Int×Int:=if s.size>200000 then([],2,0) else oY s
theorem Iq:∀(n:Nat) {r:RS},r.p<=s.size->r.p<=(nA n s r).2.p/\(nA n s r).2.p<=s.size:=by
 intro n
 induction n with
 |zero=>intro r b;exact⟨ae _,b⟩
 |succ n c=>
  intro r b;simp only[nA];split
  .have k:=n7 (s:=s) b;have U:=c k.2;exact⟨aQ k.1 U.1,U.2⟩
  .exact ⟨ae _,b⟩
theorem B9(h:r.p<=s.size):r.p<=(oI s r).2.p/\(oI s r).2.p<=s.size:=by
 have b:=jy (s:=s) (w:=⟨#[40]⟩) h;have k:=jy (s:=s) (w:=uB) b.2;have U:=n7 (s:=s) k.2;have c:=nN (s:=s) (s.size+1) _ U.2;have e:=jy (s:=s) (w:=⟨#[41]⟩) c.2;unfold oI;exact⟨aQ b.1 (aQ k.1 (aQ U.1 (aQ c.1 e.1))),e.2⟩
theorem IW:∀(n:Nat) {r:RS},r.p<=s.size->r.p<=(ns n s r).2.p/\(ns n s r).2.p<=s.size:=by
 intro n
 induction n with
 |zero=>intro r b;exact⟨ae _,b⟩
 |succ n c=>
  intro r b;simp only[ns];split
  .have k:=B9 (s:=s) b;have U:=c k.2;exact⟨aQ k.1 U.1,U.2⟩
  .exact ⟨ae _,b⟩
theorem v9(i:r.p<=s.size):r.p<=(ji s r).2.2.2.p/\(ji s r).2.2.2.p<=s.size:=by
 have b:=jy (s:=s) (w:=⟨#[40]⟩) i;have k:=ke (s:=s) b.2;have U:=n7 (s:=s) k.2;have c:=jy (s:=s) (w:=⟨#[40]⟩) U.2;have e:=Iq (s:=s) (s.size+2) c.2;have h:=jy (s:=s) (w:=⟨#[41]⟩) e.2;unfold ji;dsimp only;split
 .rw [RS.rG];exact b
 .exact ⟨aQ b.1 (aQ k.1 (aQ U.1 (aQ c.1 (aQ e.1 h.1)))),h.2⟩
theorem xp{k:Nat}(c:r.p<=s.size):r.p<=(qm s k r).2.p/\(qm s k r).2.p<=s.size:=by
 have b:=ke (s:=s) c;unfold qm;split
 .exact b
 .exact ⟨ae _,c⟩
theorem Eu{k:Nat}(c:r.p<=s.size):r.p<=(Aj s k r).2.p/\(Aj s k r).2.p<=s.size:=by
 have b:=nN (s:=s) (s.size+1) r c;unfold Aj;split
 .exact b
 .exact ⟨ae _,c⟩
theorem Wc{k:Nat}(c:r.p<=s.size):r.p<=(wc s k r).2.p/\(wc s k r).2.p<=s.size:=by
 have b:=IW (s:=s) (s.size+2) c;unfold wc;split
 .exact b
 .exact ⟨ae _,c⟩
theorem D1{k:Nat}{nm:fB}{ps:List fB}(h:r.p<=s.size):r.p<=(sS s k nm ps a r).2.p/\(sS s k nm ps a r).2.p<=s.size:=by
 have b:=nN (s:=s) (s.size+1) r h;have U:=Eu (s:=s) (k:=k) b.2;have c:=Wc (s:=s) (k:=k) U.2;have e:=jy (s:=s) (w:=⟨#[41]⟩) c.2;unfold sS;exact⟨aQ b.1 (aQ U.1 (aQ c.1 e.1)),e.2⟩
theorem GJ(e:r.p<=s.size):r.p<=(oh s r).2.p/\(oh s r).2.p<=s.size:=by
 have b:=v9 (s:=s) e;unfold oh;dsimp only;split
 .exact b
 .split
  .rw [RS.rG];exact b
  .have U:=xp (s:=s) (k:=(ji s r).1) b.2;have c:=D1 (s:=s) (k:=(ji s r).1) (nm:=(ji s r).2.1) (ps:=(ji s r).2.2.1) (a:=(qm s (ji s r).1 (ji s r).2.2.2).1) U.2;exact⟨aQ b.1 (aQ U.1 c.1),c.2⟩
theorem sO(r:RS)(x:Nat):(r.fail x).f≠none:=by obtain⟨a,f⟩:=r;cases f<;>simp[RS.fail]
theorem tq(h:(jF s w r).f=none):r.f=none:=by
 obtain⟨p,f⟩:=r;unfold jF at h;dsimp only at h;split at h
 .exact absurd h (sO _ _)
 .cases f with
  |none=>rfl
  |some a=>cases h
theorem U4(h:(iz s r).2.f=none):r.f=none:=by
 obtain⟨p,f⟩:=r;unfold iz at h;dsimp only at h;split at h
 .exact absurd h (sO _ _)
 .cases f with
  |none=>rfl
  |some a=>cases h
theorem J1(h:(jW s r).2.f=none):r.f=none:=by
 obtain⟨p,f⟩:=r;unfold jW at h;dsimp only at h;split at h
 .exact absurd h (sO _ _)
 .cases f with
  |none=>rfl
  |some a=>cases h
theorem An(h:(jt n s r).2.f=none):r.f=none:=by
 obtain⟨p,f⟩:=r;cases f with
 |none=>rfl
 |some a=>cases n<;>cases h
theorem EF{s:fB}:∀{n:Nat} {r:RS},(nA n s r).2.f=none->r.f=none
 |0,r,h=>h
 |n+1,r,h=>by
  simp only[nA] at h;split at h
  .exact J1 (EF h)
  .exact h
theorem aay(h:(oI s r).2.f=none):r.f=none:=tq (tq (J1 (An (tq h))))
theorem Kw{s:fB}:∀{n:Nat} {r:RS},(ns n s r).2.f=none->r.f=none
 |0,r,h=>h
 |n+1,r,h=>by
  simp only[ns] at h;split at h
  .exact aay (Kw h)
  .exact h
theorem Vz(h:(ji s r).2.2.2.f=none):(jF s ⟨#[40]⟩ r).f=none:=by
 unfold ji at h;dsimp only at h;split at h
 .exact absurd h (sO _ _)
 .exact U4 (J1 (tq (EF (tq h))))
theorem RK(h:(qm s c r).2.f=none):r.f=none:=by
 unfold qm at h;split at h
 .exact U4 h
 .exact h
theorem YJ{k:Nat}(h:(Aj s k r).2.f=none):r.f=none:=by
 unfold Aj at h;split at h
 .exact An h
 .exact h
theorem Wb(h:(wc s c r).2.f=none):r.f=none:=by
 unfold wc at h;split at h
 .exact Kw h
 .exact h
theorem Ub(h:(sS s i c e a r).2.f=none):r.f=none:=
 An (YJ (Wb (tq h)))
theorem aau(h:(oh s r).2.f=none):(jF s ⟨#[40]⟩ r).f=none:=by
 unfold oh at h;dsimp only at h;split at h
 .exact Vz h
 .split at h
  .exact absurd h (sO _ _)
  .exact Vz (RK (Ub h))
theorem HE(c:w≠ .empty)(i:r.p<=s.size)(h:(jF s w r).f=none):r.p<(jF s w r).p:=by
 have b:=pF (s:=s) i;obtain⟨p,f⟩:=r;unfold jF at h ⊢;dsimp only at h ⊢;split at h
 .exact absurd h (sO _ _)
 .rename_i k;rw[if_neg k];cases f with
  |none=>
   have:(iE s p).1=w:=dj λe=>k (.inr e)
   have U:0<(iE s p).1.size:=by
    rcases cX (iE s p).1.size with h3|h3
    .exact absurd (this▸fe.1 h3) c
    .exact h3
   simp only at b ⊢;omega
  |some a=>cases h
theorem Sz(c:r.p<=s.size)(h:(jW s r).2.f=none):r.p<(jW s r).2.p:=by
 have b:=pF (s:=s) c;obtain⟨p,f⟩:=r;unfold jW at h ⊢;dsimp only at h ⊢;split at h
 .exact absurd h (sO _ _)
 .rename_i k;rw[if_neg k];cases f with
  |none=>
   have U:0<(iE s p).1.size:=by
    rcases cX (iE s p).1.size with h3|h3
    .exfalso;apply k;right;rw[fe.1 h3];rfl
    .exact h3
   simp only at b ⊢;omega
  |some a=>cases h
theorem Tr(c:r.p<=s.size)(h:(oI s r).2.f=none):r.p<(oI s r).2.p:=by
 have i:=HE (w:=⟨#[40]⟩) Z c (tq (J1 (An (tq h))));have b:=jy (s:=s) (w:=⟨#[40]⟩) c;have k:=jy (s:=s) (w:=uB) b.2;have U:=n7 (s:=s) k.2;have e:=nN (s:=s) (s.size+1) _ U.2;have j:=jy (s:=s) (w:=⟨#[41]⟩) e.2;have:(oI s r).2=jF s ⟨#[41]⟩ (jt (s.size+1) s (jW s (jF s uB (jF s ⟨#[40]⟩ r))).2).2:=rfl;rw[this];omega
theorem Tj(c:r.p<=s.size)(h:(oh s r).2.f=none):r.p<(oh s r).2.p:=by
 have y:=HE (w:=⟨#[40]⟩) Z c (aau h);have b:=jy (s:=s) (w:=⟨#[40]⟩) c;have key:(jF s ⟨#[40]⟩ r).p<=(ji s r).2.2.2.p:=by
  have U:=ke (s:=s) b.2;have e:=n7 (s:=s) U.2;have i:=jy (s:=s) (w:=⟨#[40]⟩) e.2;have j:=Iq (s:=s) (s.size+2) i.2;have q:=jy (s:=s) (w:=⟨#[41]⟩) j.2;unfold ji;dsimp only;split
  .rw [RS.rG];exact ae _
  .exact aQ U.1 (aQ e.1 (aQ i.1 (aQ j.1 q.1)))
 have x:=v9 (s:=s) c;have z:(ji s r).2.2.2.p<=(oh s r).2.p:=by
  unfold oh;dsimp only;split
  .exact ae _
  .split
   .rw [RS.rG];exact ae _
   .have b:=xp (s:=s) (k:=(ji s r).1) x.2;have U:=D1 (s:=s) (k:=(ji s r).1) (nm:=(ji s r).2.1) (ps:=(ji s r).2.2.1) (a:=(qm s (ji s r).1 (ji s r).2.2.2).1) b.2;exact aQ b.1 U.1
 omega
theorem OJ(h:¬(r.f=none/\¬vh s r=⟨#[41]⟩)):nA m s r=([],r):=by
 cases m with
 |zero=>rfl
 |succ m=>simp only[nA];rw[if_neg h]
theorem OK(i:c.p<=s.size/\e.length+m=s.size+2/\(c.f=none->s.size-c.p<m)/\nA (s.size+2) s j=(e++(nA m s c).1,(nA m s c).2))
 (h:c.f=none/\¬vh s c=⟨#[41]⟩) (q:(jW s c).1=x):
 (jW s c).2.p<=s.size/\(e++[x]).length+(m-1)=s.size+2/\((jW s c).2.f=none->s.size-(jW s c).2.p<m-1)/\
  nA (s.size+2) s j=(e++[x]++(nA (m-1) s (jW s c).2).1,(nA (m-1) s (jW s c).2).2):=by
 obtain⟨U,C,r,y⟩:=i;have F:=r h.1;obtain⟨m,rfl⟩:∃k,m=k+1:=⟨m-1,O⟩;have b:=n7 (s:=s) U;refine⟨b.2,by simp;omega,λz=>by have:=Sz U z;omega,?_⟩;rw[y];simp only[nA];rw[if_pos h,<-q];simp
theorem PV(h:¬(r.f=none/\vh s r=⟨#[40]⟩)):ns m s r=([],r):=by
 cases m with
 |zero=>rfl
 |succ m=>simp only[ns];rw[if_neg h]
theorem PW(i:c.p<=s.size/\e.length+m=s.size+2/\(c.f=none->s.size-c.p<m)/\ns (s.size+2) s j=(e++(ns m s c).1,(ns m s c).2))
 (h:c.f=none/\vh s c=⟨#[40]⟩) (q:(oI s c).1=x):
 (oI s c).2.p<=s.size/\(e++[x]).length+(m-1)=s.size+2/\((oI s c).2.f=none->s.size-(oI s c).2.p<m-1)/\
  ns (s.size+2) s j=(e++[x]++(ns (m-1) s (oI s c).2).1,(ns (m-1) s (oI s c).2).2):=by
 obtain⟨U,C,r,y⟩:=i;have F:=r h.1;obtain⟨m,rfl⟩:∃k,m=k+1:=⟨m-1,O⟩;have b:=B9 (s:=s) U;refine⟨b.2,by simp;omega,λz=>by have:=Tr U z;omega,?_⟩;rw[y];simp only[ns];rw[if_pos h,<-q];simp
theorem Dc(h:¬(r.f=none/\¬atEnd s r)):pS m s r=([],r):=by
 cases m with
 |zero=>rfl
 |succ m=>simp only[pS];rw[if_neg h]
theorem S4(i:c.p<=s.size/\e.length+m=s.size+2/\(c.f=none->s.size-c.p<m)/\pS (s.size+2) s j=(e++(pS m s c).1,(pS m s c).2))
 (h:c.f=none/\¬atEnd s c) (q:(oh s c).1=x):
 (oh s c).2.p<=s.size/\(e++[x]).length+(m-1)=s.size+2/\((oh s c).2.f=none->s.size-(oh s c).2.p<m-1)/\
  pS (s.size+2) s j=(e++[x]++(pS (m-1) s (oh s c).2).1,(pS (m-1) s (oh s c).2).2):=by
 obtain⟨U,C,r,y⟩:=i;have F:=r h.1;obtain⟨m,rfl⟩:∃k,m=k+1:=⟨m-1,O⟩;have b:=GJ (s:=s) U;refine⟨b.2,by simp;omega,λz=>by have:=Tj U z;omega,?_⟩;rw[y];simp only[pS];rw[if_pos h,<-q];simp
end Go.Vd
namespace Go.Proofs.YtndbnldjidciiaaGreatDoor
variable{ι C F G H I J L M R S T V W Y a acc c e first g h i j k2 m n ob' p q r r7 r8 s sl t v w x y yt z}
open Go Go.Vd Go.RowKit
section
attribute [local irreducible] iK iL jI ik iW
theorem CO(s r)(hs:s.size<=1099511627776)(c:r.p<=s.size):
 jT fC e 93 [rT s r] [.jk 0 0] λout ob'=>out=.ret (fI (vh s r))/\ob'=[rT s r]:=by
 obtain⟨p,f⟩:=r;simp only at c;cases f with
 |none=>
  refine nR Tryz.func93 23 1 ?_;refine nC 8 (kH s p (iV none) (ot none) hs c) [0] ?_;refine rF 15 ?_;apply wu (yt:=20) (d:=14) 6 rfl rfl rfl (.none rfl) rfl rfl
  case h1=>
   intro b k;have U:=b;(try simp(decide:=true) only[lP,iV,ot] at U);refine uA ?_ (hbw:=by exact b);refine rF 1 ?_;refine uA ?_ (hbw:=by exact b);refine rF 1 ?_;refine uA ?_ (hbw:=by exact b);refine rF 1 ?_;refine uA ?_ (hbw:=by exact b);refine rF 1 ?_;refine uA ?_ (hbw:=by exact b);refine rF 1 ?_;refine uA ?_ (hbw:=by exact b);refine rF 1 ?_;exact k [_,_,_,_,_,_] rfl rfl
  case h2=>
   intro b k;refine tZ ?_ (hbw:=by exact b);refine tZ ?_ (hbw:=by exact b);refine tZ ?_ (hbw:=by exact b);refine tZ ?_ (hbw:=by exact b);refine tZ ?_ (hbw:=by exact b);refine tZ ?_ (hbw:=by exact b);exact k [_,_,_,_,_,_] rfl
  refine rF 2 ?_;refine cd (λh2=>?_) (λh2=>?_)
  ·(try simp(decide:=true) only[lP,iV,ot] at h2)
   refine B5 7 [0] [rT s ⟨p,none⟩] ?_
   .refine ⟨?_,rfl⟩;unfold vh;dsimp only;rw[if_pos (by simp_all)];rfl
  (try simp(decide:=true) only[lP,iV,ot] at h2);refine B5 9 [0] [rT s ⟨p,none⟩] ?_
  .refine ⟨?_,rfl⟩;unfold vh;dsimp only;rw[if_neg (by simp_all)]
 |some a=>
  refine nR Tryz.func93 23 1 ?_;refine nC 8 (kH s p (iV (some a)) (ot (some a)) hs c) [0] ?_;refine rF 15 ?_;apply wu (yt:=20) (d:=14) 6 rfl rfl rfl (.none rfl) rfl rfl
  case h1=>
   intro b k;have U:=b;(try simp(decide:=true) only[lP,iV,ot] at U);refine uA ?_ (hbw:=by exact b);refine rF 1 ?_;refine uA ?_ (hbw:=by exact b);refine rF 1 ?_;refine uA ?_ (hbw:=by exact b);refine rF 1 ?_;refine uA ?_ (hbw:=by exact b);refine rF 1 ?_;refine uA ?_ (hbw:=by exact b);refine rF 1 ?_;refine uA ?_ (hbw:=by exact b);refine rF 1 ?_;exact k [_,_,_,_,_,_] rfl rfl
  case h2=>
   intro b k;refine tZ ?_ (hbw:=by exact b);refine tZ ?_ (hbw:=by exact b);refine tZ ?_ (hbw:=by exact b);refine tZ ?_ (hbw:=by exact b);refine tZ ?_ (hbw:=by exact b);refine tZ ?_ (hbw:=by exact b);exact k [_,_,_,_,_,_] rfl
  refine rF 2 ?_;refine EM (λh2=>?_) (λh2=>?_)
  .simp (decide:=true) only[lP,iV,ot] at h2
  (try simp(decide:=true) only[lP,iV,ot] at h2);refine B5 7 [0] [rT s ⟨p,some a⟩] ?_
  .refine ⟨?_,rfl⟩;unfold vh;dsimp only;rw[if_pos (by simp)];rfl
theorem zF(s r)(hs:s.size<=1099511627776)(e:r.p<=s.size):
 jT fC j 92 [rT s r] [.jk 0 0] λout ob'=>out=.ret (fI (jW s r).1)/\ob'=[rT s (jW s r).2]:=by
 have h:=pF (s:=s) e;obtain⟨p,f⟩:=r;simp only at h e;cases f with
 |none=>
  refine nR Tryz.func92 38 1 ?_;refine nC 8 (kH s p (iV none) (ot none) hs e) [0] ?_;refine ny 12 (v5 (iE s p).1) ?_;refine rF 9 ?_;apply wu (yt:=19) (d:=17) 2 rfl rfl rfl (.none rfl) rfl rfl
  case h1=>
   intro b U;have i:=b;(try simp(decide:=true) only[lP,iV,ot,RS.fail] at i);refine uA ?_ (hbw:=by exact b);refine rF 1 ?_;refine uA ?_ (hbw:=by exact b);refine rF 1 ?_;exact U [_,_] rfl rfl
  case h2=>
   intro b U;refine tZ ?_ (hbw:=by exact b);refine tZ ?_ (hbw:=by exact b);exact U [_,_] rfl
  refine rF 2 ?_;refine cd (λc=>?_) (λc=>?_)
  ·(try simp(decide:=true) only[lP,iV,ot,RS.fail] at c)
   refine nC 3 (oC s (iE s p).2.1 ⟨p,none⟩) [0] ?_;refine rF 13 ?_;refine EM (λk=>?_) (λk=>?_)
   .simp (decide:=true) only[lP,iV,ot,RS.fail] at k
   (try simp(decide:=true) only[lP,iV,ot,RS.fail] at k);refine B5 7 [0] [rT s (RS.fail (iE s p).2.1 ⟨p,none⟩)] ?_
   .unfold jW;simp only;rw[if_pos (by simp_all)];exact⟨rfl,rfl⟩
  (try simp(decide:=true) only[lP,iV,ot,RS.fail] at c);refine rF 13 ?_;refine cd (λk=>?_) (λk=>?_)
  .simp (decide:=true) only[lP,iV,ot,RS.fail] at k
  (try simp(decide:=true) only[lP,iV,ot,RS.fail] at k);refine jS 8 ?_;refine B5 12 [0] [rT s ⟨(iE s p).2.1+(iE s p).1.size,none⟩] ?_
  .unfold jW;simp only;rw[if_neg (by simp_all)];exact⟨rfl,rfl⟩
 |some a=>
  refine nR Tryz.func92 38 1 ?_;refine nC 8 (kH s p (iV (some a)) (ot (some a)) hs e) [0] ?_;refine ny 12 (v5 (iE s p).1) ?_;refine rF 9 ?_;apply wu (yt:=19) (d:=17) 2 rfl rfl rfl (.none rfl) rfl rfl
  case h1=>
   intro b U;have i:=b;(try simp(decide:=true) only[lP,iV,ot,RS.fail] at i);refine uA ?_ (hbw:=by exact b);refine rF 1 ?_;refine uA ?_ (hbw:=by exact b);refine rF 1 ?_;exact U [_,_] rfl rfl
  case h2=>
   intro b U;refine tZ ?_ (hbw:=by exact b);refine tZ ?_ (hbw:=by exact b);exact U [_,_] rfl
  refine rF 2 ?_;refine EM (λc=>?_) (λc=>?_)
  ·(try simp(decide:=true) only[lP,iV,ot,RS.fail] at c)
   refine rF 13 ?_;refine EM (λk=>?_) (λk=>?_)
   .simp (decide:=true) only[lP,iV,ot,RS.fail] at k
   (try simp(decide:=true) only[lP,iV,ot,RS.fail] at k);refine B5 7 [0] [rT s ⟨p,some a⟩] ?_
   .unfold jW;simp only;split<;>exact⟨rfl,rfl⟩
  (try simp(decide:=true) only[lP,iV,ot,RS.fail] at c);refine nC 3 (oC s (iE s p).2.1 ⟨p,some a⟩) [0] ?_;refine rF 13 ?_;refine EM (λk=>?_) (λk=>?_)
  .simp (decide:=true) only[lP,iV,ot,RS.fail] at k
  (try simp(decide:=true) only[lP,iV,ot,RS.fail] at k);refine B5 7 [0] [rT s ⟨p,some a⟩] ?_
  .unfold jW;simp only;split<;>exact⟨rfl,rfl⟩
theorem DN(t)(j:t.size<=5)(c:Ds t):jA fC e 90 [fG t] (· =fD (vn t t.size)):=by
 refine oN Tryz.func90 20 ?_;refine vq 17 (ι:=Nat) (λi=>[(4,int i),(3,int (vn t i))]) [0] (λi=>i<=t.size) (λi=>t.size-i) (0) (ak _) ?_;rintro i b
 try dsimp only at b
 refine j7 9 ?_ ?_<;>intro q
 .refine od 12 ?_;have U:i=t.size:=O;subst U;rfl
 have k:=c i O;have h:=FG c i O O;have hw:IntKind.wrap .i64 (Xb (iM t ((i:Nat):Int).toNat) 48)=iM t i-48:=by rw[cb,NZ k];exact ND O
 refine rF 6 ?_;refine o1 (Gt rfl rfl rfl O ?_);refine rF 2 ?_;refine o1 (P3 Du ?_);refine o1 (XV rfl rfl rfl ?_);refine o1 (Rf ui3 uo5 rfl rfl ?_);refine jS 0 ?_;refine jS 6 ?_;refine rF 2 ?_;rw[hw];refine qX 0 (i+1) ?_;exact⟨O,O⟩
def glQ(g:Nat->List D):Nat->List D:=g
def gl0(g:Nat->List D):Nat->List D
 |0=>[nU pw]
 |n=>g n
abbrev xt(g:Nat->List D):Nat->List D:=glQ (gl0 g)
theorem size_pos{s:fB}(h:s≠ .empty):0<s.size:=by
 rcases cX s.size with h1|h1
 .exact absurd (fe.1 h1) h
 .exact h1
theorem mi:iV none=0:=rfl
theorem nK:iV c=0↔c=none:=by cases c<;>simp[iV]
theorem L7(h:¬(iV r.f=0/\¬vh s r=⟨#[41]⟩)):kQ m s r=([],r):=by
 cases m with
 |zero=>rfl
 |succ m=>simp only[kQ];rw[if_neg (by rw[nK] at h;exact h)]
theorem F4{s:fB}{n:Nat}{r:RS}(y:r.p<=s.size)(G:r.f=none)(j:(je (n+1) s r).2.f=none):r.p<(je (n+1) s r).2.p:=by
 obtain⟨p,f⟩:=r;simp only at G y;subst G;have H:∀(q:RS) (x:Nat),(q.fail x).f≠none:=by rintro⟨a,f⟩ x;cases f<;>simp[RS.fail]
 have R:=pF (s:=s) y;have b:(iE s p).1≠ .empty->p<(iz s ⟨p,none⟩).2.p:=λh=>by rw[sk h];have:=size_pos h;simp only;omega
 have z:=ke (s:=s) (r:=⟨p,none⟩) y;have C:=ke (s:=s) (r:=(iz s ⟨p,none⟩).2) z.2;have c:=oB (s:=s) n (r:=(iz s (iz s ⟨p,none⟩).2).2) C.2;have F:=oB (s:=s) n (r:=(je n s (iz s (iz s ⟨p,none⟩).2).2).2) c.2;have S:=jy (s:=s) (w:=⟨#[41]⟩) c.2;have V:=jy (s:=s) (w:=⟨#[41]⟩) F.2;by_cases k:(iE s p).1=⟨#[48]⟩
 .rw [vW k];exact b (by rw[k];decide)
 cases U:nn (iE s p).1 with
 |true=>
  rw[vX k U];exact b (by intro e;rw[e] at U;simp[nn] at U)
 |false=>
  by_cases i:(iE s p).1=⟨#[40]⟩
  .have I:=b (by rw[i];decide);by_cases J:ra (iE s (iz s ⟨p,none⟩).2.p).1=0
   .rw [vY k U i J] at j;exact absurd j (H _ _)
   .by_cases M:ra (iE s (iz s ⟨p,none⟩).2.p).1=1
    .rw [xT k U i M];simp only at I ⊢;omega
    .rw [tE k U i J M];simp only at I ⊢;omega
  .rw [vZ k U i] at j;exact absurd j (H _ _)
theorem L8(i:c.p<=s.size/\e.length+m=s.size+2/\(c.f=none->s.size-c.p<m)/\kQ (s.size+2) s j=(e++(kQ m s c).1,(kQ m s c).2))
 (h:iV c.f=0/\¬vh s c=⟨#[41]⟩) (q:(je (s.size+1) s c).1=x):
 (je (s.size+1) s c).2.p<=s.size/\(e++[x]).length+(m-1)=s.size+2/\((je (s.size+1) s c).2.f=none->s.size-(je (s.size+1) s c).2.p<m-1)/\
  kQ (s.size+2) s j=(e++[x]++(kQ (m-1) s (je (s.size+1) s c).2).1,(kQ (m-1) s (je (s.size+1) s c).2).2):=by
 rw[nK] at h;obtain⟨h1,h2,U,r⟩:=i;have z:=U h.1;obtain⟨m,rfl⟩:∃k,m=k+1:=⟨m-1,O⟩;have b:=oB (s:=s) (s.size+1) h1;refine⟨b.2,by simp;omega,λy=>by have:=F4 h1 h.1 y;omega,?_⟩;rw[r];simp only[kQ];rw[if_pos h,<-q];simp
theorem Fu(c):partsOf c<=3:=by unfold partsOf;split;omega;split<;>omega
theorem zo(s:fB)(hs:s.size<=1099511627776):∀(n:Nat) (r:RS),r.p<=s.size->s.size-r.p<n->
 jT fC (xt g) 52 [rT s r] [.jk 0 0] λout ob'=>out=.ret (.d (jt n s r).1.d)/\ob'=[rT s (jt n s r).2]:=by
 intro n
 induction n with
 |zero=>intro r _ h;omega
 |succ n ih=>
  intro r Y hn;have hat:=pF (s:=s) Y;obtain⟨p,f⟩:=r;simp only at hat Y hn;cases f with
  |some a=>
   refine nR Tryz.func52 133 1 ?_;refine nC 8 (kH s p (iV (some a)) (ot (some a)) hs Y) [0] ?_;refine rF 20 ?_;refine EM (λh2=>?_) (λh2=>?_)
   .simp (decide:=true) only[lP,iV,ot] at h2
   (try simp(decide:=true) only[lP,iV,ot] at h2);refine jD 8 (iu.d) [0] [rT s ⟨p,some a⟩] ⟨rfl,rfl⟩
  |none=>
   have hn1:=ke (s:=s) (r:=⟨p,none⟩) Y;have J:=ke (s:=s) (r:=(iz s ⟨p,none⟩).2) hn1.2;have hpos:=size_pos (s:=(iE s p).1);have hash:=KU (s:=s) Y;have hwl:(strs pw).length=7:=rfl;have hwl2:pw.length=7:=rfl;refine nR Tryz.func52 133 1 ?_;refine nC 8 (kH s p (iV none) (ot none) hs Y) [0] ?_;refine rF 20 ?_;refine cd (λh2=>?_) (λh2=>?_)
   .simp (decide:=true) only[lP,mi] at h2
   (try simp(decide:=true) only[lP,mi] at h2)
   refine rF 8 ?_;apply wu (yt:=31) (d:=29) 2 rfl rfl rfl (.none rfl) rfl rfl
   case h1=>
    intro G x;have S:=G;(try simp(decide:=true) only[lP,mi] at S);refine uA ?_ (hbw:=by exact G);refine rF 1 ?_;refine uA ?_ (hbw:=by exact G);refine rF 1 ?_;exact x [_,_] rfl rfl
   case h2=>
    intro G x;refine tZ ?_ (hbw:=by exact G);refine tZ ?_ (hbw:=by exact G);exact x [_,_] rfl
   refine rF 1 ?_;apply wu (yt:=40) (d:=33) 7 rfl rfl rfl (.none rfl) rfl rfl
   case h1=>
    intro U x;have S:=U;(try simp(decide:=true) only[lP,mi] at S);refine uA ?_ (hbw:=by exact U);refine rF 1 ?_;refine uA ?_ (hbw:=by exact U);refine o1 (P3 Du ?_ (h01:=by have h1:=hpos S.2;omega));refine uA ?_ (hbw:=by exact U);refine rF 1 ?_;refine uA ?_ (hbw:=by exact U);refine rF 1 ?_;apply QU (yt:=39) (d:=37) 2 rfl rfl rfl (.yes rfl rfl rfl U) rfl rfl
    case h1=>
     intro j x;have S:=j;(try simp(decide:=true) only[lP,mi] at S);refine uA ?_ (hbw:=by exact j);refine rF 1 ?_;refine uA ?_ (hbw:=by exact j);refine rF 1 ?_;exact x [_,_] rfl rfl
    case h2=>
     intro j x;refine tZ ?_ (hbw:=by exact j);refine tZ ?_ (hbw:=by exact j);exact x [_,_] rfl
    exact x [_,_,_,_,_] rfl rfl
   case h2=>
    intro U x;refine tZ ?_ (hbw:=by exact U);refine tZ ?_ (hbw:=by exact U);refine tZ ?_ (hbw:=by exact U);refine tZ ?_ (hbw:=by exact U);refine rF 2 ?_;refine tZ ?_ (hbw:=by exact U);exact x [_,_,_,_,_,_,_] rfl
   refine rF 2 ?_;refine cd (λV=>?_) (λV=>?_)
   ·(try simp(decide:=true) only[lP,mi] at V)
    refine nC 4 (oC s (iE s p).2.1 ⟨p,none⟩) [0] ?_;refine jD 10 (iu.d) [0] [rT s ((RS.mk p none).fail (iE s p).2.1)] ?_
    .rw [Cr (by rintro⟨ha,hb⟩;rcases V with(h|h)|h;exact ha (Al h);exact ha h;rcases hb with hb|hb;exact h.1 hb;exact h.2 hb)];exact⟨rfl,rfl⟩
   (try simp(decide:=true) only[lP,mi] at V);refine nC 5 (rO s ⟨p,none⟩ hs Y) [0] ?_;refine rF 9 ?_;refine cd (λM=>?_) (λM=>?_)
   ·(try simp(decide:=true) only[lP,mi] at M)
    have hh4:DU (iE s p).1:=⟨V.1.2,V.2⟩;have hh35:iM (iE s p).1 0=35:=by rcases V.2 with h|h;exact h;exact absurd h M
    have hhash:=hash V.1.2 hh35;refine rF 3 ?_;refine o1 (VJ Du rfl rfl rfl O ?_);refine ny 0 (DN ((iE s p).1.extract 1 (iE s p).1.size) (by rw[cC];omega) hhash.2.2) ?_;refine jD 6 ((ie.mk 0 (vn ((iE s p).1.extract 1 (iE s p).1.size) ((iE s p).1.extract 1 (iE s p).1.size).size) .empty [] []).d) [0] [rT s (iz s ⟨p,none⟩).2] ?_
    .rw [Cq hh4 M,show((iE s p).1.extract 1 (iE s p).1.size).size=(iE s p).1.size-1 by rw[cC];omega];exact⟨rfl,rfl⟩
   (try simp(decide:=true) only[lP,mi] at M);refine nC 5 (kH s (iz s ⟨p,none⟩).2.p (iV (iz s ⟨p,none⟩).2.f) (ot (iz s ⟨p,none⟩).2.f) hs hn1.2) [0] ?_;refine vq 21 (ι:=Nat) (λi=>[(10,int i),(9,int (xV (iE s (iz s ⟨p,none⟩).2.p).1 i))]) [7,6,2,0] (λi=>1<=i/\i<=7) (λi=>7-i) (1) ⟨ae _,O⟩ ?_ (hM:=by exact oL (iU (j8 rfl (by exact Fit.of_eq (by unfold xV;rw[show(if pP (iE s (iz s ⟨p,none⟩).2.p).1<1 then pP (iE s (iz s ⟨p,none⟩).2.p).1 else 0)=0 by split<;>omega];rfl)))))
   rintro i b
   try dsimp only at b
   refine rF 9 ?_;refine cd (λh13=>?_) (λh13=>?_)
   ·(try simp(decide:=true) only[lP,mi] at h13)
    refine ni 8 yv Cs ?_ (hat:=by exact(u7 (show i<pw.length by omega)));refine rF 5 ?_;refine EM (λy=>?_) (λy=>?_)
    ·(try simp(decide:=true) only[lP,mi] at y)
     refine jS 5 ?_;refine qX 2 (i+1) ⟨⟨O,O⟩,O⟩ (hM:=by exact oL (iU (j8 rfl (by exact Fit.of_eq (by(first|rw[F8 b.1 O y]|rw[Iv b.1 O y]);rfl)))))
    (try simp(decide:=true) only[lP,mi] at y);refine jS 8 ?_;refine qX 2 (i+1) ⟨⟨O,O⟩,O⟩ (hM:=by exact oL (iU (j8 rfl (by exact Fit.of_eq (by(first|rw[F8 b.1 O y]|rw[Iv b.1 O y]);rfl)))))
   (try simp(decide:=true) only[lP,mi] at h13);obtain rfl:i=7:=O
   refine rF 7 ?_;rw[Vk];have hkl:=Ga (iE s (iz s ⟨p,none⟩).2.p).1;generalize hk:pP (iE s (iz s ⟨p,none⟩).2.p).1=k at hkl ⊢;refine rF 5 ?_;refine cd (λh17=>?_) (λh17=>?_)
   ·(try simp(decide:=true) only[lP,mi] at h17)
    refine nC 4 (oC s (iE s (iz s ⟨p,none⟩).2.p).2.1 (iz s ⟨p,none⟩).2) [0] ?_;refine jD 10 (iu.d) [0] [rT s ((iz s ⟨p,none⟩).2.fail (iE s (iz s ⟨p,none⟩).2.p).2.1)] ?_
    .rw [Ap M O];exact⟨rfl,rfl⟩
   (try simp(decide:=true) only[lP,mi] at h17);refine nC 5 (rO s (iz s ⟨p,none⟩).2 hs hn1.2) [0] ?_;refine rF 11 ?_;refine iP 39 5 rfl<|rF 10 ?_;refine xo (ι:=fB×List iq×RS) (λ⟨nm,L,z⟩=>[(12,int (partsOf k))]) (λ⟨nm,L,z⟩=>[rT s z,.cells [fE 0,fE 0,fI .empty,fK,fK] 39,.cells [fE k,fE 0,fI nm,.own 3 3 (iR L),fK] 39,.row 121 3,.jd 39 5]) [11,2,0] (λ⟨nm,L,z⟩=>tj s k (iz s (iz s ⟨p,none⟩).2).2=(nm,L,z)) rfl ?_ ?_
   .refine rF 7 ?_;refine cd (λh24=>?_) (λh24=>?_)
    ·(try simp(decide:=true) only[lP,mi] at h24)
     obtain⟨k1,s1,a1,W⟩:=iq.case (je (s.size+1) s (iz s (iz s ⟨p,none⟩).2).2).1;refine ma 1 [0,1,2] mixed ?_;refine A2 3 rfl (iX Yt rfl rfl rfl rfl (F0 s hs (s.size+1) (iz s (iz s ⟨p,none⟩).2).2 J.2 O) [0] (jN .nil) rfl rfl rfl rfl (jw .nil) (λs ob' hq=>?_) (λs ob' hq=>?_))
     rotate_left
     .first|exact hq.elim|cases hq.1
     obtain⟨q,rfl⟩:=hq;rw[W] at q;cases q;refine⟨_,_,_,_,_,rfl,rfl,rfl,rfl,rfl,?_⟩;refine A2 4 rfl (CW tr [.tmp 89] pC ?_);refine A2 (T:=λ_=>False) 5 rfl (Ae tr rfl rfl rfl rfl rfl rfl (by simp only[aj,aH,Nat.reduceAdd];rfl) rfl rfl Z (by simp) (by first|decide|(simp only[maxLen,aj,aH,aN,bc];omega)|omega) rfl rfl rfl ?_);refine ga [6] ?_;refine nO 7 ?_;refine iB<|rF 5 ?_;refine bk ((.empty,[iq.mk k1 s1 a1],(je (s.size+1) s (iz s (iz s ⟨p,none⟩).2).2).2)) rfl ?_ ([0,1,2,5,3]) ?_
     .unfold tj;rw[if_pos O,W]
     .refine mo ?_ (yu rfl (by exact Fit.of_eq (by unfold partsOf;first|(rw[if_pos O];rfl)|(rw[if_neg O,if_pos O];rfl)|(rw[if_neg O,if_neg O];rfl))) (iU (iU (iU rA))))
      repeat (first|exact nw|refine jN ?_|refine oT ?_|refine Tz ?_)
    (try simp(decide:=true) only[lP,mi] at h24);refine rF 6 ?_;refine EM (λh27=>?_) (λh27=>?_)
    ·(try simp(decide:=true) only[lP,mi] at h27)
     refine rF 1 ?_;refine iP 121 3 rfl<|rF 5 ?_;refine EM (λh32=>?_) (λh32=>?_)
     ·(try simp(decide:=true) only[lP,mi] at h32)
      refine rF 2 ?_;refine bk ((.empty,[],(iz s (iz s ⟨p,none⟩).2).2)) rfl ?_ ([0,1,2,4,3]) ?_
      .unfold tj;rw[if_neg O,if_neg O]
      .refine mo ?_ (yu rfl (by exact Fit.of_eq (by unfold partsOf;first|(rw[if_pos O];rfl)|(rw[if_neg O,if_pos O];rfl)|(rw[if_neg O,if_neg O];rfl))) (iU (iU (iU rA))))
       repeat (first|exact nw|exact C9|refine jN ?_|refine Tz ?_|refine D3 ?_|refine Ky ?_ ?_|refine jw ?_|refine .cons (.nil rfl) ?_)
     (try simp(decide:=true) only[lP,mi] at h32);refine rF 4 ?_;refine bk ((.empty,[],(iz s (iz s ⟨p,none⟩).2).2)) rfl ?_ ([0,1,2,4,3]) ?_
     .unfold tj;rw[if_neg O,if_neg O]
     .refine mo ?_ (yu rfl (by exact Fit.of_eq (by unfold partsOf;first|(rw[if_pos O];rfl)|(rw[if_neg O,if_pos O];rfl)|(rw[if_neg O,if_neg O];rfl))) (iU (iU (iU rA))))
      repeat (first|exact nw|exact C9|refine jN ?_|refine Tz ?_|refine D3 ?_|refine Ky ?_ ?_|refine jw ?_|refine .cons (.nil rfl) ?_)
    (try simp(decide:=true) only[lP,mi] at h27)
    have hnm:=n7 (s:=s) (r:=(iz s (iz s ⟨p,none⟩).2).2) J.2;refine nC 3 (zF s (iz s (iz s ⟨p,none⟩).2).2 hs J.2) [0] ?_;refine rF 10 ?_;refine iP 121 3 rfl<|pt 0 (ι:=Nat×List iq×RS) (λ⟨m,e,C⟩=>[]) (λ⟨m,e,C⟩=>[rT s C,.cells [fE 0,fE 0,fI .empty,fK,fK] 39,.cells [fE k,fE 0,fI (jW s (iz s (iz s ⟨p,none⟩).2).2).1,.own 4 3 (iR e),fK] 39,.jd 39 5,.row 121 3]) [12,11,2,0] (λ⟨m,e,C⟩=>C.p<=s.size/\e.length+m=s.size+2/\(C.f=none->s.size-C.p<m)/\kQ (s.size+2) s (jW s (iz s (iz s ⟨p,none⟩).2).2).2=(e++(kQ m s C).1,(kQ m s C).2)) (λ⟨m,e,C⟩=>m) ((s.size+2,[],(jW s (iz s (iz s ⟨p,none⟩).2).2).2)) ([0,1,2,3,4]) ?I3 ?H3 (hM:= ?M3)
    case I3=>
     exact⟨hnm.2,by simp,λ_=>O,rfl⟩
    case M3=>
     refine mo ?_ (iU (iU (iU (iU rA))))
     repeat (first|exact nw|exact C9|refine jN ?_|refine Tz ?_|refine D3 ?_|refine Ky ?_ ?_|refine jw ?_|refine .cons (.nil rfl) ?_)
    case H3=>
     rintro⟨m,e,C⟩ b
     try dsimp only at b
     refine rF 10 ?_;apply QU (yt:=107) (d:=104) 3 rfl rfl rfl (.none rfl) rfl rfl
     case h1=>
      intro c x;have S:=c;(try simp(decide:=true) only[lP,mi] at S);refine uA ?_ (hbw:=by exact c);refine rF 1 ?_;refine uA ?_ (hbw:=by exact c);refine nC 0 (CO s C hs b.1) [0] ?_;refine uA ?_ (hbw:=by exact c);refine rF 1 ?_;exact x [_,_,_] rfl rfl
     case h2=>
      intro c x;refine tZ ?_ (hbw:=by exact c);refine tZ ?_ (hbw:=by exact c);refine tZ ?_ (hbw:=by exact c);exact x [_,_,_] rfl
     refine rF 2 ?_;refine EM (λH=>?_) (λH=>?_)
     ·(try simp(decide:=true) only[lP,mi] at H)
      refine rF 5 ?_;refine bk (((jW s (iz s (iz s ⟨p,none⟩).2).2).1,e,C)) rfl ?_ ([0,1,2,4,3]) ?_
      .unfold tj;rw[if_neg O,if_pos O,b.2.2.2,L7 (by rintro⟨ha,hb⟩;rcases H with h|h;exact h ha;exact hb h),bR]
      .refine mo ?_ (yu rfl (by exact Fit.of_eq (by unfold partsOf;first|(rw[if_pos O];rfl)|(rw[if_neg O,if_pos O];rfl)|(rw[if_neg O,if_neg O];rfl))) (iU (iU (iU rA))))
       repeat (first|exact nw|refine jN ?_|refine oT ?_|refine Tz ?_)
     (try simp(decide:=true) only[lP,mi] at H)
     obtain⟨k1,s1,a1,W⟩:=iq.case (je (s.size+1) s C).1
     have hm1:=b.2.2.1 (nK.1 H.1);have hln:=jn e;have F:iR e++[[fD k1,fG s1,.sl 3 (iR a1)]]=iR (e++[iq.mk k1 s1 a1]):=by rw[yV];rfl
     refine ma 3 [0,1,2] mixed ?_;refine A2 3 rfl (iX Yt rfl rfl rfl rfl (F0 s hs (s.size+1) C b.1 O) [0] (jN .nil) rfl rfl rfl rfl (jw .nil) (λs ob' hq=>?_) (λs ob' hq=>?_));rotate_left
     .first|exact hq.elim|cases hq.1
     obtain⟨q,rfl⟩:=hq;rw[W] at q;cases q;refine⟨_,_,_,_,_,rfl,rfl,rfl,rfl,rfl,?_⟩;refine A2 4 rfl (CW tr [.tmp 112] pC ?_);refine A2 5 rfl (ya tr ?_);refine ga [6] ?_;refine nO 7 ?_;refine iB<|rF 1 ?_;rw[F];refine bk ((m-1,e++[iq.mk k1 s1 a1],(je (s.size+1) s C).2)) rfl ?_ ([0,1,2,3,4]) ?_
     .exact ⟨L8 b H W,show m-1<m by omega⟩
     .refine mo ?_ (iU (iU (iU (iU rA))))
      repeat (first|exact nw|refine jN ?_|refine oT ?_|refine Tz ?_)
   .rintro ⟨nm,L,z⟩ I
    try dsimp only at I
    have R:=BQ (s:=s) k (r:=(iz s (iz s ⟨p,none⟩).2).2) J.2;rw[I] at R;dsimp only at R;have hpl:=Fu k;refine pt 7 (ι:=Nat) (λi=>[(13,int i)]) (λi=>[rT s (nJ (jt n s) i z).2,.cells [fE 0,fE 0,fI .empty,fK,fK] 39,.cells [fE k,fE 0,fI nm,.own 3 3 (iR L),.own 4 5 (im (nJ (jt n s) i z).1)] 39,.row 121 3,.row 39 5]) [12,11,2,0] (λi=>i<=partsOf k) (λi=>partsOf k-i) (0) ([0,1,2,3,4]) ?I4 ?H4 (hM:= ?M4)
    case I4=>
     exact ak _
    case M4=>
     refine mo ?_ (iU (iU (iU (iU (iU rA)))))
     repeat (first|exact nw|exact C9|refine jN ?_|refine oT ?_|refine D3 ?_|refine Ky ?_ ?_|refine jw ?_|refine .cons (.nil rfl) ?_)
    case H4=>
     rintro i b
     try dsimp only at b
     refine rF 8 ?_;refine EM (λh35=>?_) (λh35=>?_)
     ·(try simp(decide:=true) only[lP,mi] at h35)
      refine nC 8 (qu s ⟨#[41]⟩ (nJ (jt n s) i z).2 hs (uR (s:=s) (f:=jt n s) (λr hr=>nN n r hr) i R.2).2) [0] ?_;refine rF 9 ?_;refine fR ?_;obtain rfl:i=partsOf k:=O;refine pc ⟨_,_,rfl,(jB rfl rfl jz rfl rfl rfl rfl),rfl⟩ rfl ((ie.mk k 0 nm L (nJ (jt n s) (partsOf k) z).1).d) (by exact .refl _) ([0]) ([rT s (jF s ⟨#[41]⟩ (nJ (jt n s) (partsOf k) z).2)]) rfl rfl rfl ?_ ?_
      .repeat (first|exact nw|refine jN ?_)
      .rw [Ao M hk O I];exact⟨rfl,rfl⟩
     (try simp(decide:=true) only[lP,mi] at h35)
     have hpp:=uR (s:=s) (f:=jt n s) (λr hr=>nN n r hr) i R.2;obtain⟨k2,n2,s2,l2,a2',W⟩:=ie.case (jt n s (nJ (jt n s) i z).2).1
     have hln:(im (nJ (jt n s) i z).1).length=i:=by rw[ir,Ft]
     have F:im (nJ (jt n s) i z).1++[[fD k2,fD n2,fG s2,.sl 3 (iR l2),.sl 5 (im a2')]]=im (nJ (jt n s) (i+1) z).1:=by simp only[nJ];rw[W,ll];rfl
     have hpr:p<(iz s ⟨p,none⟩).2.p:=by rw[sk (by rw[M];decide),M];simp only;have:(ByteArray.mk #[40]).size=1:=rfl;omega
     refine ma 4 [0,1,2] mixed ?_;refine A2 3 rfl (iX Wg rfl rfl rfl rfl (ih (nJ (jt n s) i z).2 hpp.2 O) [0] (jN .nil) rfl rfl rfl rfl (jw .nil) (λs ob' hq=>?_) (λs ob' hq=>?_));rotate_left
     .first|exact hq.elim|cases hq.1
     obtain⟨q,rfl⟩:=hq;rw[W] at q;cases q;refine⟨_,_,_,_,_,rfl,rfl,rfl,rfl,rfl,?_⟩;refine A2 4 rfl (CW mN [.tmp 126] jz ?_);refine A2 5 rfl (ya mN ?_);refine ga [6] ?_;refine nO 7 ?_;refine iB<|jS 4 ?_;refine rF 2 ?_;rw[F];refine ml 0 (i+1) [0,1,2,3,4] ?_;exact⟨O,O⟩
end
section
attribute [local irreducible] iK iL jI ik iW jH
theorem QA(e:p<=s.size)(c:(iE s p).1≠ .empty)(h:48<=iM (iE s p).1 0/\iM (iE s p).1 0<=57):
 (iE s p).1.size<=5/\Ds (iE s p).1/\(1<(iE s p).1.size->¬iM (iE s p).1 0=48):=by
 have q:=pI zV s p e;revert c h;unfold iE;dsimp only;split
 .intro c;exact absurd rfl c
 .rename_i C;have r:jZ zV s p<s.size:=O;split
  .rename_i x;intro _ h;rw[jM s O O,b6] at h;omega
  .split
   .rename_i x k;have y:=pI (qq · false) s (jZ zV s p+1) O;split
    .intro c;exact absurd rfl c
    .intro _ h;rw[jM s O O,b6] at h
     exfalso
     revert k;unfold qq;simp;omega
   .split
    .have y:=pI ux s (jZ zV s p+1) O;by_cases b:iM s (jZ zV s p)=35
     .simp only[if_pos b];split
      .intro c;exact absurd rfl c
      .intro _ h;rw[jM s O O,b6] at h;omega
     .simp only[if_neg b];split
      .intro c;exact absurd rfl c
      .rename_i hd;intro _ h;rw[jM s O O,b6] at h ⊢;simp only[cC];refine⟨O,λi z=>?_,λF U=>hd (.inr (.inr ⟨O,U⟩))⟩;simp only[cC] at z;rw[jM s O O];rcases cX i with rfl|hi0
       .exact h
       .have:=Cx (f:=ux) (s:=s) (p:=jZ zV s p+1) (j:=jZ zV s p+i) O O
        simpa[ux] using this
    .intro c;exact absurd rfl c
theorem PT(e:jF s ⟨#[40]⟩ r=c)(h:DR (iE s c.p).1=0):oh s r=(.mk 0 .empty [] iu iu 0 [],c.fail (iE s c.p).2.1):=by
 unfold oh ji;dsimp only;rw[e,if_pos h];rfl
theorem MV(j:jF s ⟨#[40]⟩ r=c)(q:DR (iE s c.p).1=C)(x:¬C=0)(y:(jW s (iz s c).2).1=h)
 (z:nA (s.size+2) s (jF s ⟨#[40]⟩ (jW s (iz s c).2).2)=(i,e)):ji s r=(C,h,i,jF s ⟨#[41]⟩ e):=by
 unfold ji;dsimp only;rw[j,q,if_neg x,y,z]
theorem Tl(h:ji s r=(3,e,i,c))(j:¬ze (iE s c.p)):oh s r=(.mk 3 e i iu iu 0 [],c.fail (iE s c.p).2.1):=by
 unfold oh;dsimp only;rw[h,if_neg (by simp),if_pos ⟨rfl,j⟩]
theorem PU(h:ji s r=(I,j,q,e))(y:¬I=0)(z:¬(I=3/\¬ze (iE s e.p)))(C:qm s I e=(a,r7))
 (F:jt (s.size+1) s r7=(t,r8)) (G:Aj s I r8=(v,i)) (H:wc s I i=(x,c)):oh s r=(.mk I j q t v a x,jF s ⟨#[41]⟩ c):=by
 unfold oh;dsimp only;rw[h,if_neg y,if_neg z];simp only[sS,C,F,G,H]
def xm(c m:Nat)(s:fB)(r:RS):List (fB×ie)×RS:=if c=3 then ns m s r else([],r)
theorem Ts(h:¬(c=3/\r.f=none/\vh s r=⟨#[40]⟩)):xm c m s r=([],r):=by
 unfold xm;split
 .rename_i b;exact PV λU=>h ⟨b,U⟩
 .rfl
theorem Tt(e:c.p<=s.size/\i.length+m=s.size+2/\(c.f=none->s.size-c.p<m)/\xm y (s.size+2) s j=(i++(xm y m s c).1,(xm y m s c).2))
 (q:y=3) (h:c.f=none/\vh s c=⟨#[40]⟩) (r:(oI s c).1=x):
 (oI s c).2.p<=s.size/\(i++[x]).length+(m-1)=s.size+2/\((oI s c).2.f=none->s.size-(oI s c).2.p<m-1)/\
  xm y (s.size+2) s j=(i++[x]++(xm y (m-1) s (oI s c).2).1,(xm y (m-1) s (oI s c).2).2):=by
 subst q;unfold xm at e ⊢;simp only[if_true] at e ⊢;exact PW e h r
theorem Mc(c:¬w=⟨#[97,120,105,111,109]⟩)(e:¬w=⟨#[100,101,102]⟩)(h:¬w=⟨#[105,110,100,117,99,116,105,118,101]⟩):DR w=0:=by
 unfold DR;rw[if_neg c,if_neg e,if_neg h]
theorem G9(h:pS (s.size+2) s ⟨0,none⟩=(acc,r))(c:r.f=none):oY s=(acc,0,0):=by
 unfold oY;rw[h];simp only[c]
theorem JR(h:pS (s.size+2) s ⟨0,none⟩=(c,r))(e:r.f=some a):oY s=([],1,(a:Int)):=by
 unfold oY;rw[h];simp only[e]
theorem S6(h:pS (s.size+2) s ⟨0,none⟩=(acc,r))(c:¬iV r.f=0):oY s=([],iV r.f,ot r.f):=by
 cases b:r.f with
 |none=>rw[b] at c;exact absurd rfl c
 |some a=>rw[JR h b];rfl
end
theorem XA{s:fB}{p:Nat}(c:p<=s.size)(h:(iE s p).1≠ .empty):p+1<=(iz s ⟨p,none⟩).2.p:=by
 have b:=pF (s:=s) c;rw[sk h];have:=size_pos h;simp only;omega
theorem ZV(c:p<=s.size)(h:DU (iE s p).1)(e:(iE s p).1≠⟨#[40]⟩):
 0<=vn ((iE s p).1.extract 1 (iE s p).1.size) ((iE s p).1.size-1)/\vn ((iE s p).1.extract 1 (iE s p).1.size) ((iE s p).1.size-1)<=99999:=by
 have b:iM (iE s p).1 0=35:=by rcases h.2 with h|h;exact h;exact absurd h e
 have k:=KU c h.1 b;exact FG k.2.2 _ (by rw[cC];omega) O
theorem Sv(c:Ds t)(e:t.size<=2):0<=vn t t.size/\vn t t.size<=99:=by
 have key:t.size=0\/t.size=1\/t.size=2:=O;rcases key with h|h|h
 .rw [h];simp[vn]
 .have d0:=c 0 O;rw[h];simp only[vn];omega
 .have d0:=c 0 O;have d1:=c 1 O;rw[h];simp only[vn];omega
end Go.Proofs.YtndbnldjidciiaaGreatDoor
