/-
  What is proved here: lemmas of part 5, for the theorem of the last part.
-/
import Derived.Test.YtndbnldjidciiaaGreatDoorQ4
set_option linter.unusedSimpArgs false
set_option linter.unusedVariables false
set_option linter.unusedSectionVars false
namespace Go.Proofs.YtndbnldjidciiaaGreatDoor
section
open Go Go.Vd Go.RowKit
attribute [local irreducible] bu bA di ak bL cU
variable {g gl:Nat→List D}
def yf(es:List cy)(most:Nat):rq→Out→List Ob→Prop
 | .ok u d' p',out,ob'=>out=.ret (.d u.d)∧ob'=eQ es d' most p'
 | .cI,out,ob'=> ∃d' p',out=.pz (.d wq)∧ob'=eQ es d' most p'
def KX(gl:Nat→List D)(es:List cy)(ps:List ByteArray)(most n:Nat):Prop:=
 ∀(k m:Int) (s:ByteArray) (ls:List aP) (args:List ae) (c:Int) (d:Nat) (o:rq) (p:Int),0≤c→0≤p→p≤20000→d≤most→RN es most n (.mk k m s ls args) d p o→c+(ae.mk k m s ls args).size+30000*(most-d)≤1000000000→Wt (eh es) ps (.mk k m s ls args) c→
  et Tryz.prog gl 41 (eQ es d most p) [.cb 3 0,.d (ae.mk k m s ls args).d] (yf es most o)
theorem yf.ret{es:List cy}{most:Nat}{o:rq}{v:SV}{ob':List Ob}(h:yf es most o (.ret v) ob'):∃(k m:Int) (s:ByteArray) (ls:List aP) (args:List ae) (d':Nat) (p':Int),o=.ok (.mk k m s ls args) d' p'∧v=.d (ae.mk k m s ls args).d∧ob'=eQ es d' most p':=by
 cases o with
 |ok u d' p'=>obtain⟨k,m,s,ls,args,rfl⟩:=ae.case u;obtain⟨h2,h3⟩:=h;cases h2;exact⟨k,m,s,ls,args,d',p',rfl,rfl,h3⟩
 |cI=>obtain⟨_,_,h1,_⟩:=h;cases h1
theorem yf.pz{es:List cy}{most:Nat}{o:rq}{v:SV}{ob':List Ob}(h:yf es most o (.pz v) ob'):∃d' p',o=.cI∧v=.d wq∧ob'=eQ es d' most p':=by
 cases o with
 |ok u d' p'=>obtain⟨h2,_⟩:=h;cases h2
 |cI=>obtain⟨d',p',h1,h2⟩:=h;cases h1;exact⟨d',p',rfl,rfl,h2⟩
variable {es:List cy} {most d:Nat} {p:Int} {o:rq}
theorem KT{n:Nat}{t:ae}(h:RN es most n t d p o):∃q m ow,n=q+1∧RW es most m t d ow∧(ow=.cI→o=.cI)∧∀u d1,ow=.ok u d1→p+1≤20000∧
 ((ae.kd u=3→∃so,Bq (RN es most q) (bf u).2 d1 (p+1) so∧o=so.to (bt (bf u).1))∧(¬ ae.kd u=3→∃so,Bq (RN es most q) (ae.Rp u) d1 (p+1) so∧o=so.to (ae.wa u))):=by
 cases n with
 |zero=>exact h.elim
 |succ n=>
  rcases h with⟨m,h1,h2⟩|⟨m,u,d1,so,h1,h2,h3⟩
  ·exact ⟨n,m,_,rfl,h1,fun _=>h2,fun _ _ h=>by cases h⟩
  ·refine ⟨n,m,_,rfl,h1,fun h=>(by cases h),fun u' d1' hu=>?_⟩;cases hu;refine⟨h2,fun hk=>?_,fun hk=>?_⟩
   ·rcases h3 with⟨_,h4,h5⟩|⟨h4,_⟩
    ·exact ⟨so,h4,h5⟩
    ·exact absurd hk h4
   ·rcases h3 with⟨h4,_⟩|⟨_,h4,h5⟩
    ·exact absurd h4 hk
    ·exact ⟨so,h4,h5⟩
theorem rG.Mb(y:ae)(f:List ae→ae):∀so:rG,(so.cons y).to f=so.to fun l=>f (y::l)
 | .ok _ _ _=>rfl
 | .cI=>rfl
def tT(es:List cy)(most q:Nat)(l:List ae)(F:List ae→ae)(o:rq)(i:Nat)(ys:List ae)(d:Nat)(p:Int):Prop:=
 i≤l.length∧ys.length=i∧∃so,Bq (RN es most q) (l.drop i) d p so∧o=so.to fun zs=>F (ys++zs)
variable {q:Nat} {l ys:List ae} {F:List ae→ae}
theorem tT.next{i:Nat}{x:ae}(h:tT es most q l F o i ys d p)(hx:l[i]? =some x):∃ox,RN es most q x d p ox∧(ox=.cI→o=.cI)∧∀y d1 p1,ox=.ok y d1 p1→tT es most q l F o (i+1) (ys++[y]) d1 p1:=by
 obtain⟨h1,h2,so,h3,h4⟩:=h;have hi:=(List.getElem?_eq_some_iff.1 hx).1;have hd:l.drop i=x::l.drop (i+1):=by rw[List.drop_eq_getElem_cons hi,(List.getElem?_eq_some_iff.1 hx).2]
 rw[hd] at h3;rcases h3 with⟨h5,rfl⟩|⟨y,d1,p1,so2,h5,h6,rfl⟩
 ·exact ⟨_,h5,fun _=>h4,fun _ _ _ h=>by cases h⟩
 ·refine ⟨_,h5,fun h=>(by cases h),fun y' d1' p1' hy=>?_⟩;cases hy;exact⟨hi,by rw[List.length_append,h2];rfl,so2,h6,by rw[h4,rG.Mb];congr 1;funext zs;rw[List.append_assoc];rfl⟩
theorem tT.fin(h:tT es most q l F o l.length ys d p):o=.ok (F ys) d p:=by
 obtain⟨_,_,so,h3,h4⟩:=h;rw[List.drop_length] at h3;have:so=.ok [] d p:=h3;rw[h4,this];show rq.ok (F (ys++[])) d p=_;rw[List.append_nil]
variable {ps:List ByteArray}
theorem Ho(hFE:fX es){N:Nat}(hm:most≤1000000)(ih:∀n,n<N→KX gl es ps most n):KX gl es ps most N:=by
 intro k m s ls args c d0 o p0 hc0 hp0 hp1 hdm0 hR0 hz0 hw0;have hE:=hFE.ok;obtain⟨q,mw,ow,rfl,hRW,hti,hok⟩:=KT hR0;have hhd:=HC (gl:=gl) hFE (ps:=ps) (c:=c) ⟨hc0,by omega⟩ hm mw k m s ls args d0 ow (p0+1) hdm0 hRW (by omega) hw0;unfold eQ;refine bS Tryz.func41 Tryz.ntmps41 4 ?_;refine gc 13 ?_;refine o1 (cG ?_);refine ko 5 [4,3,0] 9 ?_;refine cj (fun h2=>?_) (fun h2=>?_)
 ·omega
 refine kc 2 [4,3,0] 4 ?_;refine oc (aN PO rfl rfl rfl rfl (hhd) [0,1,2,3] (bj (cr (.cons rfl .cV (bj .nil)))) rfl rfl rfl rfl (an (bo .nil)) (fun s ob' hq=>?_) (fun s ob' hq=>?_));rotate_left
 ·obtain ⟨d',ho',hq1,rfl⟩:=hq.pz;cases hq1;refine⟨_,_,_,_,_,rfl,rfl,rfl,rfl,rfl,?_⟩;refine jA ([0,1,2,3]) (eQ es d' most (p0+1)) rfl rfl rfl (by repeat (first|exact cH|refine bj ?_|refine cr ?_|refine ia ?_)) ?_;rw[hti ho'];exact⟨d',_,rfl,rfl⟩
 obtain⟨u,d1,kh,mh,sh,lh,ah,cs,ho',hS,hq1,rfl⟩:=hq.ret;cases hq1;obtain⟨hpp,hk3,hkn⟩:=hok _ _ ho';subst ho';obtain⟨hj1,hj2,hj3,hj4⟩:=yd hE hc0 mw hRW hdm0 hw0;obtain⟨_,hH,hA,hap0⟩:=Wt.spine _ (Nat.le_refl _) hj1;have hkd:=Wt.wy _ (Nat.le_refl _) hj1;have hss:=kn hj1;rw[hS] at hap0 hss hH hA hkd;dsimp only at hap0 hss hH hA;rw[hS] at hk3;have hcl:=br cs;have hct:=aO cs;have hah:=br ah;have hat:=aO ah;have hah2:aj ah+1≤(ae.mk kh mh sh lh ah).size:=(by simp only[ae.size];omega);refine⟨_,_,_,_,_,rfl,rfl,rfl,rfl,rfl,?_⟩;refine ko 9 [6,5,4,0] 7 ?_;refine cJ (fun h5=>?_) (fun h5=>?_)
 ·refine gc 4 ?_;have hu3:ae.kd u=3:=(by
   rw[← hap0];obtain⟨ys,y,rfl⟩:∃ys y,cs=ys++[y]:=⟨cs.dropLast,cs.getLast (by intro e;apply h5;rw[e];rfl),(List.dropLast_concat_getLast _).symm⟩;rw[iq];rfl)
  obtain⟨so,hso,hoso⟩:=hk3 hu3;have hI0:tT es most q cs (bt (.mk kh mh sh lh ah)) o 0 [] d1 (p0+1):=⟨Nat.zero_le _,rfl,so,hso,hoso⟩;refine kc 7 [56,55,54,5,4,0] 0 ?_;refine lp (ι:=Nat×List ae×Nat×Int×Int×Int×ByteArray×List aP×List ae) (fun⟨i,ys,d2,p2,kf,mf,sf,lf,af⟩=>[(56,int i)]) (fun⟨i,ys,d2,p2,kf,mf,sf,lf,af⟩=>[pE (es.map (·.d)),dR,.cV (fL es),mO d2 most p2,tO k m s ls args,zO,tO kf mf sf lf af]) [55,54,5,4,0] (fun⟨i,ys,d2,p2,kf,mf,sf,lf,af⟩=>tT es most q cs (bt (.mk kh mh sh lh ah)) o i ys d2 p2∧bt (.mk kh mh sh lh ah) ys=.mk kf mf sf lf af∧d1≤d2∧d2≤most∧0≤p2∧p2≤20000) (fun⟨i,ys,d2,p2,kf,mf,sf,lf,af⟩=>cs.length-i) ((0,[],d1,p0+1,kh,mh,sh,lh,ah)) ([0,1,2,3,4,5,6]) rfl ?I1 ?M1 ?H1
  case I1=>
   exact⟨hI0,rfl,Nat.le_refl _,hj3,by omega,hpp⟩
  case M1=>
   exact mz
  case H1=>
   rintro⟨i,ys,d2,p2,kf,mf,sf,lf,af⟩ hinv
   try dsimp only at hinv
   refine kc 0 [56,55,54,5,4,0] 6 ?_;refine cJ (fun h15=>?_) (fun h15=>?_)
   ·refine kc 5 [5,4] 7 ?_;refine eo ((ae.mk kf mf sf lf af).d) [0,1,2,3] (eQ es d2 most p2) ?_
    ·obtain ⟨hI,hap1,hd2,hd3,hp2,hp3⟩:=hinv;obtain rfl:i=cs.length:=(by have:=hI.1;omega);rw[hI.fin,hap1];exact⟨rfl,rfl⟩
   refine gc 5 ?_;obtain⟨hI,hap1,hd2,hd3,hp2,hp3⟩:=hinv;obtain⟨kx,mx,sx,lx,ax,hgx⟩:=bK (show i<cs.length by omega);have hgz:=bG hgx;have hxw:=hA _ (List.mem_of_getElem? hgx);obtain⟨ox,hox,htx,hnn⟩:=hI.next hgx
   have hih:=ih q (by omega) kx mx sx lx ax c d2 ox p2 hc0 hp2 hp3 hd3 hox (by omega) hxw;refine gc 1 ?_;refine o1 (cu bB bH ?_ (he:=by exact(bW hgx)));refine go 5 ?_;refine gz [0,1,2] mixed ?_;refine A2 3 rfl (aN Ov rfl rfl rfl rfl (hih) [0,1,2,3] (bj (cr (.cons rfl .cV (bj .nil)))) rfl rfl rfl rfl (an (bo .nil)) (fun s ob' hq=>?_) (fun s ob' hq=>?_));rotate_left
   ·obtain ⟨d',p',hoy,hq1,rfl⟩:=hq.pz;cases hq1;refine⟨_,_,_,_,_,rfl,rfl,rfl,rfl,rfl,?_⟩;refine jA ([0,1,2,3]) (eQ es d' most p') rfl rfl rfl (by repeat (first|exact cH|refine bj ?_|refine cr ?_|refine ia ?_)) ?_;rw[htx hoy];exact⟨d',p',rfl,rfl⟩
   obtain⟨ky,my,sy,ly,ay,d3,p3,hoy,hq1,rfl⟩:=hq.ret;cases hq1;rw[hoy] at hox;obtain⟨_,hw2,hw3,hw4,hw5,_⟩:=GS hE q hox hd3 hc0 hxw;refine⟨_,_,_,_,_,rfl,rfl,rfl,rfl,rfl,?_⟩;refine A2 4 rfl (gD dE [.tmp 60,.tmp 63] bw ?_);refine A2 5 rfl (cv It rfl rfl (jY 3 [.mk kf mf sf lf af,.mk ky my sy ly ay]) (an (bo .nil)) ?_);refine A2 6 rfl (dN bw ?_);refine aZ ?_;refine ke 2 [56,55,54,5,4,0] 1 ?_;refine o1 (cG ?_);refine go 2 ?_;refine bk (i+1,ys++[.mk ky my sy ly ay],d3,p3,3,0,.empty,[],[.mk kf mf sf lf af,.mk ky my sy ly ay]) rfl ?_ [0,1,2,3,4,5,6] mz;exact⟨⟨hnn _ _ _ hoy,by rw[iq,hap1],by omega,hw3,by omega,hw5⟩,show cs.length-(i+1)<cs.length-i by omega⟩
 refine kc 1 [5,4,0] 0 ?_;obtain rfl:cs=[]:=List.eq_nil_of_length_eq_zero (by omega);have hu:u=.mk kh mh sh lh ah:=hap0.symm;subst hu;obtain⟨so,hso,hoso⟩:=hkn hkd;have hI0:tT es most q ah (ae.wa (.mk kh mh sh lh ah)) o 0 [] d1 (p0+1):=⟨Nat.zero_le _,rfl,so,hso,hoso⟩;refine kc 22 [40,39,38,7,4,0] 0 ?_;refine bz 39 5 rfl ?_;refine lp (ι:=Nat×List ae×Nat×Int) (fun⟨i,ys,d2,p2⟩=>[(40,int i)]) (fun⟨i,ys,d2,p2⟩=>[pE (es.map (·.d)),dR,.cV (fL es),mO d2 most p2,tO k m s ls args,zO,tO kh mh sh lh ah,.cells [.d (.v (.int .i64 kh)),.d (.v (.int .i64 mh)),.d (.v (.string sh)),.d (.sl 3 (bF lh)),.own 8 5 (aH ys)] 39,.row 39 5]) [39,38,7,4,0] (fun⟨i,ys,d2,p2⟩=>tT es most q ah (ae.wa (.mk kh mh sh lh ah)) o i ys d2 p2∧d1≤d2∧d2≤most∧0≤p2∧p2≤20000) (fun⟨i,ys,d2,p2⟩=>ah.length-i) ((0,[],d1,p0+1)) ([0,1,2,3,4,5,6,7,8]) rfl ?I2 ?M2 ?H2
 case I2=>
  exact⟨hI0,Nat.le_refl _,hj3,by omega,hpp⟩
 case M2=>
  refine mo ?_ (aJ (aJ (aJ (aJ (aJ (aJ dC))))))
  repeat (first|exact cH|exact yH|refine bj ?_|refine cr ?_|refine ia ?_|refine qx ?_|refine Bi ?_ ?_|refine an ?_|refine .cons (.nil rfl) ?_)
 case H2=>
  rintro⟨i,ys,d2,p2⟩ hinv
  try dsimp only at hinv
  refine kc 0 [40,39,38,7,4,0] 6 ?_;refine cJ (fun h9=>?_) (fun h9=>?_)
  ·refine kc 5 [7,4] 8 ?_;refine eo ((ae.mk kh mh sh lh ys).d) [0,1,2,3] (eQ es d2 most p2) ?_
   ·obtain ⟨hI,hd2,hd3,hp2,hp3⟩:=hinv;obtain rfl:i=ah.length:=(by have:=hI.1;omega);rw[hI.fin];exact⟨rfl,rfl⟩
  refine gc 5 ?_;obtain⟨hI,hd2,hd3,hp2,hp3⟩:=hinv;obtain⟨kx,mx,sx,lx,ax,hgx⟩:=bK (show i<ah.length by omega);have hgz:=bG hgx;have hwx:=hH.2.1.get hgx;obtain⟨ox,hox,htx,hnn⟩:=hI.next hgx
  have hxw:Wt (eh es) ps (.mk kx mx sx lx ax) (c+1):=hwx.up (by split<;>omega);have hih:=ih q (by omega) kx mx sx lx ax (c+1) d2 ox p2 (by omega) hp2 hp3 hd3 hox (by omega) hxw;have hyl:=aO ys;have hyl2:=hI.2.1;refine gc 1 ?_;refine o1 (cu bB bH ?_ (he:=by exact(bW hgx)));refine go 5 ?_;refine gz [0,1,2,3] mixed ?_;refine A2 4 rfl (aN Ov rfl rfl rfl rfl (hih) [0,1,2,3] (bj (cr (.cons rfl .cV (bj .nil)))) rfl rfl rfl rfl (an (bo .nil)) (fun s ob' hq=>?_) (fun s ob' hq=>?_));rotate_left
  ·obtain ⟨d',p',hoy,hq1,rfl⟩:=hq.pz;cases hq1;refine⟨_,_,_,_,_,rfl,rfl,rfl,rfl,rfl,?_⟩;refine jA ([0,1,2,3]) (eQ es d' most p') rfl rfl rfl (by repeat (first|exact cH|refine bj ?_|refine cr ?_|refine ia ?_)) ?_;rw[htx hoy];exact⟨d',p',rfl,rfl⟩
  obtain⟨ky,my,sy,ly,ay,d3,p3,hoy,hq1,rfl⟩:=hq.ret;cases hq1;rw[hoy] at hox;obtain⟨_,hw2,hw3,hw4,hw5,_⟩:=GS hE q hox hd3 (by omega) hxw;have hnx:aH ys++[[.v (.int .i64 ky),.v (.int .i64 my),.v (.string sy),.sl 3 (bF ly),.sl 5 (aH ay)]]=aH (ys++[.mk ky my sy ly ay]):=(by rw[dj];rfl);refine⟨_,_,_,_,_,rfl,rfl,rfl,rfl,rfl,?_⟩;refine A2 5 rfl (gD dE [.tmp 48] bw ?_);refine A2 6 rfl (px dE ?_);refine ga [7] ?_;refine A2 8 rfl (dN Bz ?_);refine aZ ?_;refine ke 2 [40,39,38,7,4,0] 1 ?_;refine o1 (cG ?_);refine go 2 ?_;rw[hnx];refine bk (i+1,ys++[.mk ky my sy ly ay],d3,p3) rfl ?_ [0,1,2,3,4,5,6,7,8] mz;exact⟨⟨hnn _ _ _ hoy,by omega,hw3,by omega,hw5⟩,show ah.length-(i+1)<ah.length-i by omega⟩
theorem Er(hFE:fX es)(hm:most≤1000000)(N:Nat):KX gl es ps most N:=by
 induction N using Nat.strongRecOn with
 |_ N ih=>exact Ho hFE hm ih
end
section
open Go Go.Vd Go.RowKit
attribute [local irreducible] bu bA di ak bL cU
variable {gl:Nat→List D}
def yG(code at':Int):D:=.me 115 (.cp [.v (.int .i64 code),.v (.int .i64 at')])
def pc:List D:=[.v (.iface 180 (.agg #[.pointer (some ⟨2,49,none⟩)]))]
theorem Mp(hgl:gl 1=pc)(l:List D):
 et Tryz.prog gl 54 [.cells [.d (.v (.pointer none))] 115] [.d (.me 115 (.cp l)),.me 117 (.cb 0 0)] fun out ob'=>out=.ret (.d (.v (.bool true)))∧ob'=[.cells [.d (.cp l)] 115]:=by
 intro g w vs hs hd;have hr:=qP (n:=2) (by simp) hs hd;obtain⟨x,l1,rfl,⟨y,rfl,eb,eo,rfl,hc⟩,z,l2,rfl,⟨u,rfl,tb,htb,rfl⟩,rfl⟩:=hd;obtain⟨us,hh,⟨p,l3,rfl,hp,rfl⟩,hmn⟩:=hs.gX 0 _ _ rfl htb;have hp':p=.pointer none:=hp;subst hp';have hg:=hs.ET 1;rw[hgl] at hg;obtain⟨⟨gx,hg1,hg2⟩,_⟩:=hg;have hg3:gx=.iface 180 (.agg #[.pointer (some ⟨2,49,none⟩)]):=hg2;subst hg3;have hcell:=(hs.sat _ _ _ hg1).1;have hlt:tb<w.heap.size:=(Array.getElem?_eq_some_iff.1 hh).1;refine(OC ⟨eb,eo,none⟩ ⟨tb,0,none⟩ (.pointer none) w hcell (by simp[World.cell?,hh]) (by simp[World.frozen?,hh])).mono ?_;rintro e w' ⟨rfl,rfl⟩;have hb:∀(W:World) (o:Obj),tb<W.heap.size→W.heap[tb]? =some (.cells #[.pointer none] 115 (0,0))→(W.alloc o).heap[tb]? =some (.cells #[.pointer none] 115 (0,0))∧tb<(W.alloc o).heap.size:=fun W o h1 h2=>by
  refine⟨?_,by simp;omega⟩;rw[Below.heap_alloc W o tb h1];exact h2
 obtain⟨a1,b1⟩:=hb w (.cells #[.pointer (some ⟨tb,0,none⟩)] 117) hlt hh;obtain⟨a2,b2⟩:=hb _ (.cells #[.pointer (some ⟨2,117,none⟩),.pointer (some ⟨w.heap.size,0,none⟩),.int .u64 150] 156) b1 a1;obtain⟨a3,b3⟩:=hb _ (.cells #[.pointer (some ⟨2,117,none⟩),.pointer (some ⟨w.heap.size,0,none⟩),.int .u64 150] 156) b2 a2;obtain⟨a4,b4⟩:=hb _ (.cells #[.pointer (some ⟨eb,eo,none⟩)] 115) b3 a3;have hal:=((((Fr.refl (fun c=>c=tb) w).alloc (.cells #[.pointer (some ⟨tb,0,none⟩)] 117)).alloc (.cells #[.pointer (some ⟨2,117,none⟩),.pointer (some ⟨w.heap.size,0,none⟩),.int .u64 150] 156)).alloc (.cells #[.pointer (some ⟨2,117,none⟩),.pointer (some ⟨w.heap.size,0,none⟩),.int .u64 150] 156)).alloc (.cells #[.pointer (some ⟨eb,eo,none⟩)] 115);generalize hW:(((w.alloc (.cells #[.pointer (some ⟨tb,0,none⟩)] 117)).alloc (.cells #[.pointer (some ⟨2,117,none⟩),.pointer (some ⟨w.heap.size,0,none⟩),.int .u64 150] 156)).alloc (.cells #[.pointer (some ⟨2,117,none⟩),.pointer (some ⟨w.heap.size,0,none⟩),.int .u64 150] 156)).alloc (.cells #[.pointer (some ⟨eb,eo,none⟩)] 115)=W at*
 have hset:(W.setCell ⟨tb,0,none⟩ (.pointer (some ⟨eb,eo,none⟩))).heap[tb]? =some (.cells #[.pointer (some ⟨eb,eo,none⟩)] 115 (0,0)):=by
  simp[World.setCell,Array.getElem?_modify,a4]
 have hfr:Fr (fun c=>c=tb) w (W.setCell ⟨tb,0,none⟩ (.pointer (some ⟨eb,eo,none⟩))):=by
  exact hal.trans ⟨rfl,rfl,rfl,by simp[World.setCell],fun c hc hn=>Below.heap_setCell _ _ _ _ hn⟩
 have h1:=(hr.Lc (i:=0) (o':=.cells [.d (.cp l)] 115) rfl htb rfl hfr ⟨_,hset,⟨_,_,rfl,⟨eb,eo,rfl,hc⟩,rfl⟩,hmn⟩ (.inl rfl) (fun j f dn cur h=>by match j,h with|j+1,h=>simp at h) (fun k f dn cur h=>by cases h) hmn).1;exact⟨g,_,h1.store,h1.fI,by simp,rfl,.d (.v (.bool true)),rfl,rfl,rfl⟩
theorem KA:cD Tryz.prog gl 35 [.v .nilIface] (· =.bZ [.v (.int .i64 0),.v (.int .i64 0)]):=by
 refine bD Tryz.func35 Tryz.ntmps35 ?_;refine gc 10 ?_;refine o1 (xO Py ?_);refine go 2 ?_;refine ct ?_;refine kc 0 [] 8 ?_;refine fR ?_;refine Kh rfl rfl rfl ?_;rfl
theorem KB(hgl:gl 1=pc)(c a:Int):cD Tryz.prog gl 35 [yG c a] (· =.bZ [.v (.int .i64 c),.v (.int .i64 a)]):=by
 unfold yG;refine bD Tryz.func35 Tryz.ntmps35 ?_;refine gc 10 ?_;refine o1 (Db Py ?_);refine go 2 ?_;refine cf ?_;refine kc 2 [0] 9 ?_;refine o1 (L0 ?_);refine oc (ck Rf rfl rfl (Mp hgl [.v (.int .i64 c),.v (.int .i64 a)]) [0] rfl (bj .nil) (an (an .nil)) ?_);refine go 2 ?_;refine' oo (yt:=13) (d:=11) 2 ?a1 ?b1 ?_
 case a1=>
  intro hc hK;refine go 1 ?_;refine gy ?_;refine o1 (HV Mz ?_);exact hK [_,_] rfl rfl
 case b1=>
  intro _ hK;refine go 2 ?_;exact hK [_,_] rfl
 refine go 2 ?_;refine cf ?_;refine kc 3 [4] 0 ?_;refine gz [0,1,2,3,4,5,6,7,8,9] mixed ?_;refine aZ ?_;refine ge 2 ?_;refine fR ?_;refine Kh rfl rfl rfl ?_;rfl
theorem Ir(c:Int):cD Tryz.prog gl 33 [.v .nilIface,.v (.int .i64 c)] (· =.v (.bool (decide ((0:Int)=c)))):=by
 refine bD Tryz.func33 Tryz.ntmps33 ?_;refine gc 8 ?_;refine oc (cv PT rfl rfl (KA) (an .nil) ?_);refine ko 7 [5,1] 9 ?_;refine ez ?_;rfl
theorem Is(hgl:gl 1=pc)(k a c:Int):cD Tryz.prog gl 33 [yG k a,.v (.int .i64 c)] (· =.v (.bool (decide (k=c)))):=by
 have hcf:=KB (gl:=gl) hgl k a;generalize yG k a=fd at hcf ⊢;refine bD Tryz.func33 Tryz.ntmps33 ?_;refine gc 8 ?_;refine oc (cv PT rfl rfl (hcf) (an .nil) ?_);refine ko 7 [5,1] 9 ?_;refine ez ?_;rfl
theorem HF(E:D):GQ Tryz.prog gl 38 [.cells [.d E] 49] [.cb 0 0] .ret (fun U' ob'=>U'=.ret∧ob'=[.cells [.d E] 49]):=by
 refine ru (Q0:=fun out ob'=>out=.ret (.d (.bZ []))∧ob'=[.cells [.d E] 49]) (U':=.ret) Tryz.func38 rfl Tryz.ntmps38 (rs:=[]) rfl rfl rfl 1 rfl (fun _ _=>rfl) rfl rfl rfl (.inl ⟨rfl,rfl,rfl⟩) ?_ ?_
 ·rintro out ob' ⟨rfl,rfl⟩;exact⟨⟨_,rfl⟩,rfl,rfl⟩
 refine rV ?_;refine sr ?_;refine o1 (xO Pz ?_);refine nx ?_;refine v5 (fun h3=>?_) (fun h3=>?_)
 ·simp only[du,Int.reduceEq,Int.reduceNe,Int.reduceLT,Int.reduceLE] at h3
 (try simp only[du,Int.reduceEq,Int.reduceNe,Int.reduceLT,Int.reduceLE] at h3);refine mQ ?_;refine o1 (Qq ?_);refine vU ?_;refine xF ?_;refine xL ?_
 refine jO (l:=[]) rfl rfl ([0]) ([.cells [.d E] 49]) rfl rfl rfl ?_ ?_
 ·repeat (first|exact cH|refine bj ?_)
 ·exact ⟨rfl,rfl⟩
theorem HG(E:D):GQ Tryz.prog gl 38 [.cells [.d E] 49] [.cb 0 0] (.pz wq false) (fun U' ob'=>U'=.pz wq true∧ob'=[.cells [.d (yG 14 0)] 49]):=by
 refine ru (Q0:=fun out ob'=>out=.ret (.d (.bZ []))∧ob'=[.cells [.d (yG 14 0)] 49]) (U':=.pz wq true) Tryz.func38 rfl Tryz.ntmps38 (rs:=[]) rfl rfl rfl 1 rfl (fun _ _=>rfl) rfl rfl rfl (.inr ⟨_,rfl,rfl,rfl⟩) ?_ ?_
 ·rintro out ob' ⟨rfl,rfl⟩;exact⟨⟨_,rfl⟩,rfl,rfl⟩
 unfold wq;refine rV ?_;refine sr ?_;refine o1 (Db Pz ?_);refine nx ?_;refine cd (fun h3=>?_) (fun h3=>?_)
 ·simp only[du,Int.reduceEq,Int.reduceNe,Int.reduceLT,Int.reduceLE] at h3
 (try simp only[du,Int.reduceEq,Int.reduceNe,Int.reduceLT,Int.reduceLE] at h3);refine sr ?_;refine o1 (yI ?_);refine o1 (OY ?_);refine o1 (OY ?_);refine nx ?_;refine v5 (fun h5=>?_) (fun h5=>?_)
 ·simp only[du,Int.reduceEq,Int.reduceNe,Int.reduceLT,Int.reduceLE] at h5
 (try simp only[du,Int.reduceEq,Int.reduceNe,Int.reduceLT,Int.reduceLE] at h5);refine kp [10,0] ?_;refine sr ?_
 refine oc (T:=fun _=>False) (Qs Ja ?_ (hl:=by simp only[List.length_cons,List.length_nil,Nat.reduceAdd];rfl));refine oc (dN Ja ?_);refine nx ?_;refine mQ ?_;refine o1 (mv ?_);refine o1 (Ro wu ?_);refine oc (T:=fun _=>False) (bx wu ?_ (hl:=by simp only[List.length_cons,List.length_nil,Nat.reduceAdd];rfl));refine Em 2 rfl rfl rfl rfl rfl rfl ?_;refine o1 (HW ?_);refine o1 (QX ?_);refine oc (dN G6 ?_);refine vU ?_;refine xF ?_;refine xL ?_;refine jO (l:=[]) rfl rfl ([0]) ([.cells [.d (yG 14 0)] 49]) rfl rfl rfl ?_ ?_
 ·repeat (first|exact cH|refine bj ?_)
 ·exact ⟨rfl,rfl⟩
end
section
open Go Go.Vd Go.RowKit
attribute [local irreducible] bu bA di ak bL cU
variable {g gl:Nat→List D}
def Og(es:List cy):List Ob:=[pE (es.map (·.d)),dR,.cV (fL es)]
def PB:rq→D
 | .ok u d _=>.bZ [u.d,.v (.int .i64 d),.v .nilIface]
 | .cI=>.bZ [aQ.d,.v (.int .i64 0),yG 14 0]
theorem Fa{es:List cy}(hFE:fX es){ps:List ByteArray}{most n:Nat}(hm:most≤1000000)(k m:Int)(s:ByteArray)(ls:List aP)(args:List ae)(o:rq)(hR:RN es most n (.mk k m s ls args) 0 0 o)(hz:(ae.mk k m s ls args).size+30000*most≤1000000000)(hw:Wt (eh es) ps (.mk k m s ls args) 0):
 et Tryz.prog gl 19 (Og es) [.cb 0 0,.d (ae.mk k m s ls args).d,.d (.v (.int .i64 most))] fun out ob'=>out=.ret (.d (PB o))∧ob'=Og es:=by
 have hmw:=Er (gl:=gl) hFE (ps:=ps) hm n k m s ls args 0 0 o 0 (Int.le_refl _) (Int.le_refl _) (by decide) (Nat.zero_le _) hR (by omega) hw;unfold Og;refine yk Tryz.func19 rfl Tryz.ntmps19 (rs:=[.cell 6 39,.tmp 7,.cell 8 49]) rfl rfl rfl 3 rfl ?_;refine sr ?_;refine oc (T:=fun _=>False) (bx bw ?_ (hl:=by simp only[List.length_cons,List.length_nil,Nat.reduceAdd];rfl));refine oc (T:=fun _=>False) (Qs bw ?_ (hl:=by simp only[List.length_cons,List.length_nil,Nat.reduceAdd];rfl));refine o1 (Qq ?_);refine oc (T:=fun _=>False) (Qs G6 ?_ (hl:=by simp only[List.length_cons,List.length_nil,Nat.reduceAdd];rfl));refine nx ?_;refine sr ?_;refine o1 (mv ?_);refine o1 (mv ?_);refine o1 (Ro Lf ?_);refine oc (T:=fun _=>False) (bx Lf ?_ (hl:=by simp only[List.length_cons,List.length_nil,Nat.reduceAdd];rfl));refine o1 (Qq ?_);refine nx ?_;refine Jr ?_;refine Ef Ri rfl rfl rfl rfl rfl ?_;refine Pp 7 rfl ?_;refine kp [9,8,7,6,4] ?_;refine sr ?_;refine o1 (mv ?_);refine o1 (DJ bw ?_);refine oc (aN Ov rfl rfl rfl rfl (hmw) [0,1,2,6] (bj (cr (.cons rfl .cV (bj .nil)))) rfl rfl rfl rfl (an (bo .nil)) (fun s ob' hq=>?_) (fun s ob' hq=>?_));rotate_left
 ·obtain ⟨d',p',ho',rfl,rfl⟩:=hq.pz;refine⟨_,_,_,_,_,rfl,rfl,rfl,rfl,rfl,?_⟩;refine⟨_,rfl,fun n=>?_⟩;refine F7 (HG _) [5] (.cons rfl (.cells rfl (ic.rfl _)) .nil) rfl rfl rfl rfl (.cons (.refl _) .nil) (fun U' ob' hq=>?_);obtain⟨rfl,rfl⟩:=hq;refine⟨_,_,_,_,rfl,rfl,rfl,rfl,?_⟩;refine JM rfl ?_;refine nq ⟨_,_,rfl,(dZ rfl rfl bw rfl rfl rfl rfl),⟨_,_,rfl,rfl,⟨_,_,rfl,(dZ rfl rfl G6 rfl rfl rfl rfl),rfl⟩⟩⟩ rfl (.bZ [aQ.d,.v (.int .i64 0),yG 14 0]) (by repeat (first|exact .refl _|exact .nil|refine .agg ?_|refine .bZ ?_|refine .sl ?_|refine .cons ?_ ?_)) [0,1,2] [pE (es.map (·.d)),dR,.cV (fL es)] rfl rfl rfl (by repeat (first|exact cH|refine bj ?_|refine cr ?_|refine ya ?_|refine ia ?_|refine Ft ?_)) ?_;rw[ho'];exact⟨rfl,rfl⟩
 obtain⟨ku,mu,su,lu,au,d1,p1,ho',hq1,rfl⟩:=hq.ret;cases hq1;refine⟨_,_,_,_,_,rfl,rfl,rfl,rfl,rfl,?_⟩;refine oc (T:=fun _=>False) (Qs bw ?_ (hl:=by simp only[List.length_cons,List.length_nil,Nat.reduceAdd];rfl));refine oc (dN bw ?_);refine nx ?_;refine wJ ?_;refine kp [10,9,8,7,6] ?_;refine GO ?_ (hm:=by exact mixed);refine A1 0 rfl (DJ bw ⟨_,rfl,?_⟩);refine A1 1 rfl (mv ⟨_,rfl,?_⟩);refine A1 2 rfl (QX ⟨_,rfl,?_⟩);refine A1 3 rfl (OX Lf ⟨_,rfl,?_⟩);refine A1 4 rfl (DJ FU ⟨_,rfl,?_⟩);refine A2 5 rfl (dN bw ?_);refine A1 6 rfl (Qq ⟨_,rfl,?_⟩);refine A2 7 rfl (dN G6 ?_);refine aZ ?_;refine wF ?_;refine BN ?_;refine Ki ?_;refine F7 (HF _) [5] (.cons rfl (.cells rfl (ic.rfl _)) .nil) rfl rfl rfl rfl (.cons (.refl _) .nil) (fun U' ob' hq=>?_);obtain⟨rfl,rfl⟩:=hq;refine⟨_,_,_,_,rfl,rfl,rfl,rfl,?_⟩;refine JM rfl ?_;refine nq ⟨_,_,rfl,(dZ rfl rfl bw rfl rfl rfl rfl),⟨_,_,rfl,rfl,⟨_,_,rfl,(dZ rfl rfl G6 rfl rfl rfl rfl),rfl⟩⟩⟩ rfl (.bZ [(ae.mk ku mu su lu au).d,.v (.int .i64 d1),.v .nilIface]) (by exact .refl _) ([0,1,2]) ([pE (es.map (·.d)),dR,.cV (fL es)]) rfl rfl rfl ?_ ?_
 ·repeat (first|exact cH|refine bj ?_|refine cr ?_|refine ia ?_)
 ·rw [ho'];exact⟨rfl,rfl⟩
end
section
open Go Go.Vd Go.RowKit
attribute [local irreducible] bu bA di ak bL cU
variable {g gl:Nat→List D}
theorem wR(s:ByteArray):cD Tryz.prog (uG g) 34 [.v (.string s)] (· =.bZ [(gi s).1.d,.agg [.v (.int .i64 (gi s).2.1),.v (.int .i64 (gi s).2.2)]]):=by
 refine bD Tryz.func34 Tryz.ntmps34 ?_;refine gc 14 ?_;refine cj (fun h1=>?_) (fun h1=>?_)
 ·refine kc 0 [3,2] 10 ?_;refine ed (.bZ [aQ.d,.agg [.v (.int .i64 2),.v (.int .i64 0)]]) ?_;unfold gi;rw[if_pos (by omega)]
 refine kc 11 [4,3,2] 0 ?_;obtain⟨k1,n1,s1,l1,a1,hX⟩:=ae.case (bU (s.size+1) s ⟨0,none⟩).1
 have hs:s.size≤1099511627776:=by omega
 have hle:=eu (s:=s) (s.size+1) ⟨0,none⟩ (Nat.zero_le _);refine gc 2 ?_;refine oc (aN KD rfl rfl rfl rfl (qG s hs (s.size+1) ⟨0,none⟩ (Nat.zero_le _) (by simp)) [2] (bj .nil) rfl rfl rfl rfl (an .nil) (fun s ob' hq=>?_) (fun s ob' hq=>?_));rotate_left
 ·first|exact hq.elim|cases hq.1
 obtain⟨hq1,rfl⟩:=hq;rw[hX] at hq1;cases hq1;refine⟨_,_,_,_,_,rfl,rfl,rfl,rfl,rfl,?_⟩;refine go 7 ?_;refine oc (ck Rg rfl rfl (H0 s (bU (s.size+1) s ⟨0,none⟩).2 hs hle.2) [2] rfl (bj .nil) (an .nil) ?_);refine ko 5 [6,5,3,2] 7 ?_;refine cJ (fun h6=>?_) (fun h6=>?_)
 ·refine gc 3 ?_;refine gz [0,1] mixed ?_;refine A2 2 rfl (dN bw ?_);refine A2 3 rfl (dN wu ?_);refine aZ ?_;refine ge 2 ?_;refine ed (.bZ [(ae.mk k1 n1 s1 l1 a1).d,.agg [.v (.int .i64 (bE (iA s (bU (s.size+1) s ⟨0,none⟩).2).f)),.v (.int .i64 (eG (iA s (bU (s.size+1) s ⟨0,none⟩).2).f))]]) ?_;rw[Cg (by omega) h6,hX]
 refine kc 1 [6,3,2] 0 ?_;refine gz [0,1] mixed ?_;refine A2 2 rfl (dN bw ?_);refine A2 3 rfl (dN wu ?_);refine aZ ?_;refine ge 3 ?_;refine ed (.bZ [aQ.d,.agg [.v (.int .i64 (bE (iA s (bU (s.size+1) s ⟨0,none⟩).2).f)),.v (.int .i64 (eG (iA s (bU (s.size+1) s ⟨0,none⟩).2).f))]]) ?_;rw[Ek (by omega) h6]
theorem FF:∀(n:Nat) (k m:Int) (s:ByteArray) (ls:List aP) (args:List ae) (k2 m2:Int) (s2:ByteArray) (ls2:List aP) (args2:List ae),(ae.mk k m s ls args).size≤n→(ae.mk k m s ls args).size≤1099511627776→
 cD Tryz.prog gl 40 [(ae.mk k m s ls args).d,(ae.mk k2 m2 s2 ls2 args2).d,.v (.bool false)] (· =.v (.bool (ae.same (.mk k m s ls args) (.mk k2 m2 s2 ls2 args2)))):=by
 intro n
 induction n with
 |zero=>intro k m s ls args k2 m2 s2 ls2 args2 h;simp[ae.size] at h
 |succ n ih=>
  intro k m s ls args k2 m2 s2 ls2 args2 hn hb;have hsz:aj args≤n:=by simp[ae.size] at hn;omega
  have hlen:=aO args;have hlen2:=aO args2;have hlb:=yW args;have hlenL:=bV ls;have hlenL2:=bV ls2;have hlbL:=iv ls;simp only[ae.size] at hb;refine bD Tryz.func40 Tryz.ntmps40 ?_;refine gc 16 ?_;refine' oo (yt:=21) (d:=16) 5 ?a1 ?b1 ?_
  case a1=>
   intro hc hK;refine go 5 ?_;exact hK [_,_,_,_,_] rfl rfl
  case b1=>
   intro _ hK;refine go 5 ?_;exact hK [_,_,_,_,_] rfl
  refine go 1 ?_;refine' oo (yt:=28) (d:=23) 5 ?a2 ?b2 ?_
  case a2=>
   intro hc hK;refine go 5 ?_;exact hK [_,_,_,_,_] rfl rfl
  case b2=>
   intro _ hK;refine go 5 ?_;exact hK [_,_,_,_,_] rfl
  refine go 1 ?_;refine' oo (yt:=37) (d:=30) 7 ?a3 ?b3 ?_
  case a3=>
   intro hc hK;refine go 7 ?_;exact hK [_,_,_,_,_,_,_] rfl rfl
  case b3=>
   intro _ hK;refine go 7 ?_;exact hK [_,_,_,_,_,_,_] rfl
  refine go 1 ?_;refine' oo (yt:=46) (d:=39) 7 ?a4 ?b4 ?_
  case a4=>
   intro hc hK;refine go 7 ?_;exact hK [_,_,_,_,_,_,_] rfl rfl
  case b4=>
   intro _ hK;refine go 7 ?_;exact hK [_,_,_,_,_,_,_] rfl
  refine go 2 ?_;refine cj (fun h1=>?_) (fun h1=>?_)
  ·refine kc 0 [] 7 ?_;refine ez ?_;rw[ae.jz];rcases h1 with(((h|h)|h)|h)|h
   ·simp [h]
   ·simp [h]
   ·simp [h]
   ·have:fq ls ls2=false:=by
     cases hs:fq ls ls2 with
     |false=>rfl
     |true=>exact absurd (by have:=um hs;omega) h
    simp[this]
   ·have:gP args args2=false:=by
     cases hs:gP args args2 with
     |false=>rfl
     |true=>exact absurd (by have:=ze hs;omega) h
    simp[this]
  refine kc 3 [4,3,2] 6 ?_;refine lP (ι:=Nat) (fun i=>[(7,int i)]) [4,3,2] (fun i=>i≤ls.length∧fq (ls.take i) (ls2.take i)=true) (fun i=>ls.length-i) (0) rfl ?I6 ?M6 ?H6
  case I6=>
   exact⟨Nat.zero_le _,by simp[fq]⟩
  case M6=>
   exact mz
  case H6=>
   rintro i hinv
   try dsimp only at hinv
   refine kc 0 [7,4,3,2] 10 ?_;refine cj (fun h4=>?_) (fun h4=>?_)
   ·refine kc 5 [7,4,3,2] 0 ?_;obtain⟨k',s',a',hget⟩:=dh (show i<ls.length by omega);obtain⟨k2',s2',a2',hget2⟩:=dh (show i<ls2.length by omega);have hsz':=jE hget;refine gz [0,1,2] mixed ?_;refine A1 3 rfl (cu fo fH ⟨_,rfl,?_⟩ (he:=by exact(dD hget)));refine ga [4,5,6,7] ?_;refine A1 8 rfl (cu fo fH ⟨_,rfl,?_⟩ (he:=by exact(dD hget2)));refine ga [9] ?_;refine A2 10 rfl (cv Mi rfl rfl (At _ k' s' a' k2' s2' a2' (Nat.le_refl _) (by omega)) (bo (bo .nil)) ?_);refine ga [11] ?_;refine aZ ?_;refine ke 2 [8,7,4,3,2] 5 ?_;refine' oa (yt:=69) (d:=68) 1 ?a5 ?b5 ?_
    case a5=>
     intro hc hK;refine go 1 ?_;exact hK [_] rfl rfl
    case b5=>
     intro _ hK;refine go 1 ?_;exact hK [_] rfl
    refine go 2 ?_;refine cf ?_;refine kc 2 [8,7,4,3,2] 6 ?_;refine cj (fun h9=>?_) (fun h9=>?_)
    ·refine kc 0 [] 11 ?_;refine ez ?_;rw[ae.jz];rw[pU hget hget2 h9];simp
    refine gc 5 ?_;refine o1 (cG ?_);refine go 2 ?_;refine bi (i+1) rfl ?_ mz;exact⟨⟨by omega,by rw[wI hget hget2];simp[hinv.2,h9]⟩,by omega⟩
   refine kc 7 [4,3,2] 0 ?_;have hL:=hinv.2;rw[List.take_of_length_le (by omega),List.take_of_length_le (by omega)] at hL;refine gc 5 ?_;refine lP (ι:=Nat) (fun j=>[(9,int j)]) [4,3,2] (fun j=>j≤args.length∧gP (args.take j) (args2.take j)=true) (fun j=>args.length-j) (0) rfl ?I7 ?M7 ?H7
   case I7=>
    exact⟨Nat.zero_le _,by simp[gP]⟩
   case M7=>
    exact mz
   case H7=>
    rintro j hinv
    try dsimp only at hinv
    refine kc 0 [9,4,3,2] 10 ?_;refine cJ (fun h12=>?_) (fun h12=>?_)
    ·refine kc 5 [] 6 ?_;refine ez ?_;rw[ae.jz];have h9:=hinv.2;rw[List.take_of_length_le (by omega),List.take_of_length_le (by omega)] at h9;simp[h9,h1,hL]
    refine kc 5 [9,4,3,2] 0 ?_;obtain⟨k',n',s',l',a',hget⟩:=bK (show j<args.length by omega);obtain⟨k2',n2',s2',l2',a2',hget2⟩:=bK (show j<args2.length by omega);have hsz':=bG hget;refine gz [0,1,2] mixed ?_;refine A1 3 rfl (cu bB bH ⟨_,rfl,?_⟩ (he:=by exact(bW hget)));refine ga [4,5,6,7] ?_;refine A1 8 rfl (cu bB bH ⟨_,rfl,?_⟩ (he:=by exact(bW hget2)));refine ga [9,10] ?_;refine A2 11 rfl (cv Mn rfl rfl (ih k' n' s' l' a' k2' n2' s2' l2' a2' (by omega) (by omega)) (bo (bo (an .nil))) ?_);refine ga [12] ?_;refine aZ ?_;refine ke 1 [10,9,4,3,2] 6 ?_;refine cj (fun h15=>?_) (fun h15=>?_)
    ·refine kc 0 [] 11 ?_;refine ez ?_;rw[ae.jz];rw[vh hget hget2 h15];simp
    refine gc 5 ?_;refine o1 (cG ?_);refine go 2 ?_;refine bi (j+1) rfl ?_ ?_
    ·exact ⟨⟨by omega,by rw[D8 hget hget2];simp[hinv.2,h15]⟩,by omega⟩
    ·exact mz
theorem yo(k m:Int)(s:ByteArray)(ls:List aP)(args:List ae)(k2 m2:Int)(s2:ByteArray)(ls2:List aP)(args2:List ae)(hb:(ae.mk k m s ls args).size≤1099511627776):
 cD Tryz.prog gl 18 [(ae.mk k m s ls args).d,(ae.mk k2 m2 s2 ls2 args2).d] (· =.v (.bool (ae.same (.mk k m s ls args) (.mk k2 m2 s2 ls2 args2)))):=by
 refine bD Tryz.func18 Tryz.ntmps18 ?_;refine gc 11 ?_;refine oc (cv Mn rfl rfl (FF _ k m s ls args k2 m2 s2 ls2 args2 (Nat.le_refl _) hb) (bo (bo (an .nil))) ?_);refine go 4 ?_;refine ez ?_;rfl
end
section
open Go Go.Vd Go.RowKit
attribute [local irreducible] bu bA di ak bL cU
variable {g gl:Nat→List D}
theorem Hj{bs:List ae}{j:Nat}{a t:ae}(h:bs[j]? =some a):rj (bs.drop j) t=.mk 5 0 .empty [] [a,rj (bs.drop (j+1)) t]:=by
 rw[drop_cons h];rfl
theorem jJ(x:RD)(m mot:Int)(bs:List ae)(k n:Int)(s:ByteArray)(ls:List aP)(args:List ae)(fr:Nat)(hfr:fr≤bs.length)(h0:0<bs.length)(hb:bs.length≤1099511627776):
 et Tryz.prog gl 176 [fJ x m bs.length mot,fp bs] [.cb 0 0,.d (ae.mk k n s ls args).d,.d (.v (.int .i64 fr))] fun out ob'=>out=.ret (.d (rj (bs.drop fr) (.mk k n s ls args)).d)∧ob'=[fJ x m fr mot,fp (bs.take fr)]:=by
 have hbl:=aO bs;obtain⟨kR,mR,sR,lR,aR,hR⟩:=ae.case (rj (bs.drop fr) (.mk k n s ls args))
 rw[hR];refine bS Tryz.func176 Tryz.ntmps176 2 ?_;refine gc 13 ?_;refine o1 (gI bB rfl rfl ?_);refine o1 (iC ?_);refine ko 4 [7,6,4,0,2] 0 ?_;refine lp (ι:=Nat×Int×Int×ByteArray×List aP×List ae) (fun⟨j,k',m',s',l',a'⟩=>[(7,int ((j:Int)-1))]) (fun⟨j,k',m',s',l',a'⟩=>[fJ x m bs.length mot,fp bs,tO k' m' s' l' a',zO]) [6,4,0,2] (fun⟨j,k',m',s',l',a'⟩=>fr≤j∧j≤bs.length∧rj (bs.drop j) (.mk k n s ls args)=.mk k' m' s' l' a') (fun⟨j,k',m',s',l',a'⟩=>j) ((bs.length,k,n,s,ls,args)) ([0,1,2,3]) rfl ?I1 ?M1 ?H1
 case I1=>
  exact⟨hfr,Nat.le_refl _,by rw[List.drop_length];rfl⟩
 case M1=>
  exact mz
 case H1=>
  rintro⟨j,k',m',s',l',a'⟩ hinv
  try dsimp only at hinv
  obtain⟨i1,i2,i3⟩:=hinv;refine kc 0 [7,6,4,0,2] 8 ?_;refine cJ (fun h2=>?_) (fun h2=>?_)
  ·refine kc 6 [6,4,0,2] 0 ?_;obtain rfl:j=fr:=(by omega);rw[i3] at hR;cases hR;refine gc 7 ?_;refine oc (tz bB bH rfl rfl rfl rfl rfl rfl rfl rfl (by omega) (by omega) rfl rfl rfl ?_);refine ko 5 [6,4] 7 ?_;refine fR ?_;rw[gr];refine nq ⟨_,_,rfl,(dZ rfl rfl bw rfl rfl rfl rfl),rfl⟩ rfl ((ae.mk kR mR sR lR aR).d) (by exact .refl _) ([0,1]) ([fJ x m j mot,fp (bs.take j)]) rfl rfl rfl ?_ ?_
   ·repeat (first|exact cH|refine bj ?_|refine ya ?_)
   ·exact ⟨rfl,rfl⟩
  refine gc 4 ?_;obtain⟨jj,rfl⟩:∃jj,j=jj+1:=⟨j-1,by omega⟩;obtain⟨k2,m2,s2,l2,a2,hget⟩:=bK (show jj<bs.length by omega);have hej:(aH bs)[(((jj+1:Nat):Int)-1).toNat]? =some [D.v (.int .i64 k2),.v (.int .i64 m2),.v (.string s2),.sl 3 (bF l2),.sl 5 (aH a2)]:=by
   rw[show(((jj+1:Nat):Int)-1).toNat=((jj:Nat):Int).toNat by omega];exact bW hget
  refine gz [0,1,2,3,4] mixed ?_;refine A1 5 rfl (dL bB bH rfl rfl rfl rfl rfl rfl (by omega) ⟨_,rfl,?_⟩);refine ga [7] ?_;refine A2 (T:=fun _=>False) 6 rfl (lk bw rfl rfl rfl rfl rfl rfl rfl rfl rfl (hej) ?_);refine A2 8 rfl (cv Mj rfl rfl (tD k2 m2 s2 l2 a2 k' m' s' l' a') (an (bo .nil)) ?_);refine A2 9 rfl (dN bw ?_);refine aZ ?_;refine ke 2 [7,6,4,0,2] 2 ?_;refine o1 (iC ?_);refine go 2 ?_;refine bk ((jj,5,0,.empty,[],[.mk k2 m2 s2 l2 a2,.mk k' m' s' l' a'])) rfl ?_ ([0,1,2,3]) ?_
  ·exact ⟨⟨by omega,by omega,by rw[Hj hget,i3]⟩,Nat.lt_succ_self jj⟩
  ·refine mo ?_ (ef rfl (by exact Fit.of_eq (by rw[show(((jj+1:Nat):Int)-1-1)=((jj:Nat):Int)-1 by omega];rfl)) (aJ (aJ (aJ (aJ dC)))))
   repeat (first|exact cH|refine bj ?_|refine ya ?_)
theorem Bf(l:List Int)(n:Int)(hb:l.length≤1099511627776):cD Tryz.prog gl 180 [.sl 1 (ints l),.v (.int .i64 n)] (· =.sl 1 (ints (l++[n]))):=by
 have hlen:=gH l;refine bD Tryz.func180 Tryz.ntmps180 ?_;refine gc 14 ?_;refine oc (T:=fun _=>False) (iL vc rfl rfl rfl rfl rfl rfl (by simp only[List.length_cons,List.length_nil,Nat.reduceAdd];rfl) rfl rfl (by decide) (by first|decide|(simp only[maxLen,List.length_cons,List.length_nil,List.length_append,List.length_map];omega)|omega) rfl rfl rfl ?_);refine ko 3 [5,1] 4 ?_;refine oc (gD vc [.tmp 10] FU ?_);refine oc (px vc ?_);refine go 4 ?_;refine ez ?_;rw[← xD]
def lj(ps:List ByteArray):List aP:=ps.map fun p=>.mk 4 p []
theorem zV:∀l:List D,mH l l
 |[]=>.nil
 |a::r=>.cons (.refl a) (zV r)
theorem pe{e e':List D}(h:mH e e'):∀l:List (List D),nF (l++[e]) (l++[e'])
 |[]=>.cons h .nil
 |a::r=>.cons (zV a) (pe h r)
theorem JD(ps:List ByteArray)(hb:ps.length≤1099511627776):cD Tryz.prog gl 181 [eA ps] (· =.sl 3 (bF (lj ps))):=by
 have hlen:=cQ ps;refine bD Tryz.func181 Tryz.ntmps181 ?_;refine kc 17 [4,3,0] 0 ?_;refine bz 121 3 rfl ?_;refine lp (ι:=Nat) (fun i=>[(4,int i),(3,.own 0 3 (bF (lj (ps.take i))))]) (fun i=>[.row 121 3]) [0] (fun i=>i≤ps.length) (fun i=>ps.length-i) (0) ([0]) rfl ?I2 ?M2 ?H2
 case I2=>
  exact Nat.zero_le _
 case M2=>
  refine mo ?_ (aJ (ef rfl (by exact Fit.nil rfl) (aJ dC)))
  repeat (first|exact cH|refine qx ?_)
 case H2=>
  rintro i hinv
  try dsimp only at hinv
  refine kc 0 [4,3,0] 9 ?_;refine cJ (fun h3=>?_) (fun h3=>?_)
  ·refine kc 5 [3] 7 ?_;refine ez ?_;rw[List.take_of_length_le (by omega)]
  refine kc 4 [4,3,0] 0 ?_;have hnx:bF (lj (ps.take i))++[[D.v (.int .i64 4),.v (.string (ps[i]'(by omega))),.sl 3 []]]=bF (lj (ps.take (i+1))):=(by
   rw[List.take_add_one,List.getElem?_eq_getElem (show i<ps.length by omega)];simp only[lj,List.map_append,Option.toList_some,List.map_cons,List.map_nil,bF,aP.cells,qb])
  have hfo:∀ob,Fit ob (SV.own 0 3 (bF (lj (ps.take i))++[[D.v (.int .i64 4),.v (.string (ps[i]'(by omega))),.v (.slice none 0 0)]])) (SV.own 0 3 (bF (lj (ps.take (i+1))))):=fun ob=>by rw[← hnx];exact Fit.own (pe (.cons (.refl _) (.cons (.refl _) (.cons .nil .nil))) _)
  have hll:=bV (lj (ps.take i));have hol:(lj (ps.take i)).length=i:=(by simp[lj];omega);refine gc 4 ?_;refine o1 (cu pN ue ?_ (he:=by exact(kj (by omega))));refine go 2 ?_;refine oc (gD ji [.tmp 16] eL ?_);refine oc (px ji ?_);refine ko 4 [3,4,0] 2 ?_;refine o1 (cG ?_);refine go 2 ?_;refine bk (i+1) rfl ?_ ([0]) ?_
  ·exact ⟨by omega,by omega⟩
  ·refine mo ?_ (aJ (ef rfl (by exact hfo _) (aJ dC)))
   repeat (first|exact cH|refine cr ?_)
def yw(nm:ByteArray)(ps:List ByteArray):ae:=.mk 2 0 nm (lj ps) []
theorem jC(x:RD)(m mot:Int)(bs:List ae)(nm:ByteArray)(hp:x.pd.length≤1099511627776):
 et Tryz.prog gl 174 [fJ x m bs.length mot,fp bs] [.cb 0 0,.d (.v (.string nm))] fun out ob'=>out=.ret (.d (yw nm x.pd).d)∧ob'=[fJ x m bs.length mot,fp bs]:=by
 refine bS Tryz.func174 Tryz.ntmps174 2 ?_;refine gc 13 ?_;refine oc (cv P0 rfl rfl (JD x.pd hp) (an .nil) ?_);refine go 5 ?_;refine eo ((yw nm x.pd).d) [0,1] [fJ x m bs.length mot,fp bs] ?_
 ·exact ⟨rfl,rfl⟩
theorem G0{n:Int}{pl:List Int}{i:Nat}(h:i<pl.length)(f:ae):bt f (vars n (pl.take (i+1)))=.mk 3 0 .empty [] [bt f (vars n (pl.take i)),vr (n-1-pl[i])]:=by
 rw[List.take_add_one,List.getElem?_eq_getElem h];simp only[vars,List.map_append,Option.toList_some,List.map_cons,List.map_nil,iq]
theorem gN(x:RD)(m mot:Int)(bs:List ae)(k n:Int)(s:ByteArray)(ls:List aP)(args:List ae)(pl:List Int)(hp:∀p∈pl,0≤p∧p<bs.length)(hb:bs.length≤1099511627776)(hl:pl.length≤1099511627776):
 et Tryz.prog gl 173 [fJ x m bs.length mot,fp bs] [.cb 0 0,.d (ae.mk k n s ls args).d,.d (.sl 1 (ints pl))] fun out ob'=>out=.ret (.d (bt (.mk k n s ls args) (vars bs.length pl)).d)∧ob'=[fJ x m bs.length mot,fp bs]:=by
 have hil:=gH pl;obtain⟨kR,mR,sR,lR,aR,hR⟩:=ae.case (bt (.mk k n s ls args) (vars bs.length pl))
 rw[hR];refine bS Tryz.func173 Tryz.ntmps173 2 ?_;refine kc 13 [7,6,4,0,2] 0 ?_;refine lp (ι:=Nat×Int×Int×ByteArray×List aP×List ae) (fun⟨i,k',m',s',l',a'⟩=>[(7,int i)]) (fun⟨i,k',m',s',l',a'⟩=>[fJ x m bs.length mot,fp bs,tO k' m' s' l' a',zO]) [6,4,0,2] (fun⟨i,k',m',s',l',a'⟩=>i≤pl.length∧bt (.mk k n s ls args) (vars bs.length (pl.take i))=.mk k' m' s' l' a') (fun⟨i,k',m',s',l',a'⟩=>pl.length-i) ((0,k,n,s,ls,args)) ([0,1,2,3]) rfl ?I3 ?M3 ?H3
 case I3=>
  exact⟨Nat.zero_le _,rfl⟩
 case M3=>
  exact mz
 case H3=>
  rintro⟨i,k',m',s',l',a'⟩ hinv
  try dsimp only at hinv
  obtain⟨i1,i2⟩:=hinv;refine kc 0 [7,6,4,0,2] 9 ?_;refine cJ (fun h2=>?_) (fun h2=>?_)
  ·refine kc 6 [6,4] 0 ?_;rw[List.take_of_length_le (by omega)] at i2;rw[i2] at hR;cases hR;refine gc 6 ?_;refine eo ((ae.mk kR mR sR lR aR).d) [0,1] [fJ x m bs.length mot,fp bs] ?_
   ·exact ⟨rfl,rfl⟩
  refine kc 4 [7,6,4,0,2] 0 ?_;have hpi:=hp _ (List.getElem_mem (show i<pl.length by omega));have hat:=nC (gl:=gl) x m mot bs (pl[i]'(by omega)) hb (by omega);have hap:=dt (gl:=gl) k' m' s' l' a' 0 (bs.length-1-pl[i]'(by omega)) .empty [] [];refine gz [0,1,2,3] mixed ?_;refine A1 4 rfl (cu j9 mN ⟨_,rfl,?_⟩ (he:=by exact(sj (by omega))));refine ga [5] ?_;refine A2 6 rfl (ck vC rfl rfl (hat) [0,1] rfl (bj (.cons rfl .buf .nil)) (an (an .nil)) ?_);refine A2 7 rfl (cv pt rfl rfl (hap) (bo (an .nil)) ?_);refine A2 8 rfl (dN bw ?_);refine aZ ?_;refine ke 2 [7,6,4,0,2] 2 ?_;refine o1 (cG ?_);refine go 2 ?_;refine bk (i+1,3,0,.empty,[],[.mk k' m' s' l' a',vr (bs.length-1-pl[i]'(by omega))]) rfl ?_ [0,1,2,3] mz;exact⟨⟨by omega,by rw[G0 (by omega),i2]⟩,show pl.length-(i+1)<pl.length-i by omega⟩
theorem oW{sg:Sg}{ps:List ByteArray}(x:RD)(m mot:Int)(bs:List ae)(k n:Int)(s:ByteArray)(ls:List aP)(args:List ae)(pl:List Int)(hp:∀p∈pl,0≤p∧p<bs.length)(hb:bs.length≤1000000000)(hl:pl.length≤1000000000)(hw:Wt sg ps (.mk k n s ls args) pl.length)(hz:(ae.mk k n s ls args).size≤1000000000):
 et Tryz.prog gl 179 [fJ x m bs.length mot,fp bs] [.cb 0 0,.d (ae.mk k n s ls args).d,.d (.sl 1 (ints pl))] fun out ob'=>out=.ret (.d (AM bs.length pl (.mk k n s ls args)).d)∧ob'=[fJ x m bs.length mot,fp bs]:=by
 have hil:=gH pl;obtain⟨kR,mR,sR,lR,aR,hR⟩:=ae.case (AM bs.length pl (.mk k n s ls args))
 have hR2:=hR;unfold AM at hR2;rw[hR];refine bS Tryz.func179 Tryz.ntmps179 2 ?_;refine gc 11 ?_;refine o1 (iC ?_);refine ko 4 [7,6,4,0,2] 0 ?_;refine lp (ι:=Nat×Int×Int×ByteArray×List aP×List ae) (fun⟨j,k',m',s',l',a'⟩=>[(7,int ((j:Int)-1))]) (fun⟨j,k',m',s',l',a'⟩=>[fJ x m bs.length mot,fp bs,tO k' m' s' l' a',zO]) [6,4,0,2] (fun⟨j,k',m',s',l',a'⟩=>j≤pl.length∧gp (vars bs.length pl) j (.mk k' m' s' l' a')=.mk kR mR sR lR aR∧Wt sg ps (.mk k' m' s' l' a') (bs.length+j)∧(ae.mk k' m' s' l' a').size≤(ae.mk k n s ls args).size) (fun⟨j,k',m',s',l',a'⟩=>j) ((pl.length,k,n,s,ls,args)) ([0,1,2,3]) rfl ?I4 ?M4 ?H4
 case I4=>
  exact⟨Nat.le_refl _,hR2,hw.up (by omega),Nat.le_refl _⟩
 case M4=>
  refine mo ?_ (ef rfl (by exact Fit.of_eq (by rw[hil];rfl)) (aJ (aJ (aJ (aJ dC)))))
  repeat (first|exact cH|refine bj ?_|refine ya ?_)
 case H4=>
  rintro⟨j,k',m',s',l',a'⟩ hinv
  try dsimp only at hinv
  obtain⟨i1,i2,i3,i4⟩:=hinv;refine kc 0 [7,6,4,0,2] 7 ?_;refine cJ (fun h2=>?_) (fun h2=>?_)
  ·refine kc 6 [6,4] 0 ?_;obtain rfl:j=0:=(by omega);rw[gp] at i2;cases i2;refine gc 6 ?_;refine eo ((ae.mk kR mR sR lR aR).d) [0,1] [fJ x m bs.length mot,fp bs] ?_
   ·exact ⟨rfl,rfl⟩
  refine gc 4 ?_;obtain⟨jj,rfl⟩:∃jj,j=jj+1:=⟨j-1,by omega⟩;have hpi:=hp _ (List.getElem_mem (show jj<pl.length by omega));have hat:=nC (gl:=gl) x m mot bs (pl[jj]'(by omega)) (by omega) (by omega);have hli:=ik (gl:=gl) (n0:=((jj+1:Nat):Int)-1) (B:=4398046511104) (by omega) (by omega) 1 0 (bs.length-1-pl[jj]'(by omega)) .empty [] [] 0 (Nat.le_refl _) ⟨fun l hl=>(by cases hl),trivial,.inl ⟨rfl,⟨by omega,by omega⟩,rfl,rfl,rfl⟩⟩ (Int.le_refl _) (by simp only[ae.size,bh,aj];omega);have hlv:=AP ((bs.length:Int)-1-pl[jj]'(by omega)) (((jj+1:Nat):Int)-1) (by omega);rw[dY] at hlv;unfold vr at hlv;rw[hlv] at hli;obtain⟨k3,m3,s3,l3,a3,hX⟩:=ae.case (dp (.mk k' m' s' l' a') (vr ((bs.length:Int)-1-pl[jj]'(by omega)+(((jj+1:Nat):Int)-1))))
  have hsu:=qe (gl:=gl) (B:=4398046511104) (by omega) 0 ((bs.length:Int)-1-pl[jj]'(by omega)+(((jj+1:Nat):Int)-1)) .empty [] [] ⟨fun l hl=>(by cases hl),trivial,.inl ⟨rfl,⟨by omega,by omega⟩,rfl,rfl,rfl⟩⟩ (by simp only[ae.size,bh,aj];omega) k' m' s' l' a' (i3.sh (by omega)) (by omega);unfold vr at hX;rw[hX] at hsu;refine gz [0,1,2,3] mixed ?_;refine A1 4 rfl (cu j9 mN ⟨_,rfl,?_⟩ (he:=by rw[show(((jj+1:Nat):Int)-1).toNat=((jj:Nat):Int).toNat by omega];exact sj (by omega)));refine ga [5,7] ?_;refine A2 6 rfl (ck vC rfl rfl (hat) [0,1] rfl (bj (.cons rfl .buf .nil)) (an (an .nil)) ?_);refine A2 8 rfl (cv Ds rfl rfl (hli) (an (an (an .nil))) ?_);refine A2 9 rfl (cv Ot rfl rfl (hsu) (bo (an .nil)) ?_);refine A2 10 rfl (dN bw ?_);refine aZ ?_;refine ke 2 [7,6,4,0,2] 2 ?_;refine o1 (iC ?_);refine go 2 ?_;refine bk ((jj,k3,m3,s3,l3,a3)) rfl ?_ ([0,1,2,3]) ?_
  ·refine ⟨⟨by omega,?_,?_,?_⟩,Nat.lt_succ_self jj⟩
   ·rw [← hX,←i2,gp,Bv (by omega),AP _ _ (by omega),show(((jj+1:Nat):Int)-1)=(jj:Int) by omega];rfl
   ·rw [← hX];exact Wt.sub (by omega) (by rw[show(bs.length:Int)+jj+1=bs.length+((jj+1:Nat):Int) by omega];exact i3) (Wt.var (by omega) (by omega))
   ·rw [← hX];refine Nat.le_trans ?_ i4;exact oN (v:=vr _) (by simp[vr,ae.size,bh,aj]) _ 0
  ·refine mo ?_ (ef rfl (by exact Fit.of_eq (by rw[show(((jj+1:Nat):Int)-1-1)=((jj:Nat):Int)-1 by omega];rfl)) (aJ (aJ (aJ (aJ dC)))))
   repeat (first|exact cH|refine bj ?_|refine ya ?_)
end
section
open Go Go.Vd Go.RowKit
attribute [local irreducible] bu bA di ak bL cU
variable {g gl:Nat→List D}
def jW(pl:List Int)(n:Nat):Prop:= ∀p∈pl,0≤p∧p<n
variable {pl:List Int} {n:Nat}
theorem jW.up{m:Nat}(h:jW pl n)(hm:n≤m):jW pl m:=fun p hp=>⟨(h p hp).1,by have:=(h p hp).2;omega⟩
theorem jW.snoc{p:Int}(h:jW pl n)(hp:0≤p∧p<n):jW (pl++[p]) n:=by
 intro q hq;rcases List.mem_append.1 hq with hq|hq
 ·exact h q hq
 ·simp only[List.mem_singleton] at hq;subst hq;exact hp
theorem jW.take{pl:List Int}{n:Nat}(h:jW pl n)(i:Nat):jW (pl.take i) n:=fun p hp=>h p (List.mem_of_mem_take hp)
theorem jW.drop{pl:List Int}{n:Nat}(h:jW pl n)(i:Nat):jW (pl.drop i) n:=fun p hp=>h p (List.mem_of_mem_drop hp)
def OU(sg:Sg)(ps:List ByteArray)(x:RD)(m mot:Int)(bs:List ae)(t:ae)(pl:List Int)(n:Nat)(out:Out)(ob':List Ob):Prop:=
 ∃(u:ae) (ql:List Int) (ys:List ae),out=.ret (.d (.bZ [u.d,.sl 1 (ints ql)]))∧ob'=[fJ x m ys.length mot,fp ys]∧jW ql ys.length∧DK sg ps ys∧Wt sg ps u ql.length∧(∃ pl',ql=pl++pl'∧pl'.length=n)∧∃xs,ys=bs++xs∧xs.length=n∧aj xs+n+u.size≤t.size∧bg u+n=bg t
variable {sg:Sg} {ps:List ByteArray}
theorem lS(x:RD)(m mot:Int)(bs:List ae)(k n:Int)(s:ByteArray)(ls:List aP)(args:List ae)(pl:List Int)(N:Nat)(hp:jW pl bs.length)(hT:DK sg ps bs)(hb:bs.length+N≤1000000000)(hl:pl.length+N≤1000000000)(hw:Wt sg ps (.mk k n s ls args) pl.length)(hz:(ae.mk k n s ls args).size≤1000000000)(hN:N≤bg (.mk k n s ls args)):
 et Tryz.prog gl 172 [fJ x m bs.length mot,fp bs] [.cb 0 0,.d (ae.mk k n s ls args).d,.d (.sl 1 (ints pl)),.d (.v (.int .i64 N))] (OU sg ps x m mot bs (.mk k n s ls args) pl N):=by
 refine bS Tryz.func172 Tryz.ntmps172 2 ?_;refine kc 14 [10,8,5,0,2,3] 0 ?_;refine lp (ι:=Nat×(Int×Int×ByteArray×List aP×List ae)×List Int×List ae) (fun⟨i,⟨k',m',s',l',a'⟩,ql,ys⟩=>[(10,int i),(2,.d (.sl 1 (ints ql)))]) (fun⟨i,⟨k',m',s',l',a'⟩,ql,ys⟩=>[fJ x m ys.length mot,fp ys,tO k' m' s' l' a',zO]) [8,5,0,3] (fun⟨i,⟨k',m',s',l',a'⟩,ql,ys⟩=>i≤N∧jW ql ys.length∧DK sg ps ys∧Wt sg ps (.mk k' m' s' l' a') ql.length∧(∃ pl',ql=pl++pl'∧pl'.length=i)∧(∃ xs,ys=bs++xs∧xs.length=i∧aj xs+i+(ae.mk k' m' s' l' a').size≤(ae.mk k n s ls args).size)∧bg (.mk k' m' s' l' a')+i=bg (.mk k n s ls args)) (fun⟨i,⟨k',m',s',l',a'⟩,ql,ys⟩=>N-i) ((0,⟨k,n,s,ls,args⟩,pl,bs)) ([0,1,2,3]) rfl ?I1 ?M1 ?H1
 case I1=>
  exact⟨Nat.zero_le _,hp,hT,hw,⟨[],by simp⟩,⟨[],by simp[aj]⟩,rfl⟩
 case M1=>
  exact mz
 case H1=>
  rintro⟨i,⟨k',m',s',l',a'⟩,ql,ys⟩ hinv
  try dsimp only at hinv
  obtain⟨i1,i2,i3,i4,⟨pl',i5,i6⟩,⟨xs,i7,i8,i9⟩,i10⟩:=hinv;refine kc 0 [10,2,8,5,0,3] 8 ?_;refine cJ (fun h2=>?_) (fun h2=>?_)
  ·refine kc 5 [2,8,5] 9 ?_;refine eo (.bZ [(ae.mk k' m' s' l' a').d,.sl 1 (ints ql)]) [0,1] [fJ x m ys.length mot,fp ys] ?_
   ·obtain rfl:i=N:=(by omega);exact⟨_,ql,ys,rfl,rfl,i2,i3,i4,⟨pl',i5,i6⟩,xs,i7,i8,i9,i10⟩
  refine gc 5 ?_;have hyl:ys.length=bs.length+i:=(by rw[i7,List.length_append,i8]);have hql:ql.length=pl.length+i:=(by rw[i5,List.length_append,i6]);obtain⟨rfl,⟨k1,m1,s1,l1,a1⟩,⟨k2,m2,s2,l2,a2⟩,rfl,hpis⟩:=kS (show 0<bg (.mk k' m' s' l' a') by omega);obtain⟨_,_,hab,_,_,_,hWA,hWB⟩:=i4.two (.inr (.inr rfl));cases hab;rw[if_neg (by decide)] at hWB;have hzA:(ae.mk k1 m1 s1 l1 a1).size≤1000000000:=(by simp only[ae.size,bh,aj] at i9 hz ⊢;omega);have hM:=vW (n:=(ys.length:Int)) (by omega) i2 hWA;have hmv:=oW (gl:=gl) x m mot ys k1 m1 s1 l1 a1 ql i2 (by omega) (by omega) hWA hzA;obtain⟨kM,mM,sM,lM,aM,hMe⟩:=ae.case (AM ys.length ql (.mk k1 m1 s1 l1 a1))
  rw[hMe] at hM hmv;refine gc 4 ?_;refine o1 (cu bB bH ?_ (he:=by exact(rfl)));refine go 2 ?_;refine oc (ck GD rfl rfl (hmv) [0,1] rfl (bj (.cons rfl .buf .nil)) (an (bo (an .nil))) ?_);refine ko 4 [11,10,2,8,5,0,3] 7 ?_;refine o1 (gI bB rfl rfl ?_);refine oc (cv P1 rfl rfl (Bf ql ys.length (by omega)) (an (an .nil)) ?_);refine ko 3 [2,11,10,8,5,0,3] 4 ?_;refine oc (ck tQ rfl rfl (iH x m mot ys kM mM sM lM aM (by omega)) [0,1] rfl (bj (.cons rfl .buf .nil)) (an (bo .nil)) ?_);refine ko 2 [2,10,8,5,0,3] 3 ?_;refine o1 (cu bB bH ?_ (he:=by exact(rfl)));refine ko 5 [2,10,8,5,0,3] 2 ?_;refine o1 (cG ?_);refine go 2 ?_;refine bk (i+1,⟨k2,m2,s2,l2,a2⟩,ql++[(ys.length:Int)],ys++[.mk kM mM sM lM aM]) rfl ?_ [0,1,2,3] mz
  ·refine ⟨⟨by omega,?_,?_,?_,⟨pl'++[(ys.length:Int)],?_,?_⟩,⟨xs++[.mk kM mM sM lM aM],?_,?_,?_⟩,by omega⟩,show N-(i+1)<N-i by omega⟩
   ·exact (i2.up (by simp)).snoc ⟨by omega,by simp;omega⟩
   ·exact i3.app hM.1
   ·rw [List.length_append];exact hWB.up (by simp)
   ·rw [i5,List.append_assoc]
   ·rw [List.length_append,i6];rfl
   ·rw [i7,List.append_assoc]
   ·rw [List.length_append,i8];rfl
   ·rw [dF];have h9:=hM.2;simp only[ae.size,bh,aj] at i9 h9 ⊢;omega
theorem xC(l:List Int)(i:Nat):(ints l).drop ((i:Nat):Int).toNat=ints (l.drop i):=by simp[ints,List.map_drop]
theorem o4(l:List Int)(i:Nat):(ints l).take ((i:Nat):Int).toNat=ints (l.take i):=by simp[ints,List.map_take]
theorem lZ(a b:ae):(ae.mk 3 0 .empty [] [a,b]).size=1+a.size+b.size:=by simp only[ae.size,bh,aj];omega
theorem ui(t:ae):1≤t.size:=by obtain⟨k,m,s,ls,args⟩:=t;simp only[ae.size];omega
theorem FP(n:Int):(vr n).size=1:=rfl
def K2(sg:Sg)(ps:List ByteArray)(x:RD)(m mot:Int)(bs:List ae)(B:Nat)(out:Out)(ob':List Ob):Prop:=
 ∃(h:ae),out=.ret (.d h.d)∧ob'=[fJ x m bs.length mot,fp bs]∧Wt sg ps h bs.length∧h.size≤B
set_option maxHeartbeats 800000 in
theorem og(x:RD)(m:Int)(mot p:Nat)(hx:x.ad=p)(bs:List ae)(k n:Int)(s:ByteArray)(ls:List aP)(args:List ae)(pl:List Int)(p0:Int)(hp:jW pl bs.length)(hp0:0≤p0∧p0<bs.length)(hmot:mot<bs.length)(hT:DK sg ps bs)(hb:bs.length+10000000≤1000000000)(hl:pl.length+10000000≤1000000000)(hw:Wt sg ps (.mk k n s ls args) pl.length)(hz:(ae.mk k n s ls args).size≤10000000):
 et Tryz.prog gl 182 [fJ x m bs.length mot,fp bs] [.cb 0 0,.d (ae.mk k n s ls args).d,.d (.sl 1 (ints pl)),.d (.v (.int .i64 p0))] (K2 sg ps x m mot bs (3*(ae.mk k n s ls args).size+3)):=by
 have hpl:=dT _ (.mk k n s ls args) (Nat.le_refl _);have hpi:=iK (gl:=gl) (B:=4398046511104) k n s ls args (hw.sh (by omega)) (by omega);have hbo:=lS (gl:=gl) x m mot bs k n s ls args pl (bg (.mk k n s ls args)) hp hT (by omega) (by omega) hw (by omega) (Nat.le_refl _);have hil:=gH pl;refine bS Tryz.func182 Tryz.ntmps182 2 ?_;refine gc 12 ?_;refine o1 (gI bB rfl rfl ?_);refine ko 3 [9,8,5,0,2,3] 3 ?_;refine oc (cv rF rfl rfl (hpi) (bo .nil) ?_);refine go 9 ?_;refine oc (aN Ac rfl rfl rfl rfl (hbo) [0,1] (bj (.cons rfl .buf .nil)) rfl rfl rfl rfl (an (bo (an (an .nil)))) (fun s ob' hq=>?_) (fun s ob' hq=>?_));rotate_left
 ·obtain ⟨_,_,_,hq1,_⟩:=hq;cases hq1
 obtain⟨⟨ku,mu,su,lu,au⟩,ql,ys,hq1,rfl,g1,g2,g3,⟨pl',g4,g5⟩,xs,g6,g7,g8,_⟩:=hq;cases hq1;have hyl:ys.length=bs.length+bg (.mk k n s ls args):=by rw[g6,List.length_append,g7]
 have hql:ql.length=pl.length+bg (.mk k n s ls args):=by rw[g4,List.length_append,g5]
 have hqi:=gH ql;obtain⟨w1,w2,w3,w4⟩:=Wt.spine _ (Nat.le_refl _) g3;have hsp:=eY (gl:=gl) ku mu su lu au w1 (by omega);have hss:=dQ _ (ae.mk ku mu su lu au) (Nat.le_refl _);obtain⟨kh,mh,sh',lh,ah,hH⟩:=ae.case (bf (.mk ku mu su lu au)).1
 rw[hH] at hsp;generalize hAs:(bf (.mk ku mu su lu au)).2=as' at hsp hss w3;have hal:=aO as';have hal2:=br as';refine⟨_,_,_,_,_,rfl,rfl,rfl,rfl,rfl,?_⟩;refine ko 8 [12,11,9,8,0,2,3] 3 ?_;refine oc (cv yM rfl rfl (hsp) (bo .nil) ?_);refine ko 8 [14,12,9,8,0,2,3] 7 ?_;refine oc (ck vC rfl rfl (nC x m mot ys mot (by omega) (by omega)) [0,1] rfl (bj (.cons rfl .buf .nil)) (an (an .nil)) ?_);refine ko 16 [16,15,14,12,9,8,0,2,3] 0 ?_;refine lp (ι:=Nat×(Int×Int×ByteArray×List aP×List ae)) (fun⟨i,⟨k',m',s',l',a'⟩⟩=>[(16,int i)]) (fun⟨i,⟨k',m',s',l',a'⟩⟩=>[fJ x m ys.length mot,fp ys,tO k n s ls args,zO,tO ku mu su lu au,tO kh mh sh' lh ah,tO k' m' s' l' a']) [15,14,12,9,8,0,2,3] (fun⟨i,⟨k',m',s',l',a'⟩⟩=>Wt sg ps (.mk k' m' s' l' a') ys.length∧(ae.mk k' m' s' l' a').size≤1+2*aj (as'.take i)) (fun⟨i,⟨k',m',s',l',a'⟩⟩=>as'.length-i) ((p,⟨0,ys.length-1-mot,.empty,[],[]⟩)) ([0,1,2,3,4,5,6]) rfl ?I2 ?M2 ?H2
 case I2=>
  exact⟨Wt.var (by omega) (by omega),by show 1≤_;omega⟩
 case M2=>
  refine mo ?_ (ef rfl (by exact Fit.of_eq (by rw[hx];rfl)) (aJ (aJ (aJ (aJ (aJ (aJ (aJ (aJ dC)))))))))
  repeat (first|exact cH|refine bj ?_|refine ya ?_)
 case H2=>
  rintro⟨i,⟨k',m',s',l',a'⟩⟩ hinv
  try dsimp only at hinv
  obtain⟨i1,i2⟩:=hinv;refine kc 0 [16,15,14,12,9,8,0,2,3] 9 ?_;refine cj (fun h7=>?_) (fun h7=>?_)
  ·refine kc 4 [16,15,14,12,9,8,0,2,3] 0 ?_;obtain⟨k2,m2,s2,l2,a2,hget⟩:=bK (show i<as'.length by omega);have hWA:=w3 _ (List.mem_of_getElem? hget);have hgz:=bG hget;have hM:=vW (n:=(ys.length:Int)) (by omega) g1 hWA;have hmv:=oW (gl:=gl) x m mot ys k2 m2 s2 l2 a2 ql g1 (by omega) (by omega) hWA (by omega);obtain⟨kM,mM,sM,lM,aM,hMe⟩:=ae.case (AM ys.length ql (.mk k2 m2 s2 l2 a2))
   rw[hMe] at hM hmv;have hap:=dt (gl:=gl) k' m' s' l' a' kM mM sM lM aM;refine gz [0,1,2,3] mixed ?_;refine A1 4 rfl (cu bB bH ⟨_,rfl,?_⟩ (he:=by exact(bW hget)));refine ga [5,6] ?_;refine A2 7 rfl (ck GD rfl rfl (hmv) [0,1] rfl (bj (.cons rfl .buf .nil)) (an (bo (an .nil))) ?_);refine A2 8 rfl (cv pt rfl rfl (hap) (bo (an .nil)) ?_);refine A2 9 rfl (dN bw ?_);refine aZ ?_;refine ke 2 [16,15,14,12,9,8,0,2,3] 2 ?_;refine o1 (cG ?_);refine go 2 ?_;refine bk (i+1,⟨3,0,.empty,[],[.mk k' m' s' l' a',.mk kM mM sM lM aM]⟩) rfl ?_ [0,1,2,3,4,5,6] mz
   ·refine ⟨⟨Wt.app i1 hM.1,?_⟩,show as'.length-(i+1)<as'.length-i by omega⟩;have h9:=hM.2;rw[lZ,fQ hget];have:=ui (.mk k2 m2 s2 l2 a2);omega
  refine kc 6 [15,12,9,8,0,2,3] 0 ?_;have hdl:(ql.drop pl.length).length=bg (.mk k n s ls args):=(by rw[List.length_drop];omega);have hpd:=g1.drop pl.length;have happ:=gN (gl:=gl) x m mot ys 0 (ys.length-1-p0) .empty [] [] (ql.drop pl.length) hpd (by omega) (by omega);have hvw:Wt sg ps (vr ((ys.length:Int)-1-p0)) ys.length:=Wt.var (by omega) (by omega);have haw:=Wt.apply hvw (qD (sg:=sg) (ps:=ps) hpd);have haz:=cB (vr ((ys.length:Int)-1-p0)) (vars ys.length (ql.drop pl.length));rw[j8,nQ,FP,hdl] at haz;unfold vr at haw haz;obtain⟨kA,mA,sA,lA,aA,hA⟩:=ae.case (bt (.mk 0 (ys.length-1-p0) .empty [] []) (vars ys.length (ql.drop pl.length)))
  rw[hA] at happ haw haz;have hap2:=dt (gl:=gl) k' m' s' l' a' kA mA sA lA aA;have hcl:=jJ (gl:=gl) x m mot ys 3 0 .empty [] [.mk k' m' s' l' a',.mk kA mA sA lA aA] bs.length (by omega) (by omega) (by omega);have hcw:=g2.wN (n:=bs.length) (by omega) (Wt.app i1 haw);have hcz:=nY (ys.drop bs.length) (.mk 3 0 .empty [] [.mk k' m' s' l' a',.mk kA mA sA lA aA]);have hst:=fZ as' i;have htk:ys.take bs.length=bs:=(by rw[g6,List.take_left]);have hdr:ys.drop bs.length=xs:=(by rw[g6,List.drop_left]);rw[hdr] at hcl hcw hcz;rw[htk] at hcl;rw[lZ] at hcz;obtain⟨kB,mB,sB,lB,aB,hB⟩:=ae.case (rj xs (.mk 3 0 .empty [] [.mk k' m' s' l' a',.mk kA mA sA lA aA]))
  rw[hB] at hcl hcw hcz;refine gz [0,1,2,3,5,6,7] mixed ?_;refine A1 8 rfl (jH j9 mN rfl rfl rfl rfl rfl rfl (by omega) ((show(ints ql).drop ((ints pl).length:Int).toNat=ints (ql.drop pl.length) by rw[hil];exact xC ql pl.length)) ⟨_,rfl,?_⟩);refine A2 4 rfl (ck vC rfl rfl (nC x m mot ys p0 (by omega) (by omega)) [0,1] rfl (bj (.cons rfl .buf .nil)) (an (an .nil)) ?_);refine A2 9 rfl (ck vD rfl rfl (happ) [0,1] rfl (bj (.cons rfl .buf .nil)) (an (an (an .nil))) ?_);refine A2 10 rfl (cv pt rfl rfl (hap2) (bo (an .nil)) ?_);refine A2 11 rfl (dN bw ?_);refine aZ ?_;refine ke 1 [15,9,8,0] 5 ?_;refine oc (ck xX rfl rfl (hcl) [0,1] rfl (bj (.cons rfl .buf .nil)) (an (bo (an .nil))) ?_);refine go 4 ?_;refine eo ((ae.mk kB mB sB lB aB).d) [0,1] [fJ x m bs.length mot,fp bs] ?_
  ·exact ⟨_,rfl,rfl,hcw,by omega⟩
end
section
open Go Go.Vd Go.RowKit
attribute [local irreducible] bu bA di ak bL cU
variable {g gl:Nat→List D}
def Jl(i:Nat):List Int:=(List.range i).map fun(j:Nat)=>(j:Int)
theorem F0(i:Nat):(Jl i).length=i:=by simp[Jl]
theorem Jk(i:Nat):Jl i++[(i:Int)]=Jl (i+1):=by simp[Jl,List.range_succ]
variable {n:Nat}
theorem Nw{i:Nat}(h:i≤n):jW (Jl i) n:=by
 intro p hp;obtain⟨j,hj,rfl⟩:=List.mem_map.1 hp;have:=List.mem_range.1 hj;exact⟨by omega,by omega⟩
theorem Kq{B:Int}:∀(n:Nat) {t:ae},n≤bg t→iD B t→iD B (er n t):=by
 intro n
 induction n with
 |zero=>intro t _ h;exact h
 |succ n ih=>
  intro t hn h;obtain⟨k,m,s,ls,args,rfl⟩:=ae.case t
  obtain⟨rfl,a,b,rfl,h2⟩:=kS (Nat.lt_of_lt_of_le (Nat.succ_pos n) hn);exact ih (by omega) h.2.1.2.1
theorem Ls{t:ae}(hn:n≤bg t):bg (er n t)=bg t-n:=by
 induction n generalizing t with
 |zero=>rfl
 |succ n ih=>
  obtain⟨k,m,s,ls,args,rfl⟩:=ae.case t
  obtain⟨rfl,a,b,rfl,h2⟩:=kS (Nat.lt_of_lt_of_le (Nat.succ_pos n) hn);show bg (er n b)=_;rw[ih (by omega)];omega
theorem Kp(n:Nat)(t:ae):(er n t).size≤t.size:=by have:=dH n t;omega
def K6(nm:ByteArray)(k m:Int)(s:ByteArray)(ls:List aP)(args:List ae):Ob:=.cells [.d (.v (.string nm)),.d (.v (.int .i64 k)),.d (.v (.int .i64 m)),.d (.v (.string s)),.d (.sl 3 (bF ls)),.d (.sl 5 (aH args))] 65
variable {sg:Sg} {ps:List ByteArray}
theorem AH{pd:List ByteArray}{nm:ByteArray}{c:Int}(hs:sg nm=some pd.length)(hp:∀p∈pd,p∈ps∧p≠ .empty):Wt sg ps (yw nm pd) c:=by
 refine⟨fun l hl=>?_,trivial,.inr (.inr (.inl ⟨rfl,rfl,by simp[lj,hs],rfl⟩))⟩;obtain⟨p,h1,rfl⟩:=List.mem_map.1 hl;exact⟨.param p,rfl,⟨by decide,by decide,fun _=>(hp p h1).2,trivial⟩,fun q hq=>by have h9:q=p:=hq;rw[h9];exact(hp p h1).1⟩
theorem uu(nm:ByteArray)(pd:List ByteArray):(yw nm pd).size=1+pd.length:=by
 have h:∀l:List ByteArray,bh (lj l)=l.length:=fun l=>by
  induction l with
  |nil=>rfl
  |cons a r ih=>show bh (.mk 4 a []::lj r)=_;simp only[bh,ih,aP.size,List.length_cons];omega
 show 1+bh (lj pd)+aj []=_;rw[h];simp only[aj];omega
set_option maxHeartbeats 1600000 in
theorem Es(x:RD)(m:Int)(mot p:Nat)(hx:x.ad=p)(bs:List ae)(nm:ByteArray)(k n:Int)(s:ByteArray)(ls:List aP)(args:List ae)(hpb:p≤bs.length)(hmot:mot<bs.length)(hT:DK sg ps bs)(hb:bs.length+20000000≤1000000000)(hw:Wt sg ps (.mk k n s ls args) 0)(hz:(ae.mk k n s ls args).size≤1000000)(hpp:p≤bg (.mk k n s ls args))(hsg:sg nm=some x.pd.length)(hpd:∀q∈x.pd,q∈ps∧q≠ .empty)(hpl:x.pd.length≤6):
 et Tryz.prog gl 177 [fJ x m bs.length mot,fp bs] [.cb 0 0,.d (.agg (.v (.string nm)::(ae.mk k n s ls args).cells))] (K2 sg ps x m mot bs (12*(ae.mk k n s ls args).size+12)):=by
 have hpz:=dT _ (.mk k n s ls args) (Nat.le_refl _);have hsh:=hw.sh (B:=4398046511104) (by omega);have hen:=tL (gl:=gl) p k n s ls args hsh hpp (by omega);have hWe:=(hw.wN p hpp).1;have hpe:=Ls hpp;have hze:=Kp p (.mk k n s ls args);have hshe:=Kq p hpp hsh;obtain⟨k0,n0,s0,l0,a0,hE⟩:=ae.case (er p (.mk k n s ls args))
 rw[hE] at hen hWe hpe hze hshe;have hpi:=iK (gl:=gl) k0 n0 s0 l0 a0 hshe (by omega);have hrl:=F0 p;have hbo:=lS (gl:=gl) (sg:=sg) (ps:=ps) x m mot bs k0 n0 s0 l0 a0 (Jl p) (bg (.mk k0 n0 s0 l0 a0)) (Nw hpb) hT (by omega) (by omega) (by rw[hrl];exact hWe.up (by omega)) (by omega) (Nat.le_refl _);generalize hN:bg (.mk k0 n0 s0 l0 a0)=N at hpi hbo hpe;refine bS Tryz.func177 Tryz.ntmps177 2 ?_;refine gc 12 ?_;refine o1 (gI bB rfl rfl ?_);refine ko 3 [5,4,3,0] 12 ?_;refine bz 3 1 rfl ?_;refine lp (ι:=Nat) (fun i=>[(7,int i),(6,.own 4 1 (ints (Jl i)))]) (fun i=>[fJ x m bs.length mot,fp bs,K6 nm k n s ls args,zO,.row 3 1]) [5,4,3,0] (fun i=>i≤p) (fun i=>p-i) (0) ([0,1,2,3,4]) rfl ?I1 ?M1 ?H1
 case I1=>
  exact Nat.zero_le _
 case M1=>
  refine mo ?_ (aJ (ef rfl (by(show Fit _ _ (SV.own 4 1 []);exact Fit.nil rfl)) (aJ (aJ (aJ (aJ dC))))))
  repeat (first|exact cH|refine bj ?_|refine ya ?_|refine qx ?_)
 case H1=>
  rintro i hinv
  try dsimp only at hinv
  refine kc 0 [7,6,5,4,3,0] 12 ?_;refine cj (fun h4=>?_) (fun h4=>?_)
  ·refine kc 4 [7,6,5,4,3,0] 0 ?_;have hnx:ints (Jl i)++[[D.v (.int .i64 i)]]=ints (Jl (i+1)):=(by rw[xD,Jk]);have hil:=gH (Jl i);have hri:=F0 i;refine gc 3 ?_;refine oc (gD vc [.tmp 34] FU ?_);refine oc (px vc ?_);refine ko 4 [6,7,5,4,3,0] 2 ?_;refine o1 (cG ?_);refine go 2 ?_;rw[hnx];refine bk (i+1) rfl ?_ [0,1,2,3,4] mz;exact⟨by omega,by omega⟩
  refine kc 6 [6,5,4,3,0] 0 ?_;obtain rfl:i=p:=(by omega);rw[← hx] at hen;refine gz [0,1,2,3,4,5,6] mixed ?_;refine cT (rs:=[7,8]) (by kernel_rfl) rfl ⟨?_,?_,trivial⟩
  ·skip
   refine A4 7 rfl (cv Dt rfl rfl (hen) (bo (an .nil)) ?_);refine A2 8 rfl (qB bw ?_);refine A2 9 rfl (dN bw ?_);refine aZ ?_;refine ke 1 [8,6,5,4,3,0] 3 ?_;refine oc (cv rF rfl rfl (hpi) (bo .nil) ?_);refine go 9 ?_;refine oc (aN Ac rfl rfl rfl rfl (hbo) [0,1] (bj (.cons rfl .buf .nil)) rfl rfl rfl rfl (an (bo (bo (an .nil)))) (fun s ob' hq=>?_) (fun s ob' hq=>?_));rotate_left
   ·obtain ⟨_,_,_,hq1,_⟩:=hq;cases hq1
   obtain⟨⟨ku,mu,su,lu,au⟩,ql,ys,hq1,rfl,g1,g2,g3,⟨pl',g4,g5⟩,xs,g6,g7,g8,_⟩:=hq;cases hq1;have hyl:ys.length=bs.length+N:=by rw[g6,List.length_append,g7]
   have hql:ql.length=i+N:=by rw[g4,List.length_append,g5,hrl]
   have hqi:=gH ql;obtain⟨w1,w2,w3,w4⟩:=Wt.spine _ (Nat.le_refl _) g3;have hsp:=eY (gl:=gl) ku mu su lu au w1 (by omega);have hss:=dQ _ (ae.mk ku mu su lu au) (Nat.le_refl _);obtain⟨kh,mh,sh',lh,ah,hH⟩:=ae.case (bf (.mk ku mu su lu au)).1
   rw[hH] at hsp;generalize hAs:(bf (.mk ku mu su lu au)).2=as' at hsp hss w3;have hal:=aO as';have hal2:=br as';refine⟨_,_,_,_,_,rfl,rfl,rfl,rfl,rfl,?_⟩;refine ko 9 [11,10,9,8,5,4,3,0] 6 ?_;refine lp (ι:=Nat×(Int×Int×ByteArray×List aP×List ae)×List ae) (fun⟨j,⟨k',m',s',l',a'⟩,zs⟩=>[(12,int j)]) (fun⟨j,⟨k',m',s',l',a'⟩,zs⟩=>[fJ x m zs.length mot,fp zs,K6 nm k n s ls args,zO,.row 3 1,tO k' m' s' l' a',tO ku mu su lu au]) [11,10,9,8,5,4,3,0] (fun⟨j,⟨k',m',s',l',a'⟩,zs⟩=>j≤N∧DK sg ps zs∧Wt sg ps (.mk k' m' s' l' a') (i+j)∧N-j≤bg (.mk k' m' s' l' a')∧(∃ hs,zs=ys++hs∧hs.length≤j∧aj hs+hs.length+4*(ae.mk k' m' s' l' a').size≤4*(ae.mk k0 n0 s0 l0 a0).size)) (fun⟨j,⟨k',m',s',l',a'⟩,zs⟩=>N-j) ((0,⟨k0,n0,s0,l0,a0⟩,ys)) ([0,1,2,3,4,5,6]) rfl ?I2 ?M2 ?H2
   case I2=>
    exact⟨Nat.zero_le _,g2,by simpa using hWe,by rw[hN];exact Nat.sub_le _ _,⟨[],by simp,by simp,by simp[aj]⟩⟩
   case M2=>
    exact mz
   case H2=>
    rintro⟨j,⟨k',m',s',l',a'⟩,zs⟩ hinv
    try dsimp only at hinv
    obtain⟨i1,i2,i3,i4,⟨hs,i5,i6,i7⟩⟩:=hinv;refine kc 0 [12,11,10,9,8,5,4,3,0] 8 ?_;refine cJ (fun h11=>?_) (fun h11=>?_)
    ·refine kc 6 [11,10,5,4,3,0] 0 ?_;have hzl:zs.length=ys.length+hs.length:=(by rw[i5,List.length_append]);refine gc 2 ?_;refine oc (cv yM rfl rfl (hsp) (bo .nil) ?_);refine ko 8 [16,11,5,4,3,0] 7 ?_;refine oc (ck vC rfl rfl (nC x m mot zs mot (by omega) (by omega)) [0,1] rfl (bj (.cons rfl .buf .nil)) (an (an .nil)) ?_);refine ko 16 [18,17,16,11,5,4,3,0] 0 ?_;refine lp (ι:=Nat×(Int×Int×ByteArray×List aP×List ae)) (fun⟨q,⟨k3,m3,s3,l3,a3⟩⟩=>[(18,int q)]) (fun⟨q,⟨k3,m3,s3,l3,a3⟩⟩=>[fJ x m zs.length mot,fp zs,K6 nm k n s ls args,zO,.row 3 1,tO k' m' s' l' a',tO ku mu su lu au,tO kh mh sh' lh ah,tO k3 m3 s3 l3 a3]) [17,16,11,5,4,3,0] (fun⟨q,⟨k3,m3,s3,l3,a3⟩⟩=>Wt sg ps (.mk k3 m3 s3 l3 a3) zs.length∧(ae.mk k3 m3 s3 l3 a3).size≤1+2*aj (as'.take q)) (fun⟨q,⟨k3,m3,s3,l3,a3⟩⟩=>as'.length-q) ((i,⟨0,zs.length-1-mot,.empty,[],[]⟩)) ([0,1,2,3,4,5,6,7,8]) rfl ?I3 ?M3 ?H3
     case I3=>
      exact⟨Wt.var (by omega) (by omega),by show 1≤_;omega⟩
     case M3=>
      refine mo ?_ (ef rfl (by exact Fit.of_eq (by rw[hx];rfl)) (aJ (aJ (aJ (aJ (aJ (aJ (aJ dC))))))))
      repeat (first|exact cH|refine bj ?_|refine cr ?_|refine ya ?_)
     case H3=>
      rintro⟨q,⟨k3,m3,s3,l3,a3⟩⟩ hinv
      try dsimp only at hinv
      obtain⟨e1,e2⟩:=hinv;refine kc 0 [18,17,16,11,5,4,3,0] 9 ?_;refine cj (fun h21=>?_) (fun h21=>?_)
      ·refine kc 4 [18,17,16,11,5,4,3,0] 0 ?_;obtain⟨k5,m5,s5,l5,a5,hget⟩:=bK (show q<as'.length by omega);have hWA:=w3 _ (List.mem_of_getElem? hget);have hgz:=bG hget;have g1':jW ql zs.length:=g1.up (by omega);have hM:=vW (n:=(zs.length:Int)) (by omega) g1' hWA;have hmv:=oW (gl:=gl) x m mot zs k5 m5 s5 l5 a5 ql g1' (by omega) (by omega) hWA (by omega);obtain⟨kM,mM,sM,lM,aM,hMe⟩:=ae.case (AM zs.length ql (.mk k5 m5 s5 l5 a5))
       rw[hMe] at hM hmv;have hap:=dt (gl:=gl) k3 m3 s3 l3 a3 kM mM sM lM aM;refine gz [0,1,2,3] mixed ?_;refine A1 4 rfl (cu bB bH ⟨_,rfl,?_⟩ (he:=by exact(bW hget)));refine ga [5,6] ?_;refine A2 7 rfl (ck GD rfl rfl (hmv) [0,1] rfl (bj (.cons rfl .buf .nil)) (an (bo (an .nil))) ?_);refine A2 8 rfl (cv pt rfl rfl (hap) (bo (an .nil)) ?_);refine A2 9 rfl (dN bw ?_);refine aZ ?_;refine ke 2 [18,17,16,11,5,4,3,0] 2 ?_;refine o1 (cG ?_);refine go 2 ?_;refine bk (q+1,⟨3,0,.empty,[],[.mk k3 m3 s3 l3 a3,.mk kM mM sM lM aM]⟩) rfl ?_ [0,1,2,3,4,5,6,7,8] mz
       ·refine ⟨⟨Wt.app e1 hM.1,?_⟩,show as'.length-(q+1)<as'.length-q by omega⟩;have h9:=hM.2;rw[lZ,fQ hget];have:=ui (.mk k5 m5 s5 l5 a5);omega
      refine kc 6 [17,11,5,4,3,0] 0 ?_;have g1':jW ql zs.length:=g1.up (by omega);have happ:=gN (gl:=gl) x m mot zs 2 0 nm (lj x.pd) [] ql g1' (by omega) (by omega);have hcw0:=AH (ps:=ps) (c:=(zs.length:Int)) hsg hpd;have haw:=Wt.apply hcw0 (qD (sg:=sg) (ps:=ps) g1');have haz:=cB (yw nm x.pd) (vars zs.length ql);rw[j8,nQ,uu] at haz;unfold yw at haw haz;obtain⟨kA,mA,sA,lA,aA,hA⟩:=ae.case (bt (.mk 2 0 nm (lj x.pd) []) (vars zs.length ql))
      rw[hA] at happ haw haz;have hap2:=dt (gl:=gl) k3 m3 s3 l3 a3 kA mA sA lA aA;have hcl:=jJ (gl:=gl) x m mot zs 3 0 .empty [] [.mk k3 m3 s3 l3 a3,.mk kA mA sA lA aA] bs.length (by omega) (by omega) (by omega);have hcw:=i2.wN (n:=bs.length) (by omega) (Wt.app e1 haw);have hcz:=nY (zs.drop bs.length) (.mk 3 0 .empty [] [.mk k3 m3 s3 l3 a3,.mk kA mA sA lA aA]);have hst:=fZ as' q;have htk:zs.take bs.length=bs:=(by rw[i5,g6,List.append_assoc,List.take_left]);have hdr:zs.drop bs.length=xs++hs:=(by rw[i5,g6,List.append_assoc,List.drop_left]);rw[hdr] at hcl hcw hcz;rw[htk] at hcl;rw[lZ,dF,List.length_append] at hcz;obtain⟨kB,mB,sB,lB,aB,hB⟩:=ae.case (rj (xs++hs) (.mk 3 0 .empty [] [.mk k3 m3 s3 l3 a3,.mk kA mA sA lA aA]))
      rw[hB] at hcl hcw hcz;refine gz [0,1,2,3,4,6] mixed ?_;refine A2 5 rfl (ck GF rfl rfl (jC x m mot zs nm (by omega)) [0,1] rfl (bj (.cons rfl .buf .nil)) (an (an .nil)) ?_);refine A2 7 rfl (ck vD rfl rfl (happ) [0,1] rfl (bj (.cons rfl .buf .nil)) (an (an (an .nil))) ?_);refine A2 8 rfl (cv pt rfl rfl (hap2) (bo (an .nil)) ?_);refine A2 9 rfl (dN bw ?_);refine aZ ?_;refine ke 1 [17,5,4,0] 5 ?_;refine oc (ck xX rfl rfl (hcl) [0,1] rfl (bj (.cons rfl .buf .nil)) (an (bo (an .nil))) ?_);refine go 4 ?_;refine eo ((ae.mk kB mB sB lB aB).d) [0,1] [fJ x m bs.length mot,fp bs] ?_
      ·exact ⟨_,rfl,rfl,hcw,by omega⟩
    refine gc 5 ?_;have hzl:zs.length=ys.length+hs.length:=(by rw[i5,List.length_append]);obtain⟨rfl,⟨k1,m1,s1,l1,a1⟩,⟨k2,m2,s2,l2,a2⟩,rfl,hpis⟩:=kS (show 0<bg (.mk k' m' s' l' a') by omega);obtain⟨_,_,hab,_,_,_,hWA,hWB⟩:=i3.two (.inr (.inr rfl));cases hab;rw[if_neg (by decide)] at hWB;have hzz:1+(ae.mk k1 m1 s1 l1 a1).size+(ae.mk k2 m2 s2 l2 a2).size=(ae.mk 5 m' s' l' [.mk k1 m1 s1 l1 a1,.mk k2 m2 s2 l2 a2]).size-bh l':=(by simp only[ae.size,aj];omega);have hl0:l'=[]:=(by
     rcases i3.2.2 with h|h|h|h|h
     ·omega
     ·omega
     ·omega
     ·exact h.2.2.2.1
     ·omega)
    subst hl0;simp only[bh,Nat.sub_zero] at hzz;have hha:=j2 (gl:=gl) x.sd _ k1 m1 s1 l1 a1 (Nat.le_refl _) (by omega);refine gc 3 ?_;refine o1 (cu bB bH ?_ (he:=by exact(rfl)));refine ko 6 [13,12,11,10,9,8,5,4,3,0] 0 ?_;refine gz [0,1,2,3,4,5] mixed ?_;refine A2 6 rfl (cv xY rfl rfl (hha) (bo (an .nil)) ?_);refine ga [7] ?_;refine aZ ?_;refine ke 7 [71,13,12,11,10,9,8,5,4,3,0] 0 ?_;refine xo (ι:=List ae) (fun zs2=>[]) (fun zs2=>[fJ x m zs2.length mot,fp zs2,K6 nm k n s ls args,zO,.row 3 1,tO 5 m' s' [] [.mk k1 m1 s1 l1 a1,.mk k2 m2 s2 l2 a2],tO ku mu su lu au,tO k1 m1 s1 l1 a1]) [12,11,10,9,8,5,4,3,0] (fun zs2=>DK sg ps zs2∧∃hs2,zs2=ys++hs2∧hs2.length≤j+1∧aj hs2+hs2.length+4*(ae.mk k2 m2 s2 l2 a2).size≤4*(ae.mk k0 n0 s0 l0 a0).size) rfl ?A4 ?B4
    case A4=>
     refine cJ (fun h15=>?_) (fun h15=>?_)
     ·refine gc 1 ?_;refine bk (zs) rfl ?_ [0,1,2,3,4,5,6,7] mz;exact⟨i2,hs,i5,by omega,by omega⟩
     have hqj:(ql[i+j]'(by omega))∈ql:=List.getElem_mem _;have hpz2:=g1 _ hqj;have htl:(ql.take (i+j)).length=i+j:=(by rw[List.length_take];omega);have hyp:=og (gl:=gl) x m mot i hx zs k1 m1 s1 l1 a1 (ql.take (i+j)) (ql[i+j]'(by omega)) ((g1.up (by omega)).take _) ⟨hpz2.1,by omega⟩ (by omega) i2 (by omega) (by omega) (by rw[htl];exact hWA) (by omega);refine gz [0,1,2,3,4,5,6,7,9,12,13,14,15,16,18] mixed ?_;refine cT (rs:=[8,17]) (by kernel_rfl) rfl ⟨?_,?_,trivial⟩
     ·skip
      refine A4 (T:=fun _=>False) 8 rfl (p9 rfl rfl (DJ FU ?_));refine A1 10 rfl (cG ⟨_,rfl,?_⟩);refine A1 11 rfl (fD j9 mN rfl rfl rfl rfl rfl rfl (by omega) ((show(ints ql).take (x.ad+(j:Int)).toNat=ints (ql.take (i+j)) by rw[hx];exact o4 ql (i+j))) ⟨_,rfl,?_⟩);refine A2 (T:=fun _=>False) 17 rfl (p9 rfl rfl (DJ FU ?_));refine A1 19 rfl (cG ⟨_,rfl,?_⟩);refine A1 20 rfl (cu j9 mN ⟨_,rfl,?_⟩ (he:=by exact((show(ints ql)[(x.ad+(j:Int)).toNat]? =some [D.v (.int .i64 (ql[i+j]'(by omega)))] by rw[hx];exact sj (by omega)))));refine ga [21] ?_;refine A2 22 rfl (aN GC rfl rfl rfl rfl (hyp) [0,1] (bj (.cons rfl .buf .nil)) rfl rfl rfl rfl (an (bo (an (an .nil)))) (fun s ob' hq=>?_) (fun s ob' hq=>?_));rotate_left
      ·obtain ⟨_,hq1,_⟩:=hq;cases hq1
      obtain⟨⟨kY,mY,sY,lY,aY⟩,hq1,rfl,hq4,hq5⟩:=hq;cases hq1;refine⟨_,_,_,_,_,rfl,rfl,rfl,rfl,rfl,?_⟩;refine A2 23 rfl (ck tQ rfl rfl (iH x m mot zs kY mY sY lY aY (by omega)) [0,1] rfl (bj (.cons rfl .buf .nil)) (an (an .nil)) ?_);refine aZ ?_;refine bk (zs++[.mk kY mY sY lY aY]) rfl ?_ [0,1,2,3,4,5,6,7] mz;exact⟨i2.app hq4,hs++[.mk kY mY sY lY aY],by rw[i5,List.append_assoc],by rw[List.length_append];simp only[List.length_cons,List.length_nil];omega,by rw[dF,List.length_append];simp only[aj,List.length_cons,List.length_nil];omega⟩
     ·skip
      refine A4 (T:=fun _=>False) 17 rfl (p9 rfl rfl (DJ FU ?_));refine A1 19 rfl (cG ⟨_,rfl,?_⟩);refine A1 20 rfl (cu j9 mN ⟨_,rfl,?_⟩ (he:=by exact((show(ints ql)[(x.ad+(j:Int)).toNat]? =some [D.v (.int .i64 (ql[i+j]'(by omega)))] by rw[hx];exact sj (by omega)))));refine ga [21] ?_;refine A2 (T:=fun _=>False) 8 rfl (p9 rfl rfl (DJ FU ?_));refine A1 10 rfl (cG ⟨_,rfl,?_⟩);refine A1 11 rfl (fD j9 mN rfl rfl rfl rfl rfl rfl (by omega) ((show(ints ql).take (x.ad+(j:Int)).toNat=ints (ql.take (i+j)) by rw[hx];exact o4 ql (i+j))) ⟨_,rfl,?_⟩);refine A2 22 rfl (aN GC rfl rfl rfl rfl (hyp) [0,1] (bj (.cons rfl .buf .nil)) rfl rfl rfl rfl (an (bo (an (an .nil)))) (fun s ob' hq=>?_) (fun s ob' hq=>?_));rotate_left
      ·obtain ⟨_,hq1,_⟩:=hq;cases hq1
      obtain⟨⟨kY,mY,sY,lY,aY⟩,hq1,rfl,hq4,hq5⟩:=hq;cases hq1;refine⟨_,_,_,_,_,rfl,rfl,rfl,rfl,rfl,?_⟩;refine A2 23 rfl (ck tQ rfl rfl (iH x m mot zs kY mY sY lY aY (by omega)) [0,1] rfl (bj (.cons rfl .buf .nil)) (an (an .nil)) ?_);refine aZ ?_;refine bk (zs++[.mk kY mY sY lY aY]) rfl ?_ [0,1,2,3,4,5,6,7] mz;exact⟨i2.app hq4,hs++[.mk kY mY sY lY aY],by rw[i5,List.append_assoc],by rw[List.length_append];simp only[List.length_cons,List.length_nil];omega,by rw[dF,List.length_append];simp only[aj,List.length_cons,List.length_nil];omega⟩
    case B4=>
     rintro zs2 hcut
     try dsimp only at hcut
     refine kc 0 [12,11,10,9,8,5,4,3,0] 3 ?_;refine o1 (cu bB bH ?_ (he:=by exact(rfl)));refine ko 5 [12,11,10,9,8,5,4,3,0] 2 ?_;refine o1 (cG ?_);refine go 2 ?_;refine bk (j+1,⟨k2,m2,s2,l2,a2⟩,zs2) rfl ?_ [0,1,2,3,4,5,6] mz;exact⟨⟨by omega,hcut.1,(by rw[show(i:Int)+((j+1:Nat):Int)=i+j+1 by omega];exact hWB),by omega,hcut.2⟩,show N-(j+1)<N-j by omega⟩
  ·skip
   refine A4 8 rfl (qB bw ?_);refine A2 7 rfl (cv Dt rfl rfl (hen) (bo (an .nil)) ?_);refine A2 9 rfl (dN bw ?_);refine aZ ?_;refine ke 1 [8,6,5,4,3,0] 3 ?_;refine oc (cv rF rfl rfl (hpi) (bo .nil) ?_);refine go 9 ?_;refine oc (aN Ac rfl rfl rfl rfl (hbo) [0,1] (bj (.cons rfl .buf .nil)) rfl rfl rfl rfl (an (bo (bo (an .nil)))) (fun s ob' hq=>?_) (fun s ob' hq=>?_));rotate_left
   ·obtain ⟨_,_,_,hq1,_⟩:=hq;cases hq1
   obtain⟨⟨ku,mu,su,lu,au⟩,ql,ys,hq1,rfl,g1,g2,g3,⟨pl',g4,g5⟩,xs,g6,g7,g8,_⟩:=hq;cases hq1;have hyl:ys.length=bs.length+N:=by rw[g6,List.length_append,g7]
   have hql:ql.length=i+N:=by rw[g4,List.length_append,g5,hrl]
   have hqi:=gH ql;obtain⟨w1,w2,w3,w4⟩:=Wt.spine _ (Nat.le_refl _) g3;have hsp:=eY (gl:=gl) ku mu su lu au w1 (by omega);have hss:=dQ _ (ae.mk ku mu su lu au) (Nat.le_refl _);obtain⟨kh,mh,sh',lh,ah,hH⟩:=ae.case (bf (.mk ku mu su lu au)).1
   rw[hH] at hsp;generalize hAs:(bf (.mk ku mu su lu au)).2=as' at hsp hss w3;have hal:=aO as';have hal2:=br as';refine⟨_,_,_,_,_,rfl,rfl,rfl,rfl,rfl,?_⟩;refine ko 9 [11,10,9,8,5,4,3,0] 6 ?_;refine lp (ι:=Nat×(Int×Int×ByteArray×List aP×List ae)×List ae) (fun⟨j,⟨k',m',s',l',a'⟩,zs⟩=>[(12,int j)]) (fun⟨j,⟨k',m',s',l',a'⟩,zs⟩=>[fJ x m zs.length mot,fp zs,K6 nm k n s ls args,zO,.row 3 1,tO k' m' s' l' a',tO ku mu su lu au]) [11,10,9,8,5,4,3,0] (fun⟨j,⟨k',m',s',l',a'⟩,zs⟩=>j≤N∧DK sg ps zs∧Wt sg ps (.mk k' m' s' l' a') (i+j)∧N-j≤bg (.mk k' m' s' l' a')∧(∃ hs,zs=ys++hs∧hs.length≤j∧aj hs+hs.length+4*(ae.mk k' m' s' l' a').size≤4*(ae.mk k0 n0 s0 l0 a0).size)) (fun⟨j,⟨k',m',s',l',a'⟩,zs⟩=>N-j) ((0,⟨k0,n0,s0,l0,a0⟩,ys)) ([0,1,2,3,4,5,6]) rfl ?I5 ?M5 ?H5
   case I5=>
    exact⟨Nat.zero_le _,g2,by simpa using hWe,by rw[hN];exact Nat.sub_le _ _,⟨[],by simp,by simp,by simp[aj]⟩⟩
   case M5=>
    exact mz
   case H5=>
    rintro⟨j,⟨k',m',s',l',a'⟩,zs⟩ hinv
    try dsimp only at hinv
    obtain⟨i1,i2,i3,i4,⟨hs,i5,i6,i7⟩⟩:=hinv;refine kc 0 [12,11,10,9,8,5,4,3,0] 8 ?_;refine cJ (fun h11=>?_) (fun h11=>?_)
    ·refine kc 6 [11,10,5,4,3,0] 0 ?_;have hzl:zs.length=ys.length+hs.length:=(by rw[i5,List.length_append]);refine gc 2 ?_;refine oc (cv yM rfl rfl (hsp) (bo .nil) ?_);refine ko 8 [16,11,5,4,3,0] 7 ?_;refine oc (ck vC rfl rfl (nC x m mot zs mot (by omega) (by omega)) [0,1] rfl (bj (.cons rfl .buf .nil)) (an (an .nil)) ?_);refine ko 16 [18,17,16,11,5,4,3,0] 0 ?_;refine lp (ι:=Nat×(Int×Int×ByteArray×List aP×List ae)) (fun⟨q,⟨k3,m3,s3,l3,a3⟩⟩=>[(18,int q)]) (fun⟨q,⟨k3,m3,s3,l3,a3⟩⟩=>[fJ x m zs.length mot,fp zs,K6 nm k n s ls args,zO,.row 3 1,tO k' m' s' l' a',tO ku mu su lu au,tO kh mh sh' lh ah,tO k3 m3 s3 l3 a3]) [17,16,11,5,4,3,0] (fun⟨q,⟨k3,m3,s3,l3,a3⟩⟩=>Wt sg ps (.mk k3 m3 s3 l3 a3) zs.length∧(ae.mk k3 m3 s3 l3 a3).size≤1+2*aj (as'.take q)) (fun⟨q,⟨k3,m3,s3,l3,a3⟩⟩=>as'.length-q) ((i,⟨0,zs.length-1-mot,.empty,[],[]⟩)) ([0,1,2,3,4,5,6,7,8]) rfl ?I6 ?M6 ?H6
     case I6=>
      exact⟨Wt.var (by omega) (by omega),by show 1≤_;omega⟩
     case M6=>
      refine mo ?_ (ef rfl (by exact Fit.of_eq (by rw[hx];rfl)) (aJ (aJ (aJ (aJ (aJ (aJ (aJ dC))))))))
      repeat (first|exact cH|refine bj ?_|refine cr ?_|refine ya ?_)
     case H6=>
      rintro⟨q,⟨k3,m3,s3,l3,a3⟩⟩ hinv
      try dsimp only at hinv
      obtain⟨e1,e2⟩:=hinv;refine kc 0 [18,17,16,11,5,4,3,0] 9 ?_;refine cj (fun h21=>?_) (fun h21=>?_)
      ·refine kc 4 [18,17,16,11,5,4,3,0] 0 ?_;obtain⟨k5,m5,s5,l5,a5,hget⟩:=bK (show q<as'.length by omega);have hWA:=w3 _ (List.mem_of_getElem? hget);have hgz:=bG hget;have g1':jW ql zs.length:=g1.up (by omega);have hM:=vW (n:=(zs.length:Int)) (by omega) g1' hWA;have hmv:=oW (gl:=gl) x m mot zs k5 m5 s5 l5 a5 ql g1' (by omega) (by omega) hWA (by omega);obtain⟨kM,mM,sM,lM,aM,hMe⟩:=ae.case (AM zs.length ql (.mk k5 m5 s5 l5 a5))
       rw[hMe] at hM hmv;have hap:=dt (gl:=gl) k3 m3 s3 l3 a3 kM mM sM lM aM;refine gz [0,1,2,3] mixed ?_;refine A1 4 rfl (cu bB bH ⟨_,rfl,?_⟩ (he:=by exact(bW hget)));refine ga [5,6] ?_;refine A2 7 rfl (ck GD rfl rfl (hmv) [0,1] rfl (bj (.cons rfl .buf .nil)) (an (bo (an .nil))) ?_);refine A2 8 rfl (cv pt rfl rfl (hap) (bo (an .nil)) ?_);refine A2 9 rfl (dN bw ?_);refine aZ ?_;refine ke 2 [18,17,16,11,5,4,3,0] 2 ?_;refine o1 (cG ?_);refine go 2 ?_;refine bk (q+1,⟨3,0,.empty,[],[.mk k3 m3 s3 l3 a3,.mk kM mM sM lM aM]⟩) rfl ?_ [0,1,2,3,4,5,6,7,8] mz
       ·refine ⟨⟨Wt.app e1 hM.1,?_⟩,show as'.length-(q+1)<as'.length-q by omega⟩;have h9:=hM.2;rw[lZ,fQ hget];have:=ui (.mk k5 m5 s5 l5 a5);omega
      refine kc 6 [17,11,5,4,3,0] 0 ?_;have g1':jW ql zs.length:=g1.up (by omega);have happ:=gN (gl:=gl) x m mot zs 2 0 nm (lj x.pd) [] ql g1' (by omega) (by omega);have hcw0:=AH (ps:=ps) (c:=(zs.length:Int)) hsg hpd;have haw:=Wt.apply hcw0 (qD (sg:=sg) (ps:=ps) g1');have haz:=cB (yw nm x.pd) (vars zs.length ql);rw[j8,nQ,uu] at haz;unfold yw at haw haz;obtain⟨kA,mA,sA,lA,aA,hA⟩:=ae.case (bt (.mk 2 0 nm (lj x.pd) []) (vars zs.length ql))
      rw[hA] at happ haw haz;have hap2:=dt (gl:=gl) k3 m3 s3 l3 a3 kA mA sA lA aA;have hcl:=jJ (gl:=gl) x m mot zs 3 0 .empty [] [.mk k3 m3 s3 l3 a3,.mk kA mA sA lA aA] bs.length (by omega) (by omega) (by omega);have hcw:=i2.wN (n:=bs.length) (by omega) (Wt.app e1 haw);have hcz:=nY (zs.drop bs.length) (.mk 3 0 .empty [] [.mk k3 m3 s3 l3 a3,.mk kA mA sA lA aA]);have hst:=fZ as' q;have htk:zs.take bs.length=bs:=(by rw[i5,g6,List.append_assoc,List.take_left]);have hdr:zs.drop bs.length=xs++hs:=(by rw[i5,g6,List.append_assoc,List.drop_left]);rw[hdr] at hcl hcw hcz;rw[htk] at hcl;rw[lZ,dF,List.length_append] at hcz;obtain⟨kB,mB,sB,lB,aB,hB⟩:=ae.case (rj (xs++hs) (.mk 3 0 .empty [] [.mk k3 m3 s3 l3 a3,.mk kA mA sA lA aA]))
      rw[hB] at hcl hcw hcz;refine gz [0,1,2,3,4,6] mixed ?_;refine A2 5 rfl (ck GF rfl rfl (jC x m mot zs nm (by omega)) [0,1] rfl (bj (.cons rfl .buf .nil)) (an (an .nil)) ?_);refine A2 7 rfl (ck vD rfl rfl (happ) [0,1] rfl (bj (.cons rfl .buf .nil)) (an (an (an .nil))) ?_);refine A2 8 rfl (cv pt rfl rfl (hap2) (bo (an .nil)) ?_);refine A2 9 rfl (dN bw ?_);refine aZ ?_;refine ke 1 [17,5,4,0] 5 ?_;refine oc (ck xX rfl rfl (hcl) [0,1] rfl (bj (.cons rfl .buf .nil)) (an (bo (an .nil))) ?_);refine go 4 ?_;refine eo ((ae.mk kB mB sB lB aB).d) [0,1] [fJ x m bs.length mot,fp bs] ?_
      ·exact ⟨_,rfl,rfl,hcw,by omega⟩
    refine gc 5 ?_;have hzl:zs.length=ys.length+hs.length:=(by rw[i5,List.length_append]);obtain⟨rfl,⟨k1,m1,s1,l1,a1⟩,⟨k2,m2,s2,l2,a2⟩,rfl,hpis⟩:=kS (show 0<bg (.mk k' m' s' l' a') by omega);obtain⟨_,_,hab,_,_,_,hWA,hWB⟩:=i3.two (.inr (.inr rfl));cases hab;rw[if_neg (by decide)] at hWB;have hzz:1+(ae.mk k1 m1 s1 l1 a1).size+(ae.mk k2 m2 s2 l2 a2).size=(ae.mk 5 m' s' l' [.mk k1 m1 s1 l1 a1,.mk k2 m2 s2 l2 a2]).size-bh l':=(by simp only[ae.size,aj];omega);have hl0:l'=[]:=(by
     rcases i3.2.2 with h|h|h|h|h
     ·omega
     ·omega
     ·omega
     ·exact h.2.2.2.1
     ·omega)
    subst hl0;simp only[bh,Nat.sub_zero] at hzz;have hha:=j2 (gl:=gl) x.sd _ k1 m1 s1 l1 a1 (Nat.le_refl _) (by omega);refine gc 3 ?_;refine o1 (cu bB bH ?_ (he:=by exact(rfl)));refine ko 6 [13,12,11,10,9,8,5,4,3,0] 0 ?_;refine gz [0,1,2,3,4,5] mixed ?_;refine A2 6 rfl (cv xY rfl rfl (hha) (bo (an .nil)) ?_);refine ga [7] ?_;refine aZ ?_;refine ke 7 [71,13,12,11,10,9,8,5,4,3,0] 0 ?_;refine xo (ι:=List ae) (fun zs2=>[]) (fun zs2=>[fJ x m zs2.length mot,fp zs2,K6 nm k n s ls args,zO,.row 3 1,tO 5 m' s' [] [.mk k1 m1 s1 l1 a1,.mk k2 m2 s2 l2 a2],tO ku mu su lu au,tO k1 m1 s1 l1 a1]) [12,11,10,9,8,5,4,3,0] (fun zs2=>DK sg ps zs2∧∃hs2,zs2=ys++hs2∧hs2.length≤j+1∧aj hs2+hs2.length+4*(ae.mk k2 m2 s2 l2 a2).size≤4*(ae.mk k0 n0 s0 l0 a0).size) rfl ?A7 ?B7
    case A7=>
     refine cJ (fun h15=>?_) (fun h15=>?_)
     ·refine gc 1 ?_;refine bk (zs) rfl ?_ [0,1,2,3,4,5,6,7] mz;exact⟨i2,hs,i5,by omega,by omega⟩
     have hqj:(ql[i+j]'(by omega))∈ql:=List.getElem_mem _;have hpz2:=g1 _ hqj;have htl:(ql.take (i+j)).length=i+j:=(by rw[List.length_take];omega);have hyp:=og (gl:=gl) x m mot i hx zs k1 m1 s1 l1 a1 (ql.take (i+j)) (ql[i+j]'(by omega)) ((g1.up (by omega)).take _) ⟨hpz2.1,by omega⟩ (by omega) i2 (by omega) (by omega) (by rw[htl];exact hWA) (by omega);refine gz [0,1,2,3,4,5,6,7,9,12,13,14,15,16,18] mixed ?_;refine cT (rs:=[8,17]) (by kernel_rfl) rfl ⟨?_,?_,trivial⟩
     ·skip
      refine A4 (T:=fun _=>False) 8 rfl (p9 rfl rfl (DJ FU ?_));refine A1 10 rfl (cG ⟨_,rfl,?_⟩);refine A1 11 rfl (fD j9 mN rfl rfl rfl rfl rfl rfl (by omega) ((show(ints ql).take (x.ad+(j:Int)).toNat=ints (ql.take (i+j)) by rw[hx];exact o4 ql (i+j))) ⟨_,rfl,?_⟩);refine A2 (T:=fun _=>False) 17 rfl (p9 rfl rfl (DJ FU ?_));refine A1 19 rfl (cG ⟨_,rfl,?_⟩);refine A1 20 rfl (cu j9 mN ⟨_,rfl,?_⟩ (he:=by exact((show(ints ql)[(x.ad+(j:Int)).toNat]? =some [D.v (.int .i64 (ql[i+j]'(by omega)))] by rw[hx];exact sj (by omega)))));refine ga [21] ?_;refine A2 22 rfl (aN GC rfl rfl rfl rfl (hyp) [0,1] (bj (.cons rfl .buf .nil)) rfl rfl rfl rfl (an (bo (an (an .nil)))) (fun s ob' hq=>?_) (fun s ob' hq=>?_));rotate_left
      ·obtain ⟨_,hq1,_⟩:=hq;cases hq1
      obtain⟨⟨kY,mY,sY,lY,aY⟩,hq1,rfl,hq4,hq5⟩:=hq;cases hq1;refine⟨_,_,_,_,_,rfl,rfl,rfl,rfl,rfl,?_⟩;refine A2 23 rfl (ck tQ rfl rfl (iH x m mot zs kY mY sY lY aY (by omega)) [0,1] rfl (bj (.cons rfl .buf .nil)) (an (an .nil)) ?_);refine aZ ?_;refine bk (zs++[.mk kY mY sY lY aY]) rfl ?_ [0,1,2,3,4,5,6,7] mz;exact⟨i2.app hq4,hs++[.mk kY mY sY lY aY],by rw[i5,List.append_assoc],by rw[List.length_append];simp only[List.length_cons,List.length_nil];omega,by rw[dF,List.length_append];simp only[aj,List.length_cons,List.length_nil];omega⟩
     ·skip
      refine A4 (T:=fun _=>False) 17 rfl (p9 rfl rfl (DJ FU ?_));refine A1 19 rfl (cG ⟨_,rfl,?_⟩);refine A1 20 rfl (cu j9 mN ⟨_,rfl,?_⟩ (he:=by exact((show(ints ql)[(x.ad+(j:Int)).toNat]? =some [D.v (.int .i64 (ql[i+j]'(by omega)))] by rw[hx];exact sj (by omega)))));refine ga [21] ?_;refine A2 (T:=fun _=>False) 8 rfl (p9 rfl rfl (DJ FU ?_));refine A1 10 rfl (cG ⟨_,rfl,?_⟩);refine A1 11 rfl (fD j9 mN rfl rfl rfl rfl rfl rfl (by omega) ((show(ints ql).take (x.ad+(j:Int)).toNat=ints (ql.take (i+j)) by rw[hx];exact o4 ql (i+j))) ⟨_,rfl,?_⟩);refine A2 22 rfl (aN GC rfl rfl rfl rfl (hyp) [0,1] (bj (.cons rfl .buf .nil)) rfl rfl rfl rfl (an (bo (an (an .nil)))) (fun s ob' hq=>?_) (fun s ob' hq=>?_));rotate_left
      ·obtain ⟨_,hq1,_⟩:=hq;cases hq1
      obtain⟨⟨kY,mY,sY,lY,aY⟩,hq1,rfl,hq4,hq5⟩:=hq;cases hq1;refine⟨_,_,_,_,_,rfl,rfl,rfl,rfl,rfl,?_⟩;refine A2 23 rfl (ck tQ rfl rfl (iH x m mot zs kY mY sY lY aY (by omega)) [0,1] rfl (bj (.cons rfl .buf .nil)) (an (an .nil)) ?_);refine aZ ?_;refine bk (zs++[.mk kY mY sY lY aY]) rfl ?_ [0,1,2,3,4,5,6,7] mz;exact⟨i2.app hq4,hs++[.mk kY mY sY lY aY],by rw[i5,List.append_assoc],by rw[List.length_append];simp only[List.length_cons,List.length_nil];omega,by rw[dF,List.length_append];simp only[aj,List.length_cons,List.length_nil];omega⟩
    case B7=>
     rintro zs2 hcut
     try dsimp only at hcut
     refine kc 0 [12,11,10,9,8,5,4,3,0] 3 ?_;refine o1 (cu bB bH ?_ (he:=by exact(rfl)));refine ko 5 [12,11,10,9,8,5,4,3,0] 2 ?_;refine o1 (cG ?_);refine go 2 ?_;refine bk (j+1,⟨k2,m2,s2,l2,a2⟩,zs2) rfl ?_ [0,1,2,3,4,5,6] mz;exact⟨⟨by omega,hcut.1,(by rw[show(i:Int)+((j+1:Nat):Int)=i+j+1 by omega];exact hWB),by omega,hcut.2⟩,show N-(j+1)<N-j by omega⟩
end
section
open Go Go.Vd Go.RowKit
attribute [local irreducible] bu bA di ak bL cU
variable {g gl:Nat→List D}
def NA(j:Nat)(x:RD)(m:Int)(n:Nat)(mot:Int):Ob:=.cells [.d (.v (.int .i64 x.kd)),.d (.v (.string x.sd)),.d (.sl 1 (strs x.pd)),.d (.v (.int .i64 x.k1)),.d (.v (.int .i64 x.n1)),.d (.v (.string x.s1)),.d (.sl 3 (bF x.l1)),.d (.sl 5 (aH x.a1)),.d (.v (.int .i64 x.k2)),.d (.v (.int .i64 x.n2)),.d (.v (.string x.s2)),.d (.sl 3 (bF x.l2)),.d (.sl 5 (aH x.a2)),.d (.v (.int .i64 x.ad)),.d (.sl 6 (gM x.cd)),.d (.v (.int .i64 m)),.arr j n,.d (.v (.int .i64 mot))] 232
variable {sg:Sg} {ps:List ByteArray} {ql:List Int}
theorem MG{pd:List ByteArray}{sd:ByteArray}{n:Nat}(hP:jW ql n)(hsg:sg sd=some pd.length)(hpd:∀q∈pd,q∈ps∧q≠ .empty):
 ∃k m s ls args,bt (.mk 2 0 sd (lj pd) []) (vars n ql)=.mk k m s ls args∧Wt sg ps (.mk k m s ls args) n∧(ae.mk k m s ls args).size=1+pd.length+2*ql.length:=by
 have haw:=Wt.apply (AH (ps:=ps) (c:=(n:Int)) hsg hpd) (qD (sg:=sg) (ps:=ps) hP);have haz:=cB (yw sd pd) (vars n ql);rw[j8,nQ,uu] at haz;unfold yw at haw haz;obtain⟨k,m,s,ls,args,h⟩:=ae.case (bt (.mk 2 0 sd (lj pd) []) (vars n ql))
 rw[h] at haw haz;exact⟨k,m,s,ls,args,h,haw,by omega⟩
theorem Po{ys:List ae}(hT:DK sg ps ys){mot:Nat}(hm:mot<ys.length)(hP:jW ql ys.length):
 ∃k m s ls args k2 m2 s2 ls2 args2,bt (.mk 0 ((ys.length:Int)-1-mot) .empty [] []) (vars ys.length ql)=.mk k m s ls args∧rj ys (.mk 3 0 .empty [] [.mk k m s ls args,.mk 0 0 .empty [] []])=.mk k2 m2 s2 ls2 args2∧Wt sg ps (.mk k2 m2 s2 ls2 args2) 0∧(ae.mk k2 m2 s2 ls2 args2).size=aj ys+ys.length+3+2*ql.length:=by
 have hvw:Wt sg ps (vr ((ys.length:Int)-1-mot)) ys.length:=Wt.var (by omega) (by omega);have haw:=Wt.apply hvw (qD (sg:=sg) (ps:=ps) hP);have haz:=cB (vr ((ys.length:Int)-1-mot)) (vars ys.length ql);rw[j8,nQ,FP] at haz;unfold vr at haw haz;obtain⟨k,m,s,ls,args,h⟩:=ae.case (bt (.mk 0 ((ys.length:Int)-1-mot) .empty [] []) (vars ys.length ql))
 rw[h] at haw haz;have hw5:=Wt.app haw (Wt.var (sg:=sg) (ps:=ps) (n:=0) (c:=(ys.length:Int)) (Int.le_refl _) (by omega));have hcw:=hT.wN (n:=0) (Nat.zero_le _) hw5;have hcz:=nY (ys.drop 0) (.mk 3 0 .empty [] [.mk k m s ls args,.mk 0 0 .empty [] []]);rw[List.drop_zero] at hcw hcz;rw[lZ,show(ae.mk 0 0 .empty [] []).size=1 from rfl] at hcz;obtain⟨k2,m2,s2,ls2,args2,h2⟩:=ae.case (rj ys (.mk 3 0 .empty [] [.mk k m s ls args,.mk 0 0 .empty [] []]))
 rw[h2] at hcw hcz;exact⟨k,m,s,ls,args,k2,m2,s2,ls2,args2,h,h2,hcw,by omega⟩
variable {Y3 Q3 p C m Y:Nat}
theorem Nz{Z P S:Nat}(h1:Y3=p+1+C+m)(h2:Q3=p+m)(h3:C≤Z)(h4:Z≤2000000)(h5:P=p+m)(h6:P<S+1)(h7:S≤1000000)(h8:Y=p):Y3≤100000000∧Q3≤100000000∧Y<Y3:=by omega
variable {L:Nat}
theorem Ny(h:Y3≤100000000∧Y<Y3)(h2:L=Y3+1):L≤1000000000∧Y<L∧Y3≤L∧0<L:=by omega
theorem Jq(h:L≤1000000000∧Y<L∧Y3≤L∧0<L):0≤(Y:Int)∧(Y:Int)≤1099511627776:=by omega
theorem Nx{Dz Sy Ly Sys M Sks Sxs3 B PD Sxs2 A X2 Q2 N W U T V:Nat}(h1:Dz=Sy+Ly+3+2*(Q3-p))(h2:Sy=Sys+M+Sks+Sxs3+B)(h3:B=1+PD+2*Q3)(h4:M=Sxs2+(A+0)+(X2+(0+1))+(1+L))(h5:A=1+PD+2*Q2)(h6:Sks≤12*C+12*N)(h7:N≤C)(h8:C≤2000000)(h9:Sxs3+m+W≤U)(h10:Sys+Y+U≤T)(h11:Sxs2+m+V≤U)(h12:L≤1000)(h13:T≤1000000)(h14:PD≤6)(h15:Ly=Y3+1)(h16:Y3=p+1+N+m)(h17:Q3=p+m)(h18:Q2=p+m)(h19:X2=m)(h20:Y=p):Dz≤1000000000:=by omega
set_option maxHeartbeats 4000000 in
theorem ry(x:RD)(p m:Nat)(hx:x.ad=p)(kL:Int)(sL:ByteArray)(aL:List aP)(hlv:iQ ps (.mk kL sL aL))(hlz:(aP.mk kL sL aL).size≤1000)
 (hw:Wt sg ps (.mk x.k1 x.n1 x.s1 x.l1 x.a1) 0) (hz:(ae.mk x.k1 x.n1 x.s1 x.l1 x.a1).size≤1000000) (hpm:bg (.mk x.k1 x.n1 x.s1 x.l1 x.a1)=p+m)
 (hcs:∀c∈x.cd,Wt sg ps c.2 0∧p≤bg c.2∧sg c.1=some x.pd.length∧c.2.size≤1000000) (hcz:Dn x.cd≤2000000) (hsg:sg x.sd=some x.pd.length) (hpd:∀q∈x.pd,q∈ps∧q≠ .empty) (hpl:x.pd.length≤6):
 cD Tryz.prog gl 167 [x.dec.d,.v (.int .i64 m),(aP.mk kL sL aL).d] fun dd=> ∃t:ae,dd=t.d∧Wt sg ps t 0∧t.size≤1000000000:=by
 have hpz:=dT _ (.mk x.k1 x.n1 x.s1 x.l1 x.a1) (Nat.le_refl _);have hcl0:=Ma x.cd;have hcl:=iU x.cd;have hbo:=lS (gl:=gl) (sg:=sg) (ps:=ps) x m 0 [] x.k1 x.n1 x.s1 x.l1 x.a1 [] p (fun q hq=>by cases hq) (fun i y hy=>by simp at hy) (by simp;omega) (by simp;omega) hw (by omega) (by omega);rw[← hx] at hbo;simp only[List.length_nil] at hbo;refine bD Tryz.func167 Tryz.ntmps167 ?_;refine kc 17 [7,6,5,3,1] 0 ?_;refine bz 39 5 rfl ?_;refine gc 6 ?_;refine oc (aN Ac rfl rfl rfl rfl (hbo) [3,4] (.cons rfl (.cells rfl (by repeat (first|exact yH|refine an ?_|refine .cons (.JK rfl) ?_))) (.cons rfl .NM .nil)) rfl rfl rfl rfl (an (bo (LO (an .nil)))) (fun s ob' hq=>?_) (fun s ob' hq=>?_));rotate_left
 ·obtain ⟨_,_,_,hq1,_⟩:=hq;cases hq1
 obtain⟨⟨ku,mu,su,lu,au⟩,ql,ys,hq1,rfl,g1,g2,g3,⟨pl',g4,g5⟩,xs,g6,g7,g8,g9⟩:=hq;cases hq1;rw[List.nil_append] at g4 g6;subst g4 g6;have hbo2:=lS (gl:=gl) (sg:=sg) (ps:=ps) x m 0 ys ku mu su lu au ql m g1 g2 (by omega) (by omega) g3 (by omega) (by omega);refine⟨_,_,_,_,_,rfl,rfl,rfl,rfl,rfl,?_⟩;refine ko 8 [9,8,7,6,5,3,1] 6 ?_;refine oc (aN Ac rfl rfl rfl rfl (hbo2) [3,4] (bj (.cons rfl .buf .nil)) rfl rfl rfl rfl (an (bo (an (an .nil)))) (fun s ob' hq=>?_) (fun s ob' hq=>?_));rotate_left
 ·obtain ⟨_,_,_,hq1,_⟩:=hq;cases hq1
 obtain⟨⟨kv,mv',sv,lv,av⟩,ql2,ys2,hq1,rfl,e1,e2,e3,⟨pl2,e4,e5⟩,xs2,e6,e7,e8,e9⟩:=hq;cases hq1;have hy2:ys2.length=p+m:=by rw[e6,List.length_append,g7,e7]
 have hq2:ql2.length=p+m:=by rw[e4,List.length_append,g5,e5]
 have happ:=gN (gl:=gl) x m 0 ys2 2 0 x.sd (lj x.pd) [] ql2 e1 (by omega) (by omega);obtain⟨kA,mA,sA,lA,aA,hA,haw,haz⟩:=MG (ps:=ps) e1 hsg hpd;rw[hA] at happ;refine⟨_,_,_,_,_,rfl,rfl,rfl,rfl,rfl,?_⟩;refine ko 8 [11,9,8,7,6,5,3,1] 6 ?_;refine oc (ck GF rfl rfl (jC x m 0 ys2 x.sd (by omega)) [3,4] rfl (bj (.cons rfl .buf .nil)) (an (an .nil)) ?_);refine go 1 ?_;refine oc (ck vD rfl rfl (happ) [3,4] rfl (bj (.cons rfl .buf .nil)) (an (an (an .nil))) ?_);refine ko 5 [12,9,8,7,6,5,3,1] 0 ?_;have hT3:=e2.app haw;have hy3:(ys2++[ae.mk kA mA sA lA aA]).length=p+m+1:=(by rw[List.length_append,hy2];rfl);have hcl1:=jJ (gl:=gl) x m 0 (ys2++[ae.mk kA mA sA lA aA]) 1 0 .empty [.mk kL sL aL] [] ys.length (by omega) (by omega) (by omega);have hcw1:=hT3.wN (n:=ys.length) (t:=.mk 1 0 .empty [.mk kL sL aL] []) (by omega) (Wt.sort hlv);have hcz1:=nY ((ys2++[ae.mk kA mA sA lA aA]).drop ys.length) (.mk 1 0 .empty [.mk kL sL aL] []);have htk1:(ys2++[ae.mk kA mA sA lA aA]).take ys.length=ys:=(by rw[e6,List.append_assoc,List.take_left]);have hdr1:(ys2++[ae.mk kA mA sA lA aA]).drop ys.length=xs2++[.mk kA mA sA lA aA]:=(by rw[e6,List.append_assoc,List.drop_left]);rw[hdr1] at hcl1 hcw1 hcz1;rw[htk1] at hcl1;rw[dF,List.length_append] at hcz1;obtain⟨kM,mM,sM,lM,aM,hM⟩:=ae.case (rj (xs2++[.mk kA mA sA lA aA]) (.mk 1 0 .empty [.mk kL sL aL] []))
 rw[hM] at hcl1 hcw1 hcz1;have hyl:ys.length=p:=g7;rw[show((ys.length:Nat):Int)=x.ad by rw[hx,hyl]] at hcl1;have hzs:(ae.mk 1 0 .empty [aP.mk kL sL aL] []).size=1+(aP.mk kL sL aL).size:=(by simp only[ae.size,bh,aj];omega);rw[hzs] at hcz1;simp only[aj,List.length_cons,List.length_nil] at hcz1;refine gc 3 ?_;refine oc (ck tQ rfl rfl (iH x m 0 ys2 kA mA sA lA aA (by omega)) [3,4] rfl (bj (.cons rfl .buf .nil)) (an (bo .nil)) ?_);refine ko 3 [9,8,7,6,5,3,1] 0 ?_;refine xo (ι:=Unit) (fun _=>[(13,.cb 8 0)]) (fun _=>[uQ x,lO kL sL aL,zO,NA 4 x m ys.length 0,fp ys,tO ku mu su lu au,tO kv mv' sv lv av,tO kA mA sA lA aA,tO kM mM sM lM aM]) [9,8,7,6,3,1] (fun _=>True) rfl ?A1 ?B1
 case A1=>
  refine gz [0,1,3,4] mixed ?_;refine cT (rs:=[2,6]) (by kernel_rfl) rfl ⟨?_,?_,trivial⟩
  ·skip
   refine A4 2 rfl (cv Iw rfl rfl (jt kL sL aL) (bo .nil) ?_);refine cT (rs:=[5,6]) (by kernel_rfl) rfl ⟨?_,?_,trivial⟩
   ·skip
    refine A4 5 rfl (ck xX rfl rfl (hcl1) [3,4] rfl (bj (.cons rfl .buf .nil)) (an (an (an .nil))) ?_);refine A2 6 rfl (qB bw ?_);refine A2 7 rfl (dN bw ?_);refine aZ ?_;refine bk () rfl ?_ [0,1,2,3,4,5,6,7,8] mz;trivial
   ·skip
    refine A4 6 rfl (qB bw ?_);refine A2 5 rfl (ck xX rfl rfl (hcl1) [3,4] rfl (bj (.cons rfl .buf .nil)) (an (an (an .nil))) ?_);refine A2 7 rfl (dN bw ?_);refine aZ ?_;refine bk () rfl ?_ [0,1,2,3,4,5,6,7,8] mz;trivial
  ·skip
   refine A4 6 rfl (qB bw ?_);refine A2 2 rfl (cv Iw rfl rfl (jt kL sL aL) (bo .nil) ?_);refine A2 5 rfl (ck xX rfl rfl (hcl1) [3,4] rfl (bj (.cons rfl .buf .nil)) (an (an (an .nil))) ?_);refine A2 7 rfl (dN bw ?_);refine aZ ?_;refine bk () rfl ?_ [0,1,2,3,4,5,6,7,8] mz;trivial
 case B1=>
  rintro _ hcut
  try dsimp only at hcut
  refine kc 0 [13,9,8,7,6,3,1] 7 ?_;refine o1 (gI bB rfl rfl ?_);refine ko 6 [13,9,8,7,6,3,1] 0 ?_;have hMw:Wt sg ps (.mk kM mM sM lM aM) ys.length:=hcw1;refine gc 3 ?_;refine oc (ck tQ rfl rfl (iH x m ys.length ys kM mM sM lM aM (by omega)) [3,4] rfl (bj (.cons rfl .buf .nil)) (an (bo .nil)) ?_);refine ko 3 [9,8,7,6,3,1] 6 ?_;refine lp (ι:=Nat×List ae) (fun⟨i,zs⟩=>[(14,int i)]) (fun⟨i,zs⟩=>[uQ x,lO kL sL aL,zO,NA 4 x m zs.length ys.length,fp zs,tO ku mu su lu au,tO kv mv' sv lv av,tO kA mA sA lA aA,tO kM mM sM lM aM]) [9,8,7,6,3,1] (fun⟨i,zs⟩=>i≤x.cd.length∧DK sg ps zs∧∃ks,zs=(ys++[.mk kM mM sM lM aM])++ks∧ks.length=i∧aj ks≤12*Dn (x.cd.take i)+12*i) (fun⟨i,zs⟩=>x.cd.length-i) ((0,ys++[.mk kM mM sM lM aM])) ([0,1,2,3,4,5,6,7,8]) rfl ?I2 ?M2 ?H2
  case I2=>
   exact⟨Nat.zero_le _,g2.app hMw,[],by simp,rfl,by simp[aj]⟩
  case M2=>
   exact mz
  case H2=>
   rintro⟨i,zs⟩ hinv
   try dsimp only at hinv
   obtain⟨i1,i2,ks,i3,i4,i5⟩:=hinv;refine kc 0 [14,9,8,7,6,3,1] 10 ?_;refine cj (fun h10=>?_) (fun h10=>?_)
   ·refine kc 5 [14,9,8,7,6,3,1] 0 ?_;obtain⟨cN,cK,cM,cS,cL,cA,hget⟩:=rb (show i<x.cd.length by omega);have hcm:=List.mem_of_getElem? hget;obtain⟨c1,c2,c3,hczm⟩:=hcs _ hcm;have hzl:zs.length=p+1+i:=(by rw[i3,List.length_append,List.length_append,hyl,i4];rfl);have hmi:=Es (gl:=gl) (sg:=sg) (ps:=ps) x m ys.length p hx zs cN cK cM cS cL cA (by omega) (by omega) i2 (by omega) c1 (by simp only at hczm;omega) c2 c3 hpd hpl;refine gc 5 ?_;refine o1 (cu yj Ap ?_ (he:=by exact(pk hget)));refine go 1 ?_;refine oc (aN P2 rfl rfl rfl rfl (hmi) [3,4] (bj (.cons rfl .buf .nil)) rfl rfl rfl rfl (an (bo .nil)) (fun s ob' hq=>?_) (fun s ob' hq=>?_));rotate_left
    ·obtain ⟨_,hq1,_⟩:=hq;cases hq1
    obtain⟨⟨kY,mY,sY,lY,aY⟩,hq1,rfl,hq4,hq5⟩:=hq;cases hq1;refine⟨_,_,_,_,_,rfl,rfl,rfl,rfl,rfl,?_⟩;refine ko 4 [15,14,9,8,7,6,3,1] 3 ?_;refine oc (ck tQ rfl rfl (iH x m ys.length zs kY mY sY lY aY (by omega)) [3,4] rfl (bj (.cons rfl .buf .nil)) (an (bo .nil)) ?_);refine ko 3 [14,9,8,7,6,3,1] 2 ?_;refine o1 (cG ?_);refine go 2 ?_;refine bk (i+1,zs++[.mk kY mY sY lY aY]) rfl ?_ [0,1,2,3,4,5,6,7,8] mz
    ·refine ⟨⟨by omega,i2.app hq4,ks++[.mk kY mY sY lY aY],by rw[i3,List.append_assoc],by rw[List.length_append,i4];rfl,?_⟩,show x.cd.length-(i+1)<x.cd.length-i by omega⟩;rw[dF,Kx hget];simp only[aj];omega
   refine kc 6 [9,8,7,6,3,1] 0 ?_;obtain rfl:i=x.cd.length:=(by omega);rw[List.take_length] at i5;have hzl:zs.length=p+1+x.cd.length:=(by rw[i3,List.length_append,List.length_append,hyl,i4];rfl);have hbo3:=lS (gl:=gl) (sg:=sg) (ps:=ps) x m ys.length zs ku mu su lu au ql m (g1.up (by omega)) i2 (by omega) (by omega) g3 (by omega) (by omega);refine gc 5 ?_;refine oc (aN Ac rfl rfl rfl rfl (hbo3) [3,4] (bj (.cons rfl .buf .nil)) rfl rfl rfl rfl (an (bo (an (an .nil)))) (fun s ob' hq=>?_) (fun s ob' hq=>?_));rotate_left
   ·obtain ⟨_,_,_,hq1,_⟩:=hq;cases hq1
   obtain⟨⟨kw,mw,sw,lw,aw⟩,ql3,ys3,hq1,rfl,f1,f2,f3,⟨pl3,f4,f5⟩,xs3,f6,f7,f8,f9⟩:=hq;cases hq1;have hy4:ys3.length=p+1+x.cd.length+m:=by rw[f6,List.length_append,hzl,f7]
   have hq3:ql3.length=p+m:=by rw[f4,List.length_append,g5,f5]
   have hb3:ys3.length≤100000000∧ql3.length≤100000000∧ys.length<ys3.length:=Nz hy4 hq3 hcl0 hcz hpm hpz hz hyl;have happ3:=gN (gl:=gl) x m ys.length ys3 2 0 x.sd (lj x.pd) [] ql3 f1 (Nat.le_trans hb3.1 (by decide)) (Nat.le_trans hb3.2.1 (by decide));obtain⟨kB,mB,sB,lB,aB,hB,haw3,haz3⟩:=MG (ps:=ps) f1 hsg hpd;rw[hB] at happ3;have hT5:=f2.app haw3;have hy5:(ys3++[ae.mk kB mB sB lB aB]).length=ys3.length+1:=by rw[List.length_append];rfl
   have hb4:(ys3++[ae.mk kB mB sB lB aB]).length≤1000000000∧ys.length<(ys3++[ae.mk kB mB sB lB aB]).length∧ys3.length≤(ys3++[ae.mk kB mB sB lB aB]).length∧0<(ys3++[ae.mk kB mB sB lB aB]).length:=Ny ⟨hb3.1,hb3.2.2⟩ hy5;have f1':jW ql3 (ys3++[ae.mk kB mB sB lB aB]).length:=f1.up hb4.2.2.1;have hil:=gH ql3;have happ4:=gN (gl:=gl) x m ys.length (ys3++[ae.mk kB mB sB lB aB]) 0 ((ys3++[ae.mk kB mB sB lB aB]).length-1-ys.length) .empty [] [] (ql3.drop p) (f1'.drop p) (Nat.le_trans hb4.1 (by decide)) (by rw[List.length_drop];exact Nat.le_trans (Nat.sub_le _ _) (Nat.le_trans hb3.2.1 (by decide)));obtain⟨kC,mC,sC,lC,aC,kD,mD,sD,lD,aD,hC,hD,hcw5,hcz5⟩:=Po hT5 hb4.2.1 (f1'.drop p);rw[hC] at happ4;have hap5:=dt (gl:=gl) kC mC sC lC aC 0 0 .empty [] [];have hcl5:=jJ (gl:=gl) x m ys.length (ys3++[ae.mk kB mB sB lB aB]) 3 0 .empty [] [.mk kC mC sC lC aC,.mk 0 0 .empty [] []] 0 (Nat.zero_le _) hb4.2.2.2 (Nat.le_trans hb4.1 (by decide));rw[List.drop_zero,hD] at hcl5;have hsz5:aj (ys3++[ae.mk kB mB sB lB aB])=aj ys+(ae.mk kM mM sM lM aM).size+aj ks+aj xs3+(ae.mk kB mB sB lB aB).size:=by
    rw[f6,i3];simp only[dF,aj,Nat.add_zero,Nat.add_assoc]
   have hfin:(ae.mk kD mD sD lD aD).size≤1000000000:=by
    rw[List.length_drop] at hcz5;exact Nx hcz5 hsz5 haz3 hcz1 haz i5 hcl0 hcz f8 g8 e8 hlz hz hpl hy5 hy4 hq3 hq2 e7 rfl
   refine⟨_,_,_,_,_,rfl,rfl,rfl,rfl,rfl,?_⟩;refine ko 6 [11,7,6,3] 7 ?_;refine oc (ck GF rfl rfl (jC x m ys.length ys3 x.sd (Nat.le_trans hpl (by decide))) [3,4] rfl (bj (.cons rfl .buf .nil)) (an (an .nil)) ?_);refine go 1 ?_;refine oc (ck vD rfl rfl (happ3) [3,4] rfl (bj (.cons rfl .buf .nil)) (an (an (an .nil))) ?_);refine oc (ck tQ rfl rfl (iH x m ys.length ys3 kB mB sB lB aB (Nat.le_trans hb3.1 (by decide))) [3,4] rfl (bj (.cons rfl .buf .nil)) (an (an .nil)) ?_);refine ko 3 [11,7,6,3] 0 ?_;refine xo (ι:=Unit) (fun _=>[(16,.cb 9 0)]) (fun _=>[uQ x,lO kL sL aL,zO,NA 4 x m (ys3++[ae.mk kB mB sB lB aB]).length ys.length,fp (ys3++[ae.mk kB mB sB lB aB]),tO ku mu su lu au,tO kv mv' sv lv av,tO kA mA sA lA aA,tO kM mM sM lM aM,tO kC mC sC lC aC]) [7,6] (fun _=>True) rfl ?A3 ?B3
   case A3=>
    refine gz [0,1,2,3,4,5,7,8,9] mixed ?_;refine A1 10 rfl (jH j9 mN rfl rfl rfl rfl rfl rfl (by omega) ((show(ints ql3).drop (x.ad).toNat=ints (ql3.drop p) by rw[hx];exact xC ql3 p)) ⟨_,rfl,?_⟩);refine cT (rs:=[6,12]) (by kernel_rfl) rfl ⟨?_,?_,trivial⟩
    ·skip
     refine A4 6 rfl (ck vC rfl rfl (nC x m ys.length (ys3++[ae.mk kB mB sB lB aB]) ys.length (Nat.le_trans hb4.1 (by decide)) (Jq hb4)) [3,4] rfl (bj (.cons rfl .buf .nil)) (an (an .nil)) ?_);refine cT (rs:=[11,12]) (by kernel_rfl) rfl ⟨?_,?_,trivial⟩
     ·skip
      refine A4 11 rfl (ck vD rfl rfl (happ4) [3,4] rfl (bj (.cons rfl .buf .nil)) (an (an (an .nil))) ?_);refine A2 12 rfl (qB bw ?_);refine A2 13 rfl (dN bw ?_);refine aZ ?_;refine bk () rfl ?_ [0,1,2,3,4,5,6,7,8,9] mz;trivial
     ·skip
      refine A4 12 rfl (qB bw ?_);refine A2 11 rfl (ck vD rfl rfl (happ4) [3,4] rfl (bj (.cons rfl .buf .nil)) (an (an (an .nil))) ?_);refine A2 13 rfl (dN bw ?_);refine aZ ?_;refine bk () rfl ?_ [0,1,2,3,4,5,6,7,8,9] mz;trivial
    ·skip
     refine A4 12 rfl (qB bw ?_);refine A2 6 rfl (ck vC rfl rfl (nC x m ys.length (ys3++[ae.mk kB mB sB lB aB]) ys.length (Nat.le_trans hb4.1 (by decide)) (Jq hb4)) [3,4] rfl (bj (.cons rfl .buf .nil)) (an (an .nil)) ?_);refine A2 11 rfl (ck vD rfl rfl (happ4) [3,4] rfl (bj (.cons rfl .buf .nil)) (an (an (an .nil))) ?_);refine A2 13 rfl (dN bw ?_);refine aZ ?_;refine bk () rfl ?_ [0,1,2,3,4,5,6,7,8,9] mz;trivial
   case B3=>
    rintro _ hcut
    try dsimp only at hcut
    refine kc 0 [16,7,6] 1 ?_;refine gz [0] mixed ?_;refine A2 1 rfl (cv Mh rfl rfl (qX 0) (an .nil) ?_);refine A2 2 rfl (cv pt rfl rfl (hap5) (bo (an .nil)) ?_);refine A2 3 rfl (dN bw ?_);refine aZ ?_;refine ge 5 ?_;refine oc (ck xX rfl rfl (hcl5) [3,4] rfl (bj (.cons rfl .buf .nil)) (an (bo (an .nil))) ?_);refine go 4 ?_;refine ed ((ae.mk kD mD sD lD aD).d) ?_;exact⟨_,rfl,hcw5,hfin⟩
end
section
open Go Go.Vd Go.RowKit
attribute [local irreducible] bu bA di ak bL cU
variable {g gl:Nat→List D}
mutual
def tS:ae→Prop
 | .mk _ _ _ ls args=>ls.length≤1000000∧args.length≤1000000∧(∀ l∈ls,LF l)∧Qw args
def Qw:List ae→Prop
 |[]=>True
 |t::r=>tS t∧Qw r
end
theorem FW:∀{l:List ae} {i:Nat} {t:ae},Qw l→l[i]? =some t→tS t
 |a::r,0,t,h,hi=>by cases hi;exact h.1
 |a::r,i+1,t,h,hi=>FW (l:=r) (i:=i) h.2 (by simpa using hi)
mutual
theorem Wt.tS{sg:Sg}{ps:List ByteArray}(hs:∀s n,sg s=some n→n≤1000000):∀{t:ae} {c:Int},Wt sg ps t c→tS t
 | .mk k m s ls args,c,h=>by
  have h2:=h.2.2;refine⟨?_,?_,fun l hl=>?_,gV.tS hs h.2.1⟩
  ·rcases h2 with h2|h2|h2|h2|h2
   ·rw [h2.2.2.2.1];simp
   ·rw [h2.2.2.2.1];omega
   ·exact hs _ _ h2.2.2.1
   ·rw [h2.2.2.2.1];simp
   ·rw [h2.2.2.2.1];simp
  ·rcases h2 with h2|h2|h2|h2|h2
   ·rw [h2.2.2.2.2];omega
   ·rw [h2.2.2.2.2];omega
   ·rw [h2.2.2.2];omega
   ·rw [h2.2.2.2.2];omega
   ·rw [h2.2.2.2.2];omega
  ·obtain ⟨x,rfl,_⟩:=h.1 l hl;exact jy x
theorem gV.tS{sg:Sg}{ps:List ByteArray}(hs:∀s n,sg s=some n→n≤1000000):∀{l:List ae} {b:Bool} {c:Int},gV sg ps b l c→Qw l
 |[],_,_,_=>trivial
 |t::r,b,c,h=>⟨Wt.tS hs h.1,gV.tS hs h.2⟩
end
theorem Ce:∀(n:Nat) (k m:Int) (s:ByteArray) (ls:List aP) (args:List ae) (most:Int),(ae.mk k m s ls args).size≤n→tS (.mk k m s ls args)→0≤most→most≤1099511627776→
 cD Tryz.prog gl 102 [(ae.mk k m s ls args).d,.v (.int .i64 most)] fun d=> ∃r:Int,d=.v (.int .i64 r)∧1≤r∧r≤most+1∧(r≤most→r=(ae.mk k m s ls args).size):=by
 intro n
 induction n with
 |zero=>intro k m s ls args most h;simp[ae.size] at h
 |succ n ih=>
  intro k m s ls args most hsz hb hm0 hm1;simp only[ae.size] at hsz;obtain⟨hb1,hb2,hb3,hb4⟩:=hb;have hal:=aO args;have hll:=bV ls;refine bD Tryz.func102 Tryz.ntmps102 ?_;refine kc 18 [6,5,2,1] 0 ?_;refine lP (ι:=Nat×Int) (fun⟨i,c⟩=>[(6,int i),(5,int c)]) [2,1] (fun⟨i,c⟩=>i≤ls.length∧1≤c∧c≤most+1∧(c≤most→c=1+bh (ls.take i))) (fun⟨i,c⟩=>ls.length-i) ((0,1)) rfl ?I9 ?M9 ?H9
  case I9=>
   exact⟨Nat.zero_le _,by omega,by omega,fun _=>by simp[bh]⟩
  case M9=>
   exact mz
  case H9=>
   rintro⟨i,c⟩ hinv
   try dsimp only at hinv
   refine kc 0 [6,5,2,1] 9 ?_;refine' oa (yt:=18) (d:=15) 3 ?a1 ?b1 ?_
   case a1=>
    intro hc hK;refine go 3 ?_;exact hK [_,_,_] rfl rfl
   case b1=>
    intro _ hK;refine go 3 ?_;exact hK [_,_,_] rfl
   refine go 2 ?_;refine cj (fun h3=>?_) (fun h3=>?_)
   ·refine kc 5 [6,5,2,1] 0 ?_;obtain⟨k',s',a',hget⟩:=dh (show i<ls.length by omega);have hg1:=eI hget;refine gc 4 ?_;refine o1 (cu fo fH ?_ (he:=by exact(dD hget)));refine go 3 ?_;refine o1 (iC ?_);refine oc (T:=fun _=>False) (bJ Dv rfl rfl rfl rfl (uC _ k' s' a' (most-c) (Nat.le_refl _) (hb3 _ (List.mem_of_getElem? hget)) (by omega) (by omega)) (bo (an .nil)) (fun d hd=>?_));obtain⟨r,rfl,hr1,hr2,hr3⟩:=hd;refine ko 3 [7,6,5,2,1] 3 ?_;refine o1 (cG ?_);refine ko 4 [5,6,2,1] 2 ?_;refine o1 (cG ?_);refine go 2 ?_;refine bi (i+1,c+r) rfl ?_ mz;exact⟨⟨by omega,by omega,by omega,fun h=>by rw[gA hget];omega⟩,show ls.length-(i+1)<ls.length-i by omega⟩
   refine kc 7 [5,2,1] 0 ?_;have hc2:c≤most+1:=hinv.2.2.1;have hc3:c≤most→c=1+bh ls:=(fun h=>by
    have h4:i=ls.length:=by omega
    rw[hinv.2.2.2 h,h4,List.take_length])
   have hc1:=hinv.2.1;refine gc 5 ?_;refine lP (ι:=Nat×Int) (fun⟨j,e⟩=>[(8,int j),(5,int e)]) [2,1] (fun⟨j,e⟩=>j≤args.length∧1≤e∧e≤most+1∧(e≤most→e=1+bh ls+aj (args.take j))) (fun⟨j,e⟩=>args.length-j) ((0,c)) rfl ?I10 ?M10 ?H10
   case I10=>
    exact⟨Nat.zero_le _,hc1,hc2,fun h=>by simp[aj];exact hc3 h⟩
   case M10=>
    exact mz
   case H10=>
    rintro⟨j,e⟩ hinv
    try dsimp only at hinv
    refine kc 0 [8,5,2,1] 9 ?_;refine' oa (yt:=42) (d:=39) 3 ?a2 ?b2 ?_
    case a2=>
     intro hc hK;refine go 3 ?_;exact hK [_,_,_] rfl rfl
    case b2=>
     intro _ hK;refine go 3 ?_;exact hK [_,_,_] rfl
    refine go 2 ?_;refine cJ (fun h8=>?_) (fun h8=>?_)
    ·refine kc 5 [5] 2 ?_;have hend:e≤most→j=args.length:=(fun h=>by omega);refine go 5 ?_;refine ez ?_;exact⟨e,rfl,hinv.2.1,hinv.2.2.1,fun h=>by rw[hinv.2.2.2 h,hend h,List.take_length];simp only[ae.size];omega⟩
    refine kc 5 [8,5,2,1] 0 ?_;obtain⟨k2,m2,s2,l2,a2,hget⟩:=bK (show j<args.length by omega);have hg1:=bG hget;refine gc 4 ?_;refine o1 (cu bB bH ?_ (he:=by exact(bW hget)));refine go 3 ?_;refine o1 (iC ?_);refine oc (T:=fun _=>False) (bJ vE rfl rfl rfl rfl (ih k2 m2 s2 l2 a2 (most-e) (by omega) (FW hb4 hget) (by omega) (by omega)) (bo (an .nil)) (fun d hd=>?_));obtain⟨r,rfl,hr1,hr2,hr3⟩:=hd;refine ko 3 [9,8,5,2,1] 3 ?_;refine o1 (cG ?_);refine ko 4 [5,8,2,1] 2 ?_;refine o1 (cG ?_);refine go 2 ?_;refine bi (j+1,e+r) rfl ?_ mz;exact⟨⟨by omega,by omega,by omega,fun h=>by rw[mP hget];omega⟩,show args.length-(j+1)<args.length-j by omega⟩
theorem CP(k m:Int)(s:ByteArray)(ls:List aP)(args:List ae)(k2 m2:Int)(s2:ByteArray)(ls2:List aP)(args2:List ae)(hs1:tS (.mk k m s ls args))(hz:20000<(ae.mk k m s ls args).size):
 cD Tryz.prog gl 106 [(ae.mk k m s ls args).d,(ae.mk k2 m2 s2 ls2 args2).d] fun d=> ∃b:Bool,d=.v (.bool b)∧b=true:=by
 refine bD Tryz.func106 Tryz.ntmps106 ?_;refine gc 10 ?_;refine oc (T:=fun _=>False) (bJ vE rfl rfl rfl rfl (Ce _ k m s ls args 20000 (Nat.le_refl _) hs1 (by omega) (by omega)) (bo (an .nil)) (fun d hd=>?_));obtain⟨r,rfl,hr1,hr2,hr3⟩:=hd;refine ko 4 [5,3,2] 6 ?_;refine cJ (fun h2=>?_) (fun h2=>?_)
 ·omega
 refine kc 0 [] 7 ?_;refine ez ?_;exact⟨true,rfl,rfl⟩
theorem E9(es:List cy)(w:Bool)(k m:Int)(s:ByteArray)(ls:List aP)(args:List ae)(k2 m2:Int)(s2:ByteArray)(ls2:List aP)(args2:List ae)(hs1:tS (.mk k m s ls args))(hz:20000<(ae.mk k m s ls args).size):
 et Tryz.prog gl 64 [bc es w,ba] [.cb 0 0,.d (ae.mk k m s ls args).d,.d (ae.mk k2 m2 s2 ls2 args2).d] fun out ob'=>out=.ret (.d iZ.d)∧ob'=[bc es true,ba]:=by
 refine bS Tryz.func64 Tryz.ntmps64 2 ?_;refine gc 11 ?_;refine oc (T:=fun _=>False) (bJ Ng rfl rfl rfl rfl (CP k m s ls args k2 m2 s2 ls2 args2 hs1 hz) (bo (bo .nil)) (fun d hd=>?_));obtain⟨bm,rfl,hbm⟩:=hd;refine ko 4 [7,6,5,4,0] 4 ?_;refine' oo (yt:=16) (d:=12) 4 ?a3 ?b3 ?_
 case a3=>
  intro hc hK;refine go 4 ?_;exact hK [_,_,_,_] rfl rfl
 case b3=>
  intro _ hK;refine go 4 ?_;exact hK [_,_,_,_] rfl
 refine go 2 ?_;refine cJ (fun h2=>?_) (fun h2=>?_)
 ·exfalso;(exfalso;rw[hbm] at h2;simp at h2)
 refine kc 8 [6] 3 ?_;refine oc (gD ji [.tmp 21] eL ?_);refine go 6 ?_;refine eo (iZ.d) [0,1] [bc es true,ba] ?_
 ·exact ⟨rfl,rfl⟩
theorem E8(es:List cy)(w:Bool){B B':Int}(hB:B≤1125899906842624)(hB':B'≤1125899906842624)(k m:Int)(s:ByteArray)(ls:List aP)(args:List ae)(k2 m2:Int)(s2:ByteArray)(ls2:List aP)(args2:List ae)(hs1:tS (.mk k m s ls args))(hs2:(ae.mk k2 m2 s2 ls2 args2).size≤1099511627776)(hsh1:(ae.mk k m s ls args).size≤20000→iD B (.mk k m s ls args))(hsh2:iD B' (.mk k2 m2 s2 ls2 args2)):
 et Tryz.prog gl 64 [bc es w,ba] [.cb 0 0,.d (ae.mk k m s ls args).d,.d (ae.mk k2 m2 s2 ls2 args2).d] fun out ob'=> ∃(u:ae) (w':Bool),out=.ret (.d u.d)∧ob'=[bc es w',ba]∧
  ((w'=false∧w=false∧u=dp (.mk k m s ls args) (.mk k2 m2 s2 ls2 args2)∧u.size≤20000)∨(w'=true∧u=iZ)):=by
 by_cases h:(ae.mk k m s ls args).size≤20000
 ·exact oy es w hB hB' k m s ls args k2 m2 s2 ls2 args2 (by omega) hs2 (hsh1 h) hsh2
 ·refine (E9 es w k m s ls args k2 m2 s2 ls2 args2 hs1 (by omega)).mono fun o b hh=>?_
  exact⟨iZ,true,hh.1,hh.2,.inr ⟨rfl,rfl⟩⟩
variable {sg:Sg} {ps:List ByteArray}
theorem DF(hL:ps.length≤6)(hs:∀s n,sg s=some n→n≤1000000):∀(n:Nat) (k m:Int) (s:ByteArray) (ls:List aP) (args:List ae) (k2 m2:Int) (s2:ByteArray) (ls2:List aP) (args2:List ae) (c c2:Int),(ae.mk k m s ls args).size≤n→
 Wt sg ps (.mk k m s ls args) c→Wt sg ps (.mk k2 m2 s2 ls2 args2) c2→
 cD Tryz.prog gl 40 [(ae.mk k m s ls args).d,(ae.mk k2 m2 s2 ls2 args2).d,.v (.bool true)] fun d=> ∃b:Bool,d=.v (.bool b):=by
 intro n
 induction n with
 |zero=>intro k m s ls args k2 m2 s2 ls2 args2 c c2 h;simp[ae.size] at h
 |succ n ih=>
  intro k m s ls args k2 m2 s2 ls2 args2 c c2 hn hw hw2;have hlen:=aO args;have hlen2:=aO args2;have hlenL:=bV ls;have hlenL2:=bV ls2;obtain⟨hb1,hb2,_,_⟩:=hw.tS hs;simp only[ae.size] at hn;refine bD Tryz.func40 Tryz.ntmps40 ?_;refine gc 16 ?_;refine' oo (yt:=21) (d:=16) 5 ?a4 ?b4 ?_
  case a4=>
   intro hc hK;refine go 5 ?_;exact hK [_,_,_,_,_] rfl rfl
  case b4=>
   intro _ hK;refine go 5 ?_;exact hK [_,_,_,_,_] rfl
  refine go 1 ?_;refine' oo (yt:=28) (d:=23) 5 ?a5 ?b5 ?_
  case a5=>
   intro hc hK;refine go 5 ?_;exact hK [_,_,_,_,_] rfl rfl
  case b5=>
   intro _ hK;refine go 5 ?_;exact hK [_,_,_,_,_] rfl
  refine go 1 ?_;refine' oo (yt:=37) (d:=30) 7 ?a6 ?b6 ?_
  case a6=>
   intro hc hK;refine go 7 ?_;exact hK [_,_,_,_,_,_,_] rfl rfl
  case b6=>
   intro _ hK;refine go 7 ?_;exact hK [_,_,_,_,_,_,_] rfl
  refine go 1 ?_;refine' oo (yt:=46) (d:=39) 7 ?a7 ?b7 ?_
  case a7=>
   intro hc hK;refine go 7 ?_;exact hK [_,_,_,_,_,_,_] rfl rfl
  case b7=>
   intro _ hK;refine go 7 ?_;exact hK [_,_,_,_,_,_,_] rfl
  refine go 2 ?_;refine cj (fun h1=>?_) (fun h1=>?_)
  ·refine kc 0 [] 7 ?_;refine ez ?_;exact⟨_,rfl⟩
  refine kc 3 [4,3,2] 6 ?_;refine lP (ι:=Nat) (fun i=>[(7,int i)]) [4,3,2] (fun i=>i≤ls.length) (fun i=>ls.length-i) (0) rfl ?I11 ?M11 ?H11
  case I11=>
   exact Nat.zero_le _
  case M11=>
   exact mz
  case H11=>
   rintro i hinv
   try dsimp only at hinv
   refine kc 0 [7,4,3,2] 10 ?_;refine cJ (fun h4=>?_) (fun h4=>?_)
   ·refine kc 6 [4,3,2] 6 ?_;refine lP (ι:=Nat) (fun j=>[(9,int j)]) [4,3,2] (fun j=>j≤args.length) (fun j=>args.length-j) (0) rfl ?I12 ?M12 ?H12
    case I12=>
     exact Nat.zero_le _
    case M12=>
     exact mz
    case H12=>
     rintro j hinv
     try dsimp only at hinv
     refine kc 0 [9,4,3,2] 10 ?_;refine cJ (fun h12=>?_) (fun h12=>?_)
     ·refine kc 5 [] 6 ?_;refine ez ?_;exact⟨_,rfl⟩
     refine kc 5 [9,4,3,2] 0 ?_;obtain⟨k',n',s',l',a',hget⟩:=bK (show j<args.length by omega);obtain⟨k2',n2',s2',l2',a2',hget2⟩:=bK (show j<args2.length by omega);have hsz':=bG hget;refine gz [0,1,2] mixed ?_;refine A1 3 rfl (cu bB bH ⟨_,rfl,?_⟩ (he:=by exact(bW hget)));refine ga [4,5,6,7] ?_;refine A1 8 rfl (cu bB bH ⟨_,rfl,?_⟩ (he:=by exact(bW hget2)));refine ga [9,10] ?_;refine A2 (T:=fun _=>False) 11 rfl (bJ Mn rfl rfl rfl rfl (ih k' n' s' l' a' k2' n2' s2' l2' a2' _ _ (by omega) (gV.get hw.2.1 hget) (gV.get hw2.2.1 hget2)) (bo (bo (an .nil))) (fun d hd=>?_));obtain⟨r2,rfl⟩:=hd;refine ga [12] ?_;refine aZ ?_;refine ke 1 [10,9,4,3,2] 6 ?_;refine cj (fun h15=>?_) (fun h15=>?_)
     ·refine kc 0 [] 11 ?_;refine ez ?_;exact⟨_,rfl⟩
     refine gc 5 ?_;refine o1 (cG ?_);refine go 2 ?_;refine bi (j+1) rfl ?_ mz;exact⟨by omega,by omega⟩
   refine kc 5 [7,4,3,2] 0 ?_;obtain⟨k',s',a',hget⟩:=dh (show i<ls.length by omega);obtain⟨k2',s2',a2',hget2⟩:=dh (show i<ls2.length by omega);obtain⟨x,hx,fx,ix⟩:=hw.1 _ (List.mem_of_getElem? hget);obtain⟨y,hy,fy,iy⟩:=hw2.1 _ (List.mem_of_getElem? hget2);have hrs:=BT (gl:=gl) x y (tt hL ix iy) (tt hL iy ix);have hxS:=jy x;have hyS:=jy y;rw[← hx,←hy] at hrs;rw[← hx] at hxS;rw[← hy] at hyS;have hss:=yp (gl:=gl) _ k' s' a' k2' s2' a2' (Nat.le_refl _) hxS hyS;refine gz [0,1,2] mixed ?_;refine A1 3 rfl (cu fo fH ⟨_,rfl,?_⟩ (he:=by exact(dD hget)));refine ga [4,5,6,7] ?_;refine A1 8 rfl (cu fo fH ⟨_,rfl,?_⟩ (he:=by exact(dD hget2)));refine ga [9] ?_;refine A2 (T:=fun _=>False) 10 rfl (bJ Mi rfl rfl rfl rfl (hss) (bo (bo .nil)) (fun d hd=>?_));obtain⟨q1,rfl⟩:=hd;refine ga [11] ?_;refine aZ ?_;refine ke 2 [8,7,4,3,2] 5 ?_;refine' oa (yt:=69) (d:=68) 1 ?a8 ?b8 ?_
   case a8=>
    intro hc hK;refine go 1 ?_;exact hK [_] rfl rfl
   case b8=>
    intro _ hK;refine go 1 ?_;exact hK [_] rfl
   refine ko 2 [70,8,7,4,3,2] 0 ?_;refine xc (ι:=Bool) (fun r=>[(8,.d (.v (.bool r)))]) [7,4,3,2] (fun r=>True) rfl ?A13 ?B13
   case A13=>
    refine cJ (fun h7=>?_) (fun h7=>?_)
    ·refine gc 1 ?_;refine bi (q1) rfl ?_ mz;trivial
    refine gz [0,1,2] mixed ?_;refine A1 3 rfl (cu fo fH ⟨_,rfl,?_⟩ (he:=by exact(dD hget)));refine ga [4,5,6,7] ?_;refine A1 8 rfl (cu fo fH ⟨_,rfl,?_⟩ (he:=by exact(dD hget2)));refine ga [9] ?_;refine A2 (T:=fun _=>False) 10 rfl (bJ Rc rfl rfl rfl rfl (hrs) (bo (bo .nil)) (fun d hd=>?_));obtain⟨q2,rfl⟩:=hd;refine ga [11] ?_;refine aZ ?_;refine bi (q2) rfl ?_ mz;trivial
   case B13=>
    rintro r hcut
    try dsimp only at hcut
    refine kc 0 [8,7,4,3,2] 6 ?_;refine cj (fun h9=>?_) (fun h9=>?_)
    ·refine kc 0 [] 11 ?_;refine ez ?_;exact⟨_,rfl⟩
    refine gc 5 ?_;refine o1 (cG ?_);refine go 2 ?_;refine bi (i+1) rfl ?_ mz;exact⟨by omega,by omega⟩
theorem AB(hL:ps.length≤6)(hs:∀s n,sg s=some n→n≤1000000)(k m:Int)(s:ByteArray)(ls:List aP)(args:List ae)(k2 m2:Int)(s2:ByteArray)(ls2:List aP)(args2:List ae){c c2:Int}
 (hw:Wt sg ps (.mk k m s ls args) c) (hw2:Wt sg ps (.mk k2 m2 s2 ls2 args2) c2):
 cD Tryz.prog gl 50 [(ae.mk k m s ls args).d,(ae.mk k2 m2 s2 ls2 args2).d] fun d=> ∃b:Bool,d=.v (.bool b):=by
 refine bD Tryz.func50 Tryz.ntmps50 ?_;refine gc 11 ?_;refine oc (T:=fun _=>False) (bJ Mn rfl rfl rfl rfl (DF hL hs _ k m s ls args k2 m2 s2 ls2 args2 c c2 (Nat.le_refl _) hw hw2) (bo (bo (an .nil))) (fun d hd=>?_));obtain⟨r2,rfl⟩:=hd;refine go 4 ?_;refine ez ?_;exact⟨_,rfl⟩
end
section
open Go Go.Vd Go.RowKit
attribute [local irreducible] bu bA di ak bL cU
variable {g gl:Nat→List D}
inductive HT (sg:Sg) (ps:List ByteArray) (S:Nat):Nat→ae→Int→Prop
 |base {n t c} (h:Wt sg ps t c) (hz:t.size≤S):HT sg ps S n t c
 |sort {n L c} (h:iQ ps L):HT sg ps S n (.mk 1 0 .empty [L] []) c
 |pi {n A B c} (hA:Wt sg ps A c) (hz:A.size≤S) (hB:HT sg ps S n B (c+1)):HT sg ps S (n+1) (.mk 5 0 .empty [] [A,B]) c
variable {sg:Sg} {ps:List ByteArray} {S n:Nat} {t:ae} {c:Int}
theorem HT.wt(h:HT sg ps S n t c):Wt sg ps t c:=by
 induction h with
 |base h=>exact h
 |sort h=>exact Wt.sort h
 |pi hA _ _ ih=>exact Wt.bind (.inr rfl) hA ih
theorem HT.mono{S':Nat}(h:HT sg ps S n t c)(hS:S≤S'):∀{n':Nat},n≤n'→HT sg ps S' n' t c:=by
 induction h with
 |base h hz=>intro n' _;exact .base h (by omega)
 |sort h=>intro n' _;exact .sort h
 |pi hA hz _ ih=>
  intro n' hn;obtain⟨m,rfl⟩:∃m,n'=m+1:=⟨n'-1,by omega⟩;exact .pi hA (by omega) (ih (by omega))
theorem HT.up{sg:Sg}{ps:List ByteArray}{S n:Nat}{t:ae}{c:Int}(h:HT sg ps S n t c):∀{c':Int},c≤c'→HT sg ps S n t c':=by
 induction h with
 |base h hz=>intro c' hc;exact .base (h.up hc) hz
 |sort h=>intro c' _;exact .sort h
 |pi hA hz _ ih=>intro c' hc;exact .pi (hA.up hc) hz (ih (by omega))
theorem HT.NF{m:Int}{s:ByteArray}{ls:List aP}{args:List ae}(h:HT sg ps S n (.mk 5 m s ls args) c):∃A B,args=[A,B]∧m=0∧s=.empty∧ls=[]∧Wt sg ps A c∧A.size≤S∧HT sg ps S n B (c+1):=by
 generalize ht:ae.mk 5 m s ls args=t at h;cases h with
 |base h hz=>
  subst ht;obtain⟨A,B,rfl,rfl,rfl,rfl,hA,hB⟩:=h.two (.inr (.inr rfl));rw[if_neg (by decide)] at hB;simp only[ae.size,bh,aj] at hz;exact⟨A,B,rfl,rfl,rfl,rfl,hA,by omega,.base hB (by omega)⟩
 |sort h=>cases ht
 |pi hA hz hB=>cases ht;exact⟨_,_,rfl,rfl,rfl,rfl,hA,hz,hB.mono (Nat.le_refl _) (by omega)⟩
theorem Aw(k m:Int)(s:ByteArray)(ls:List aP)(args:List ae)(hk:k≠3):
 cD Tryz.prog gl 65 [(ae.mk k m s ls args).d] (· =.bZ [(ae.mk k m s ls args).d,.sl 5 (aH [])]):=by
 refine bD Tryz.func65 Tryz.ntmps65 ?_;refine kc 14 [4,2,1] 0 ?_;refine lp (ι:=Unit) (fun _=>[]) (fun _=>[tO k m s ls args,zO]) [4,2,1] (fun _=>True) (fun _=>0) (()) ([0,1]) rfl ?I2 ?M2 ?H2
 case I2=>
  trivial
 case M2=>
  exact mz
 case H2=>
  rintro _ hinv
  try dsimp only at hinv
  refine kc 0 [4,2,1] 8 ?_;refine cj (fun h2=>?_) (fun h2=>?_)
  ·contradiction
  refine gc 14 ?_;refine o1 (Qz bB ?_);refine o1 (iC ?_);refine ko 4 [6,5,4,2,1] 0 ?_;refine lp (ι:=Unit) (fun _=>[]) (fun _=>[tO k m s ls args,zO]) [6,5,4,2,1] (fun _=>True) (fun _=>0) (()) ([0,1]) rfl ?I3 ?M3 ?H3
  case I3=>
   trivial
  case M3=>
   exact mz
  case H3=>
   rintro _ hinv
   try dsimp only at hinv
   refine kc 0 [6,5,4,2,1] 7 ?_;refine cj (fun h7=>?_) (fun h7=>?_)
   ·contradiction
   refine kc 5 [5,2,1] 9 ?_;refine ed (.bZ [(ae.mk k m s ls args).d,.sl 5 (aH [])]) ?_;rfl
theorem wg(es:List cy)(w t:Bool)(k m:Int)(s:ByteArray)(ls:List aP)(args:List ae)(hk:k=1∨k=5)(d most pr:Int):
 et Tryz.prog gl 51 [bc es w,ba,iW d most t pr] [.cb 0 0,.d (ae.mk k m s ls args).d,.cb 2 0] fun out ob'=>out=.ret (.d (ae.mk k m s ls args).d)∧ob'=[bc es w,ba,iW d most t pr]:=by
 have hsp:=Aw (gl:=gl) k m s ls args (by omega);refine bS Tryz.func51 Tryz.ntmps51 3 ?_;refine kc 8 [6,4,0,2] 0 ?_;refine lp (ι:=Unit) (fun _=>[]) (fun _=>[bc es w,ba,iW d most t pr,tO k m s ls args,zO]) [6,4,0,2] (fun _=>True) (fun _=>0) (()) ([0,1,2,3,4]) rfl ?I4 ?M4 ?H4
 case I4=>
  trivial
 case M4=>
  exact mz
 case H4=>
  rintro _ hinv
  try dsimp only at hinv
  refine kc 0 [6,4,0,2] 9 ?_;refine' oa (yt:=27) (d:=22) 5 ?a1 ?b1 ?_
  case a1=>
   intro hc hK;refine go 5 ?_;exact hK [_,_,_,_,_] rfl rfl
  case b1=>
   intro _ hK;refine go 5 ?_;exact hK [_,_,_,_,_] rfl
  refine go 2 ?_;refine cJ (fun h1=>?_) (fun h1=>?_)
  ·refine kc 5 [6,4] 7 ?_;refine eo ((ae.mk k m s ls args).d) [0,1,2] [bc es w,ba,iW d most t pr] ?_
   ·exact ⟨rfl,rfl⟩
  refine kc 3 [6,4,0,2] 3 ?_;refine oc (cv yM rfl rfl (hsp) (bo .nil) ?_);refine ko 9 [8,7,6,4,0,2] 13 ?_;refine cj (fun h4=>?_) (fun h4=>?_)
  ·omega
  refine gc 6 ?_;refine cj (fun h11=>?_) (fun h11=>?_)
  ·omega
  refine kc 0 [35,8,7,6,4,0,2] 6 ?_;refine cj (fun h16=>?_) (fun h16=>?_)
  ·omega
  refine kc 3 [6,4] 11 ?_;refine eo ((ae.mk k m s ls args).d) [0,1,2] [bc es w,ba,iW d most t pr] ?_
  ·exact ⟨rfl,rfl⟩
end
section
open Go Go.Vd Go.RowKit
attribute [local irreducible] bu bA di ak bL cU
variable {g gl:Nat→List D}
def KP(es:List cy)(w:Bool)(Q:ae→Prop)(out:Out)(ob':List Ob):Prop:=
 ∃(u:ae) (d' code:Int) (w':Bool),out=.ret (.d (.bZ [u.d,.v (.int .i64 d'),.v (.int .i64 code)]))∧ob'=[bc es w',ba]∧(code=0∨code=14)∧(w'=false→w=false)∧(code=0→w'=false∧Q u)
theorem vk(es:List cy)(w:Bool)(k m:Int)(s:ByteArray)(ls:List aP)(args:List ae)(hk:k=1∨k=5)(most:Int):
 et Tryz.prog gl 32 [bc es w,ba] [.cb 0 0,.d (ae.mk k m s ls args).d,.d (.v (.int .i64 most))] (KP es w fun u=>u=.mk k m s ls args):=by
 have hwh:=wg (gl:=gl) es w false k m s ls args hk 0 most 0;refine bS Tryz.func32 Tryz.ntmps32 2 ?_;refine kc 16 [9,6,4,0] 5 ?_;refine oc (ck KE rfl rfl (hwh) [0,1,4] rfl (bj (cr (bj .nil))) (an (bo (an .nil))) ?_);refine ko 5 [10,9,6,0] 7 ?_;refine' oo (yt:=26) (d:=22) 4 ?a1 ?b1 ?_
 case a1=>
  intro hc hK;refine go 4 ?_;exact hK [_,_,_,_] rfl rfl
 case b1=>
  intro _ hK;refine go 4 ?_;exact hK [_,_,_,_] rfl
 refine go 2 ?_;refine cj (fun h3=>?_) (fun h3=>?_)
 ·refine kc 0 [6] 10 ?_;refine eo (.bZ [aQ.d,.v (.int .i64 0),.v (.int .i64 14)]) [0,1] [bc es w,ba] ?_
  ·exact ⟨aQ,0,14,w,rfl,rfl,.inr rfl,fun h=>h,fun h=>by omega⟩
 refine kc 3 [10,9,6] 0 ?_;refine gz [0,1,2,3,4] mixed ?_;refine A2 5 rfl (dN bw ?_);refine ga [6,7] ?_;refine aZ ?_;refine ge 2 ?_;refine eo (.bZ [(ae.mk k m s ls args).d,.v (.int .i64 0),.v (.int .i64 0)]) [0,1] [bc es w,ba] ?_
 ·have hok:w=false:=(by cases w<;>simp_all);exact⟨_,0,0,w,rfl,rfl,.inl rfl,fun h=>h,fun _=>⟨hok,rfl⟩⟩
variable {es:List cy} {ps:List ByteArray} {most S:Nat}
theorem vm(hE:dg es){c:Int}(hc:0≤c){n:Nat}(hm:most≤1000000)(w:Bool)(k m:Int)(s:ByteArray)(ls:List aP)(args:List ae)(hz:c+S+30000*most≤1000000000000)(hw:HT (eh es) ps S n (.mk k m s ls args) c):
 et Tryz.prog gl 32 [bc es w,ba] [.cb 0 0,.d (ae.mk k m s ls args).d,.d (.v (.int .i64 most))] (KP es w fun u=>HT (eh es) ps (S+30000*most) n u c):=by
 have hm2:=hw.mono (Nat.le_add_right S (30000*most)) (Nat.le_refl _);generalize ht:ae.mk k m s ls args=t at hw;cases hw with
 |base h hs=>
  subst ht;refine(Eg hE hc hm w k m s ls args (by omega) h).mono fun o b hh=>?_
  obtain⟨u,d',code,w',rfl,rfl,h1,h2,h3,h4⟩:=hh;refine⟨u,d',code,w',rfl,rfl,h2,fun e=>(h4 e).1,fun e=>⟨h3 e,?_⟩⟩;rcases(h4 (h3 e)).2 with⟨e1,_⟩|⟨_,q,e2⟩
  ·omega
  ·obtain ⟨g1,g2,g3,g4⟩:=yd hE hc q e2 (by omega) h;exact .base g1 (by omega)
 |sort h=>
  cases ht;refine(vk es w 1 0 .empty _ [] (.inl rfl) most).mono fun o b hh=>?_
  obtain⟨u,d',code,w',rfl,rfl,h2,h3,h4⟩:=hh;exact⟨u,d',code,w',rfl,rfl,h2,h3,fun e=>⟨(h4 e).1,by rw[(h4 e).2];exact hm2⟩⟩
 |pi hA hs hB=>
  cases ht;refine(vk es w 5 0 .empty [] _ (.inr rfl) most).mono fun o b hh=>?_
  obtain⟨u,d',code,w',rfl,rfl,h2,h3,h4⟩:=hh;exact⟨u,d',code,w',rfl,rfl,h2,h3,fun e=>⟨(h4 e).1,by rw[(h4 e).2];exact hm2⟩⟩
def OL(es:List cy)(most d:Nat)(pr:Int)(w tI:Bool)(Q:ae→Prop)(out:Out)(ob':List Ob):Prop:=
 ∃(u:ae) (d':Nat) (t' w':Bool) (p':Int),out=.ret (.d u.d)∧ob'=[bc es w',ba,iW d' most t' p']∧d≤d'∧d'≤most∧pr<p'∧p'≤pB pr∧(w'=false→w=false∧(t'=true∨(t'=false∧tI=false∧Q u)))
def NQ(gl:Nat→List D)(es:List cy)(most:Nat)(t:ae)(Q:ae→Prop):Prop:=
 ∀(d:Nat) (pr:Int) (w tI:Bool),d≤most→0≤pr→pr≤1000000000000000000→
  et Tryz.prog gl 37 [bc es w,ba,iW d most tI pr] [.cb 0 0,.d t.d,.cb 2 0] (OL es most d pr w tI Q)
set_option maxHeartbeats 800000 in
theorem w0(es:List cy)(most:Nat)(k m:Int)(s:ByteArray)(ls:List aP)(args:List ae)(hk:k=1∨k=5)(hl:args.length≤1000000)(Q:Nat→ae→Prop)(hQ:∀(i:Nat) x,args[i]? =some x→NQ gl es most x (Q i)):
 NQ gl es most (.mk k m s ls args) fun u=> ∃ys,u=.mk k m s ls ys∧ys.length=args.length∧∀(i:Nat) y,ys[i]? =some y→Q i y:=by
 intro d pr w tI hdm hp0 hpm;have hwh:=wg (gl:=gl) es w tI k m s ls args hk d most pr;have hpb:pr+1≤pB pr:=by unfold pB;split<;>omega
 have hal:=aO args;refine bS Tryz.func37 Tryz.ntmps37 3 ?_;refine gc 11 ?_;refine oc (ck KE rfl rfl (hwh) [0,1,2] rfl (bj (cr (bj .nil))) (an (bo (an .nil))) ?_);refine ko 3 [6,4,0,2] 6 ?_;refine o1 (cG ?_);refine ko 5 [6,4,0,2] 8 ?_;refine' oo (yt:=33) (d:=28) 5 ?a2 ?b2 ?_
 case a2=>
  intro hc hK;refine go 5 ?_;exact hK [_,_,_,_,_] rfl rfl
 case b2=>
  intro _ hK;refine go 5 ?_;exact hK [_,_,_,_,_] rfl
 refine ko 6 [6,4,0,2] 7 ?_;refine' oo (yt:=45) (d:=41) 4 ?a3 ?b3 ?_
 case a3=>
  intro hc hK;refine go 4 ?_;exact hK [_,_,_,_] rfl rfl
 case b3=>
  intro _ hK;refine go 4 ?_;exact hK [_,_,_,_] rfl
 refine go 2 ?_;refine cj (fun h4=>?_) (fun h4=>?_)
 ·refine kc 0 [6,4] 8 ?_;refine eo ((ae.mk k m s ls args).d) [0,1,2] [bc es (w||decide (20000<pr+1)),ba,iW d most tI (pr+1)] ?_
  ·refine ⟨.mk k m s ls args,d,tI,_,pr+1,rfl,rfl,Nat.le_refl _,hdm,by omega,hpb,fun hw=>?_⟩;simp only[Bool.or_eq_false_iff,decide_eq_false_iff_not,Int.not_lt] at hw;refine⟨hw.1,.inl ?_⟩;rcases h4 with h|h|h
   ·exact h
   ·rw [hw.1] at h;cases h
   ·omega
 refine kc 3 [6,4,0,2] 7 ?_;refine cj (fun h6=>?_) (fun h6=>?_)
 ·omega
 refine gc 9 ?_;have hok:tI=false∧w=false∧pr+1≤20000:=(by cases tI<;>cases w<;>simp_all);obtain⟨rfl,rfl,hpr⟩:=hok;refine kc 5 [11,10,6,4,0,2] 0 ?_;refine bz 39 5 rfl ?_;refine lp (ι:=Nat×Bool×Bool×Nat×Int×List ae) (fun⟨i,w3,t3,d3,p3,ys⟩=>[(11,int i),(10,.own 5 5 (aH ys))]) (fun⟨i,w3,t3,d3,p3,ys⟩=>[bc es w3,ba,iW d3 most t3 p3,tO k m s ls args,zO,tR]) [6,4,0,2] (fun⟨i,w3,t3,d3,p3,ys⟩=>i≤args.length∧ys.length=i∧d≤d3∧d3≤most∧pr+1≤p3∧p3≤20001+(20000-pr)*1000000000001+i∧(pr+1<p3∨i=0)∧(w3=false→t3=true∨(t3=false∧∀(j:Nat) y,ys[j]? =some y→Q j y))) (fun⟨i,w3,t3,d3,p3,ys⟩=>args.length-i) ((0,(false||decide (20000<pr+1)),false,d,pr+1,[])) ([0,1,2,3,4,5]) rfl ?I4 ?M4 ?H4
 case I4=>
  exact⟨Nat.zero_le _,rfl,Nat.le_refl _,hdm,Int.le_refl _,by omega,.inr rfl,fun _=>.inr ⟨rfl,fun j y h=>by cases h⟩⟩
 case M4=>
  refine mo ?_ (aJ (ef rfl (by exact Fit.nil rfl) (aJ (aJ (aJ (aJ dC))))))
  repeat (first|exact cH|refine bj ?_|refine cr ?_|refine qx ?_)
 case H4=>
  rintro⟨i,w3,t3,d3,p3,ys⟩ hinv
  try dsimp only at hinv
  refine kc 0 [11,10,6,4,0,2] 10 ?_;refine cJ (fun h15=>?_) (fun h15=>?_)
  ·refine kc 6 [10,6,4] 0 ?_;have hws:=jX (gl:=gl) k m s ls args ys;refine gc 3 ?_;refine oc (cv Iu rfl rfl (hws) (bo (bo .nil)) ?_);refine go 4 ?_;refine eo ((ae.mk k m s ls ys).d) [0,1,2] [bc es w3,ba,iW d3 most t3 p3] ?_
   ·obtain ⟨i1,i2,i3,i4,i5,i6,i7,i8⟩:=hinv;refine⟨.mk k m s ls ys,d3,t3,w3,p3,rfl,rfl,i3,i4,by omega,by unfold pB;rw[if_pos (by omega)];omega,fun hw=>⟨rfl,?_⟩⟩;rcases i8 hw with g1|⟨g1,g2⟩
    ·exact .inl g1
    ·exact .inr ⟨g1,rfl,ys,rfl,by omega,g2⟩
  refine kc 4 [11,10,6,4,0,2] 0 ?_;obtain⟨kx,mx,sx,lx,ax,hget⟩:=bK (show i<args.length by omega);have hi2:=hinv.2.1;have hnm:=hQ i _ hget d3 p3 w3 t3 hinv.2.2.2.1 (by have:=hinv.2.2.2.2.1;omega) (by have:=hinv.2.2.2.2.2.1;omega);have hytl:=aO ys;refine gc 6 ?_;refine o1 (cu bB bH ?_ (he:=by exact(bW hget)));refine go 2 ?_;refine oc (aN Ix rfl rfl rfl rfl (hnm) [0,1,2] (bj (cr (bj .nil))) rfl rfl rfl rfl (an (bo (an .nil))) (fun s ob' hq=>?_) (fun s ob' hq=>?_));rotate_left
  ·obtain ⟨_,_,_,_,_,hq1,_⟩:=hq;cases hq1
  obtain⟨⟨kY,mY,sY,lY,aY⟩,d4,t4,w4,p4,hq1,rfl,hq3,hq4,hq5,hq6,hq7⟩:=hq;cases hq1;have hnx:aH ys++[[.v (.int .i64 kY),.v (.int .i64 mY),.v (.string sY),.sl 3 (bF lY),.sl 5 (aH aY)]]=aH (ys++[.mk kY mY sY lY aY]):=(by rw[dj];rfl);refine⟨_,_,_,_,_,rfl,rfl,rfl,rfl,rfl,?_⟩;refine oc (gD dE [.tmp 87] bw ?_);refine oc (px dE ?_);refine ko 4 [10,11,6,4,0,2] 2 ?_;refine o1 (cG ?_);refine go 2 ?_;rw[hnx];refine bk (i+1,w4,t4,d4,p4,ys++[.mk kY mY sY lY aY]) rfl ?_ [0,1,2,3,4,5] mz
  ·obtain ⟨i1,i2,i3,i4,i5,i6,i7,i8⟩:=hinv;refine⟨⟨by omega,by rw[List.length_append,i2];rfl,by omega,hq4,by omega,?_,.inl (by omega),fun hw=>?_⟩,show args.length-(i+1)<args.length-i by omega⟩
   ·unfold pB at hq6;split at hq6<;>omega
   ·obtain ⟨e1,e2⟩:=hq7 hw;rcases e2 with e2|⟨e2,e3,e4⟩
    ·exact .inl e2
    ·rcases i8 e1 with f1|⟨f1,f2⟩
     ·rw [f1] at e3;cases e3
     ·refine .inr ⟨e2,fun j y hy=>?_⟩;rcases Nat.lt_or_ge j i with hji|hji
      ·rw [List.getElem?_append_left (by omega)] at hy;exact f2 j y hy
      ·rw [List.getElem?_append_right (by omega)] at hy;have hj:j=i:=by
        have h3:=(List.getElem?_eq_some_iff.1 hy).1;simp only[List.length_cons,List.length_nil] at h3;omega
       subst hj;rw[i2,Nat.sub_self] at hy;cases hy;exact e4
theorem w9(hE:dg es)(hm:most≤1000000):∀(n:Nat) (t:ae) (c:Int),HT (eh es) ps S n t c→0≤c→c+n+S+30000*most≤1000000000000→NQ gl es most t fun u=>HT (eh es) ps (S+30000*most) n u c:=by
 have hbase:∀(t:ae) (c:Int),Wt (eh es) ps t c→t.size≤S→0≤c→c+S+30000*most≤1000000000000→NQ gl es most t fun u=>Wt (eh es) ps u c∧u.size≤S+30000*most:=by
  intro t c h hs hc hz d pr w tI hdm hp0 hpm;obtain⟨k,m,s,ls,args,rfl⟩:=ae.case t
  refine(zA hE (ps:=ps) hm ((ae.mk k m s ls args).size+30000*(most-d)+1) k m s ls args c d pr w tI hdm hc (by omega) (by omega) h hp0 hpm).mono fun o b hh=>?_
  obtain⟨u,d',t',w',p',rfl,rfl,h1,h2,h3,h4,h5⟩:=hh;refine⟨u,d',t',w',p',rfl,rfl,h1,h2,h3,h4,fun e=>⟨(h5 e).1,?_⟩⟩;rcases(h5 e).2 with⟨e1,_⟩|⟨e1,e2,e3⟩
  ·exact .inl e1
  ·obtain ⟨g1,_,_,_,_,g2⟩:=GS hE _ e3 hdm hc h;exact .inr ⟨e1,e2,g1,by omega⟩
 have hweak:∀{t:ae} {Q Q':ae→Prop},(∀ u,Q u→Q' u)→NQ gl es most t Q→NQ gl es most t Q':=by
  intro t Q Q' hi h d pr w tI hdm hp0 hpm;refine(h d pr w tI hdm hp0 hpm).mono fun o b hh=>?_
  obtain⟨u,d',t',w',p',r1,r2,h1,h2,h3,h4,h5⟩:=hh;exact⟨u,d',t',w',p',r1,r2,h1,h2,h3,h4,fun e=>⟨(h5 e).1,(h5 e).2.imp id fun f=>⟨f.1,f.2.1,hi u f.2.2⟩⟩⟩
 intro n t c h
 induction h with
 |base h hs=>intro hc hz;exact hweak (fun u hu=>.base hu.1 hu.2) (hbase _ _ h hs hc (by omega))
 |sort h=>
  intro hc hz d pr w tI hdm hp0 hpm;refine(w0 es most 1 0 .empty [_] [] (.inl rfl) (by simp) (fun _ _=>True) (fun i x hx=>by cases hx) d pr w tI hdm hp0 hpm).mono fun o b hh=>?_
  obtain⟨u,d',t',w',p',rfl,rfl,h1,h2,h3,h4,h5⟩:=hh;refine⟨u,d',t',w',p',rfl,rfl,h1,h2,h3,h4,fun e=>⟨(h5 e).1,?_⟩⟩;rcases(h5 e).2 with e1|⟨e1,e2,ys,rfl,e3,e4⟩
  ·exact .inl e1
  ·obtain rfl:=List.eq_nil_of_length_eq_zero e3;exact .inr ⟨e1,e2,.sort h⟩
 | @pi n A B c hA hs hB ih=>
  intro hc hz d pr w tI hdm hp0 hpm;refine(w0 es most 5 0 .empty [] [A,B] (.inr rfl) (by simp) (fun i y=>(i=0→Wt (eh es) ps y c∧y.size≤S+30000*most)∧(i=1→HT (eh es) ps (S+30000*most) n y (c+1))) (fun i x hx=>?_) d pr w tI hdm hp0 hpm).mono fun o b hh=>?_
  ·match i,hx with
   |0,hx=>cases hx;exact hweak (fun u hu=>⟨fun _=>hu,fun h=>by omega⟩) (hbase _ _ hA hs hc (by omega))
   |1,hx=>cases hx;exact hweak (fun u hu=>⟨fun h=>by omega,fun _=>hu⟩) (ih (by omega) (by omega))
  ·obtain ⟨u,d',t',w',p',rfl,rfl,h1,h2,h3,h4,h5⟩:=hh;refine⟨u,d',t',w',p',rfl,rfl,h1,h2,h3,h4,fun e=>⟨(h5 e).1,?_⟩⟩;rcases(h5 e).2 with e1|⟨e1,e2,ys,rfl,e3,e4⟩
   ·exact .inl e1
   ·match ys,e3,e4 with
    |[y,z],_,e4=>
     have g1:=(e4 0 y rfl).1 rfl;have g2:=(e4 1 z rfl).2 rfl;exact .inr ⟨e1,e2,.pi g1.1 g1.2 g2⟩
end
section
open Go Go.Vd Go.RowKit
attribute [local irreducible] bu bA di ak bL cU
variable {g gl:Nat→List D}
theorem yX{P:Program}{f:FuncId}{args:List D}{Q Q':D→Prop}(h:cD P gl f args Q)(hi:∀d,Q d→Q' d):cD P gl f args Q':=
 et.mono h fun o b hh=>⟨hh.1,hh.2.elim fun d hd=>⟨d,hd.1,hi d hd.2⟩⟩
def SQ(gl:Nat→List D)(t:ae)(Q:ae→Prop):Prop:=
 cD Tryz.prog gl 49 [t.d] fun d=> ∃u:ae,d=u.d∧Q u
theorem vf(k m:Int)(s:ByteArray)(ls:List aP)(args:List ae)(hk:k=1∨k=5)(hl:args.length≤1000000)(Q:Nat→ae→Prop)(hQ:∀(i:Nat) x,args[i]? =some x→SQ gl x (Q i)):
 SQ gl (.mk k m s ls args) fun u=> ∃ys,u=.mk k m s ls ys∧ys.length=args.length∧∀(i:Nat) y,ys[i]? =some y→Q i y:=by
 have hal:=aO args;unfold SQ;refine bD Tryz.func49 Tryz.ntmps49 ?_;refine kc 18 [4,3,2,1] 0 ?_;refine bz 39 5 rfl ?_;refine lp (ι:=Nat×List ae) (fun⟨i,ys⟩=>[(4,int i),(3,.own 2 5 (aH ys))]) (fun⟨i,ys⟩=>[tO k m s ls args,zO,tR]) [2,1] (fun⟨i,ys⟩=>i≤args.length∧ys.length=i∧∀(j:Nat) y,ys[j]? =some y→Q j y) (fun⟨i,ys⟩=>args.length-i) ((0,[])) ([0,1,2]) rfl ?I2 ?M2 ?H2
 case I2=>
  exact⟨Nat.zero_le _,rfl,fun j y h=>by cases h⟩
 case M2=>
  refine mo ?_ (aJ (ef rfl (by exact Fit.nil rfl) (aJ (aJ dC))))
  repeat (first|exact cH|refine bj ?_|refine qx ?_)
 case H2=>
  rintro⟨i,ys⟩ hinv
  try dsimp only at hinv
  refine kc 0 [4,3,2,1] 10 ?_;refine cj (fun h3=>?_) (fun h3=>?_)
  ·refine kc 4 [4,3,2,1] 0 ?_;obtain⟨kx,mx,sx,lx,ax,hget⟩:=bK (show i<args.length by omega);have hnm:=hQ i _ hget;unfold SQ at hnm;have hytl:=aO ys;have hyl:=hinv.2.1;refine gc 5 ?_;refine o1 (cu bB bH ?_ (he:=by exact(bW hget)));refine go 1 ?_;refine oc (T:=fun _=>False) (bJ Ml rfl rfl rfl rfl (hnm) (bo .nil) (fun d hd=>?_));obtain⟨⟨kY,mY,sY,lY,aY⟩,rfl,hYw⟩:=hd;have hnx:aH ys++[[.v (.int .i64 kY),.v (.int .i64 mY),.v (.string sY),.sl 3 (bF lY),.sl 5 (aH aY)]]=aH (ys++[.mk kY mY sY lY aY]):=(by rw[dj];rfl);refine oc (gD dE [.tmp 21] bw ?_);refine oc (px dE ?_);refine ko 4 [3,4,2,1] 2 ?_;refine o1 (cG ?_);refine go 2 ?_;rw[hnx];refine bk (i+1,ys++[.mk kY mY sY lY aY]) rfl ?_ [0,1,2] mz
   ·refine ⟨⟨by omega,by rw[List.length_append,hinv.2.1];rfl,fun j y hy=>?_⟩,show args.length-(i+1)<args.length-i by omega⟩;have i2:=hinv.2.1;rcases Nat.lt_or_ge j i with hji|hji
    ·rw [List.getElem?_append_left (by omega)] at hy;exact hinv.2.2 j y hy
    ·rw [List.getElem?_append_right (by omega)] at hy;have hj:j=i:=by
      have h3:=(List.getElem?_eq_some_iff.1 hy).1;simp only[List.length_cons,List.length_nil] at h3;omega
     subst hj;rw[i2,Nat.sub_self] at hy;cases hy;exact hYw
  refine kc 6 [3,2,1] 0 ?_;have hi:i=args.length:=(by omega);have hyl:=hinv.2.1;have hy4:=hinv.2.2;have hws:=jX (gl:=gl) k m s ls args ys;obtain⟨kb,mb,sb,lb,ab,hb1⟩:∃kb mb sb lb ab,k=4→ys[1]? =some (.mk kb mb sb lb ab):=⟨0,0,.empty,[],[],fun e=>by omega⟩;have hk2:k∈[(1:Int),5]:=(by simpa using hk);clear hk;refine gc 3 ?_;refine oc (cv Iu rfl rfl (hws) (bo (bo .nil)) ?_);refine ko 4 [2,1] 6 ?_;refine' oo (yt:=36) (d:=30) 6 ?a1 ?b1 ?_
  case a1=>
   intro hc hK;refine go 2 ?_;refine gy ?_;refine o1 (cu bB bH ?_ (he:=by exact(bW (hb1 hc))));refine go 3 ?_;exact hK [_,_,_,_,_,_] rfl rfl
  case b1=>
   intro _ hK;refine go 6 ?_;exact hK [_,_,_,_,_,_] rfl
  refine go 2 ?_;refine cJ (fun h7=>?_) (fun h7=>?_)
  ·exfalso;(exfalso;simp at hk2;omega)
  refine kc 0 [2,1] 8 ?_;refine ed ((ae.mk k m s ls ys).d) ?_;exact⟨_,rfl,ys,rfl,by omega,hy4⟩
theorem vg{sg:Sg}{ps:List ByteArray}{S:Nat}(hS:S≤1000000000000):∀(n:Nat) (t:ae) (c:Int),HT sg ps S n t c→0≤c→c+n+S≤2000000000000→SQ gl t fun u=>HT sg ps S n u (c+S):=by
 have hbase:∀(t:ae) (c:Int),Wt sg ps t c→t.size≤S→0≤c→c+S≤2000000000000→SQ gl t fun u=>Wt sg ps u (c+S)∧u.size≤S:=by
  intro t c h hs hc hz;obtain⟨k,m,s,ls,args,rfl⟩:=ae.case t
  refine yX (D3 (gl:=gl) _ k m s ls args c (Nat.le_refl _) (by omega) hc (by omega) h) fun d hd=>?_
  obtain⟨u,rfl,h1,h2⟩:=hd;exact⟨u,rfl,h1.up (by omega),by omega⟩
 have hweak:∀{t:ae} {Q Q':ae→Prop},(∀ u,Q u→Q' u)→SQ gl t Q→SQ gl t Q':=by
  intro t Q Q' hi h;refine yX h fun d hd=>?_
  obtain⟨u,rfl,h1⟩:=hd;exact⟨u,rfl,hi u h1⟩
 intro n t c h
 induction h with
 |base h hs=>intro hc hz;exact hweak (fun u hu=>.base hu.1 hu.2) (hbase _ _ h hs hc (by omega))
 |sort h=>
  intro hc hz;refine hweak (fun u hu=>?_) (vf 1 0 .empty [_] [] (.inl rfl) (by simp) (fun _ _=>True) (fun i x hx=>by cases hx));obtain⟨ys,rfl,e3,_⟩:=hu;obtain rfl:=List.eq_nil_of_length_eq_zero e3;exact .sort h
 | @pi n A B c hA hs hB ih=>
  intro hc hz;refine hweak (fun u hu=>?_) (vf 5 0 .empty [] [A,B] (.inr rfl) (by simp) (fun i y=>(i=0→Wt sg ps y (c+S)∧y.size≤S)∧(i=1→HT sg ps S n y (c+1+S))) (fun i x hx=>?_))
  ·obtain ⟨ys,rfl,e3,e4⟩:=hu
   match ys,e3,e4 with
   |[y,z],_,e4=>
    have g1:=(e4 0 y rfl).1 rfl;have g2:=(e4 1 z rfl).2 rfl;exact .pi g1.1 g1.2 (g2.up (by omega))
  ·match i,hx with
   |0,hx=>cases hx;exact hweak (fun u hu=>⟨fun _=>hu,fun h=>by omega⟩) (hbase _ _ hA hs hc (by omega))
   |1,hx=>cases hx;exact hweak (fun u hu=>⟨fun h=>by omega,fun _=>hu⟩) (ih (by omega) (by omega))
end
section
open Go Go.Vd Go.RowKit
attribute [local irreducible] bu bA di ak bL cU
variable {g gl:Nat→List D}
set_option maxHeartbeats 800000 in
theorem tv{es:List cy}(hE:dg es){ps:List ByteArray}(hL:ps.length≤6){c:Int}(hc:0≤c){most S n n2:Nat}(hm:most≤1000000)(w:Bool)(k m:Int)(s:ByteArray)(ls:List aP)(args:List ae)(k2 m2:Int)(s2:ByteArray)(ls2:List aP)(args2:List ae)(hz:c+n+S+30000*most≤1000000000000)(hz2:c+n2+S+30000*most≤1000000000000)(hw:HT (eh es) ps S n (.mk k m s ls args) c)(hw2:HT (eh es) ps S n2 (.mk k2 m2 s2 ls2 args2) c):
 et Tryz.prog gl 30 [bc es w,ba] [.cb 0 0,.d (ae.mk k m s ls args).d,.d (ae.mk k2 m2 s2 ls2 args2).d,.d (.v (.int .i64 most))] (OR w es):=by
 have hn1:=w9 (gl:=gl) hE (ps:=ps) hm n _ c hw hc hz 0 0 w false (by omega) (by omega) (by omega);refine bS Tryz.func30 Tryz.ntmps30 2 ?_;refine kc 16 [10,6,5,0] 5 ?_;refine oc (aN Ix rfl rfl rfl rfl (hn1) [0,1,4] (bj (cr (bj .nil))) rfl rfl rfl rfl (an (bo (an .nil))) (fun s ob' hq=>?_) (fun s ob' hq=>?_));rotate_left
 ·obtain ⟨_,_,_,_,_,hq1,_⟩:=hq;cases hq1
 obtain⟨⟨k3,m3,s3,l3,a3⟩,d1,t1,w1,p1,hq1,rfl,hd1,hd2,hp1,hp2,hres⟩:=hq;cases hq1;unfold pB at hp2;rw[if_pos (by omega)] at hp2;have hn2:=w9 (gl:=gl) hE (ps:=ps) hm n2 _ c hw2 hc hz2 d1 p1 w1 t1 hd2 (by omega) (by omega);refine⟨_,_,_,_,_,rfl,rfl,rfl,rfl,rfl,?_⟩;refine ko 4 [11,10,6,0] 5 ?_;refine oc (aN Ix rfl rfl rfl rfl (hn2) [0,1,4] (bj (cr (bj .nil))) rfl rfl rfl rfl (an (bo (an .nil))) (fun s ob' hq=>?_) (fun s ob' hq=>?_));rotate_left
 ·obtain ⟨_,_,_,_,_,hq1,_⟩:=hq;cases hq1
 obtain⟨⟨k4,m4,s4,l4,a4⟩,d2,t2,w2,p2,hq1,rfl,hd3,hd4,hp3,hp4,hres2⟩:=hq;cases hq1;refine⟨_,_,_,_,_,rfl,rfl,rfl,rfl,rfl,?_⟩;refine ko 5 [12,11,10,0] 7 ?_;refine' oo (yt:=32) (d:=28) 4 ?a1 ?b1 ?_
 case a1=>
  intro hc hK;refine go 4 ?_;exact hK [_,_,_,_] rfl rfl
 case b1=>
  intro _ hK;refine go 4 ?_;exact hK [_,_,_,_] rfl
 refine go 2 ?_;refine cj (fun h4=>?_) (fun h4=>?_)
 ·refine kc 0 [] 8 ?_;refine eo (.bZ [.v (.bool false),.v (.int .i64 14)]) [0,1] [bc es w2,ba] ?_
  ·exact ⟨false,14,w2,rfl,rfl,.inr rfl,fun h=>by omega,fun h=>(hres (hres2 h).1).1⟩
 refine kc 3 [12,11] 0 ?_;have hok:t2=false∧w2=false:=(by cases t2<;>cases w2<;>simp_all);obtain⟨rfl,rfl⟩:=hok;obtain⟨hw1,hr2⟩:=hres2 rfl;obtain⟨hw0,hr1⟩:=hres hw1;have hr3:t1=false∧HT (eh es) ps (S+30000*most) n2 (.mk k4 m4 s4 l4 a4) c:=(by
  rcases hr2 with h|⟨_,h1,h2⟩
  ·cases h
  ·exact ⟨h1,h2⟩)
 have hr4:HT (eh es) ps (S+30000*most) n (.mk k3 m3 s3 l3 a3) c:=(by
  rcases hr1 with h|⟨_,h1,h2⟩
  ·rw [hr3.1] at h;cases h
  ·exact h2)
 have hs1:=vg (gl:=gl) (show S+30000*most≤1000000000000 by omega) n _ c hr4 hc (by omega);have hs2:=vg (gl:=gl) (show S+30000*most≤1000000000000 by omega) n2 _ c hr3.2 hc (by omega);unfold SQ at hs1 hs2;refine gc 2 ?_;refine oc (T:=fun _=>False) (bJ Ml rfl rfl rfl rfl (hs1) (bo .nil) (fun d hd=>?_));obtain⟨⟨k5,m5,s5,l5,a5⟩,rfl,g1⟩:=hd;refine go 6 ?_;refine oc (T:=fun _=>False) (bJ Ml rfl rfl rfl rfl (hs2) (bo .nil) (fun d hd=>?_));obtain⟨⟨k6,m6,s6,l6,a6⟩,rfl,g3⟩:=hd;refine ko 3 [12,11] 4 ?_;refine oc (T:=fun _=>False) (bJ Rh rfl rfl rfl rfl (AB hL (fun s n h=>Nat.le_trans (hE.sg h) (by omega)) k5 m5 s5 l5 a5 k6 m6 s6 l6 a6 g1.wt g3.wt) (bo (bo .nil)) (fun d hd=>?_));obtain⟨r,rfl⟩:=hd;refine go 5 ?_;refine eo (.bZ [.v (.bool r),.v (.int .i64 0)]) [0,1] [bc es false,ba] ?_
 ·exact ⟨r,0,false,rfl,rfl,.inl rfl,fun _=>rfl,fun _=>hw0⟩
end
section
open Go Go.Vd Go.RowKit
attribute [local irreducible] bu bA di ak bL cU
variable {g gl:Nat→List D}
def OT(w:Bool)(es:List cy)(out:Out)(ob':List Ob):Prop:=
 ∃(code:Int) (w':Bool),out=.ret (.d (.v (.int .i64 code)))∧ob'=[bc es w',ba]∧(code=0→w'=false)∧(w'=false→w=false)
theorem ux{es:List cy}(hE:dg es){ps:List ByteArray}(hL:ps.length≤6){c:Int}(hc:0≤c){most S n n2:Nat}(hm:most≤1000000)(w:Bool)(k m:Int)(s:ByteArray)(ls:List aP)(args:List ae)(k2 m2:Int)(s2:ByteArray)(ls2:List aP)(args2:List ae)(hz:c+n+S+30000*most≤1000000000000)(hz2:c+n2+S+30000*most≤1000000000000)(hw:HT (eh es) ps S n (.mk k m s ls args) c)(hw2:HT (eh es) ps S n2 (.mk k2 m2 s2 ls2 args2) c):
 et Tryz.prog gl 63 [bc es w,ba] [.cb 0 0,.d (ae.mk k m s ls args).d,.d (ae.mk k2 m2 s2 ls2 args2).d,.d (.v (.int .i64 most))] (OT w es):=by
 have hq1:=tv (gl:=gl) hE hL hc hm w k m s ls args k2 m2 s2 ls2 args2 hz hz2 hw hw2;refine bS Tryz.func63 Tryz.ntmps63 2 ?_;refine gc 13 ?_;refine oc (aN PW rfl rfl rfl rfl (hq1) [0,1] (bj (cr .nil)) rfl rfl rfl rfl (an (bo (bo (an .nil)))) (fun s ob' hq=>?_) (fun s ob' hq=>?_));rotate_left
 ·obtain ⟨_,_,_,hq1,_⟩:=hq;cases hq1
 obtain⟨r,code,w1,hq1,rfl,h1',h2',h3'⟩:=hq;cases hq1;refine⟨_,_,_,_,_,rfl,rfl,rfl,rfl,rfl,?_⟩;refine ko 8 [10,9] 6 ?_;refine cj (fun h2=>?_) (fun h2=>?_)
 ·refine gc 8 ?_;refine eo (.v (.int .i64 code)) [0,1] [bc es w1,ba] ?_
  ·exact ⟨code,w1,rfl,rfl,h2',h3'⟩
 refine gc 9 ?_;refine cj (fun h4=>?_) (fun h4=>?_)
 ·refine kc 0 [] 7 ?_;refine eo (.v (.int .i64 9)) [0,1] [bc es w1,ba] ?_
  ·exact ⟨9,w1,rfl,rfl,fun h=>by omega,h3'⟩
 refine kc 2 [] 6 ?_;refine eo (.v (.int .i64 0)) [0,1] [bc es w1,ba] ?_
 ·exact ⟨0,w1,rfl,rfl,fun _=>h2' (by omega),h3'⟩
end
section
open Go Go.Vd Go.RowKit
def uP:O1:=⟨fun a b=>max a b,fun a b=>max a (1+b),fun a v b=>max (max a v) b,0,0⟩
def Np:O1:=⟨fun a b=>1+a+b,fun a b=>1+a+b,fun a v b=>1+a+v+b,1,0⟩
def dep(t:ae):Nat:=zE uP t fun _=>0
def DO(t:ae):Nat:=zE Np t fun _=>0
theorem Aa:gq 0 (fun _=>0)=fun _=>0:=by funext i;cases i<;>rfl
theorem L7(m:Int)(s:ByteArray)(ls:List aP)(a b:ae):dep (.mk 3 m s ls [a,b])=max (dep a) (dep b):=by
 unfold dep;rw[zE];rfl
theorem La(m:Int)(s:ByteArray)(ls:List aP)(a b:ae):DO (.mk 3 m s ls [a,b])=1+DO a+DO b:=by
 unfold DO;rw[zE];rfl
variable {k:Int}
theorem Gx(hk:k=4∨k=5)(m:Int)(s:ByteArray)(ls:List aP)(a b:ae):dep (.mk k m s ls [a,b])=max (dep a) (1+dep b):=by
 unfold dep;rw[zE,if_neg (by omega),if_pos (by omega)];show max _ (1+zE uP b (gq 0 _))=_;rw[Aa]
theorem FO(hk:k=4∨k=5)(m:Int)(s:ByteArray)(ls:List aP)(a b:ae):DO (.mk k m s ls [a,b])=1+DO a+DO b:=by
 unfold DO;rw[zE,if_neg (by omega),if_pos (by omega)];show 1+_+zE Np b (gq 0 _)=_;rw[Aa]
variable {B B':Int} {a v b:ae}
theorem L8(m:Int)(s:ByteArray)(ls:List aP)(hv:iD B' v)(hb:iD B b):dep (.mk 6 m s ls [a,v,b])=max (max (dep a) (dep v)) (dep (dp b v)):=by
 unfold dep;rw[zE,if_neg (by omega),if_pos (by omega),IK uP hv hb];rfl
theorem Lb(m:Int)(s:ByteArray)(ls:List aP)(hv:iD B' v)(hb:iD B b):DO (.mk 6 m s ls [a,v,b])=1+DO a+DO v+DO (dp b v):=by
 unfold DO;rw[zE,if_neg (by omega),if_pos (by omega),IK Np hv hb];rfl
theorem Ku:∀(n:Nat) (t:ae) (ρ:Nat→Nat) (M:Nat),t.size≤n→(∀ i,ρ i≤M)→zE uP t ρ≤t.size+M:=by
 intro n
 induction n with
 |zero=>intro t ρ M h;obtain⟨k,m,s,ls,args,rfl⟩:=ae.case t;simp[ae.size] at h
 |succ n ih=>
  intro t ρ M hn hr;have hcons:∀x,x≤M→∀i,gq x ρ i≤M:=fun x hx i=>by cases i with|zero=>exact hx|succ i=>exact hr i
  match t,hn with
  | .mk k m s ls [a,b],hn=>
   simp only[ae.size,aj] at hn ⊢;rw[zE];have h1:=ih a ρ M (by omega) hr;split
   ·have:=hr m.toNat;omega
   ·split
    ·have h2:=ih b (gq 0 ρ) M (by omega) (hcons 0 (Nat.zero_le _));show max (zE uP a ρ) (1+zE uP b (gq 0 ρ))≤_;omega
    ·have h2:=ih b ρ M (by omega) hr;show max (zE uP a ρ) (zE uP b ρ)≤_;omega
  | .mk k m s ls [a,v,b],hn=>
   simp only[ae.size,aj] at hn ⊢;rw[zE];have h1:=ih a ρ M (by omega) hr;have h2:=ih v ρ M (by omega) hr;split
   ·have:=hr m.toNat;omega
   ·split
    ·have h3:=ih b (gq (zE uP v ρ) ρ) (v.size+M) (by omega) (fun i=>by
      cases i with
      |zero=>exact h2
      |succ i=>exact Nat.le_trans (hr i) (by omega))
     show max (max (zE uP a ρ) (zE uP v ρ)) (zE uP b (gq (zE uP v ρ) ρ))≤_;omega
    ·exact Nat.zero_le _
  | .mk k m s ls [],hn=>simp only[zE];split;(have:=hr m.toNat;omega);exact Nat.zero_le _
  | .mk k m s ls [a],hn=>simp only[zE];split;(have:=hr m.toNat;omega);exact Nat.zero_le _
  | .mk k m s ls (a::b::c::d::r),hn=>simp only[zE];split;(have:=hr m.toNat;omega);exact Nat.zero_le _
theorem qt(t:ae):dep t≤t.size:=Ku _ t _ 0 (Nat.le_refl _) fun _=>Nat.le_refl _
mutual
theorem BJ{sg:Sg}{ps:List ByteArray}{v:ae}{c B:Int}(hc:0≤c)(hv:Wt sg ps v c):∀{t:ae} {d:Int},0≤d→c+d+t.size+v.size≤B→iD B t→iD B (b0 (de v) t d)
 | .mk k n s ls args,d,hd,hB,h=>by
  simp only[ae.size] at hB;by_cases hk:k=0
  ·subst hk;obtain⟨h0,h1,rfl,rfl,rfl⟩:=pS h rfl;rw[cO,de];have hvar:∀i:Int,0≤i→i≤B→iD B (.mk 0 i .empty [] []):=fun i h2 h3=>⟨fun l hl=>(by cases hl),trivial,.inl ⟨rfl,⟨h2,h3⟩,rfl,rfl,rfl⟩⟩
   split
   ·exact hvar _ (by omega) (by omega)
   ·split
    ·exact (hv.NO hd).sh (by rw[jk];simp only[bh,aj] at hB;omega)
    ·exact hvar _ (by omega) (by omega)
  ·rw [b0,if_neg hk];exact⟨h.1,zb hc hv hd (by omega) h.2.1,by rw[fB];exact h.2.2⟩
theorem zb{sg:Sg}{ps:List ByteArray}{v:ae}{c B:Int}(hc:0≤c)(hv:Wt sg ps v c):∀{l:List ae} {b:Bool} {d:Int},0≤d→c+d+1+aj l+v.size≤B→uk B l→uk B (bQ (de v) b l d)
 |[],b,d,_,_,_=>by simp[bQ,uk]
 |t::r,b,d,hd,hB,h=>by
  simp only[aj] at hB;rw[bQ];exact⟨BJ hc hv (by split<;>omega) (by split<;>omega) h.1,zb hc hv hd (by omega) h.2⟩
end
variable {sg:Sg} {ps:List ByteArray} {c:Int}
theorem FY(hc:0≤c)(hv:Wt sg ps v c)(hB:c+b.size+v.size≤B)(h:iD B b):iD B (dp b v):=BJ hc hv (Int.le_refl _) (by omega) h
theorem Wt.Pt(ha:Wt sg ps a c)(hv:Wt sg ps v c)(hb:Wt sg ps b (c+1)):Wt sg ps (.mk 6 0 .empty [] [a,v,b]) c:=by
 refine⟨fun l hl=>(by cases hl),?_,.inr (.inr (.inr (.inr ⟨rfl,rfl,rfl,rfl,rfl⟩)))⟩;simp only[gV,List.isEmpty_cons,List.isEmpty_nil,Bool.and_false,Bool.and_true,Bool.false_eq_true,if_false,decide_eq_true_eq];exact⟨ha,hv,by rw[if_pos (by omega)];exact hb,trivial⟩
theorem IU{es:List cy}(hE:dg es){nm:ByteArray}{x:List ByteArray×ae}(h:ir nm es=some x):Wt (eh es) x.1 x.2 0∧x.1.length≤7∧x.2.size≤1099511627776:=by
 rcases hF:bM nm es with⟨kf,e,j⟩;by_cases h0:kf=0
 ·rw [IX hF h0] at h;cases h
 ·have he:=hE.xP _ (hZ hF h0);have hp:=he.ps;by_cases h4:kf=4
  ·unfold ir at h;rw[hF] at h;subst h4;simp only at h;rw[if_neg (by decide),if_true] at h;obtain⟨cc,h1,rfl⟩:=Option.map_eq_some_iff.1 h;have h2:=he.cs _ (List.mem_of_getElem? h1);exact⟨h2.1,by show e.d.ps.length≤7;omega,by have:=h2.2.1;show cc.2.size≤_;omega⟩
  ·by_cases h5:kf=5
   ·rw [IV hF h5] at h;cases h;have hk:e.d.k=3:=by
     rcases gJ hF h0 with h|h|h
     ·have:=he.k;omega
     ·omega
     ·exact h.2
    exact⟨(he.rt hk).1,he.rp,(he.rt hk).2⟩
   ·rw [IT hF h0 h4 h5] at h;cases h;exact⟨he.ty.1,by show e.d.ps.length≤7;omega,by have:=he.ty.2;show e.d.ty.size≤_;omega⟩
end
section
open Go Go.Vd Go.RowKit
attribute [local irreducible] bu bA di ak bL cU
variable {g gl:Nat→List D}
def tV(es:List cy)(ps:List ByteArray)(S:Nat)(ctx:List ae):Prop:= ∀(i:Nat) x,ctx[i]? =some x→Wt (eh es) ps x i∧x.size≤S
def K1(es:List cy)(ps:List ByteArray)(S:Nat)(ctx:List ae)(t:ae)(w:Bool)(out:Out)(ob':List Ob):Prop:=
 ∃(u:ae) (code:Int) (w':Bool),out=.ret (.d (.bZ [u.d,.v (.int .i64 code)]))∧ob'=[bc es w',ba]∧(w'=false→w=false)∧(code=0→w'=false∧Wt (eh es) ps t ctx.length∧HT (eh es) ps S (dep t) u ctx.length)
def yT(gl:Nat→List D)(es:List cy)(ps:List ByteArray)(most S:Nat)(t:ae):Prop:=
 ∀(ctx:List ae) (w:Bool),tV es ps S ctx→ctx.length+dep t≤1000000→t.size≤S→iD 4398046511104 t→
  et Tryz.prog gl 36 [bc es w,ba] [.cb 0 0,.d (eA ps),.d (.sl 5 (aH ctx)),.d t.d,.d (.v (.int .i64 most))] (K1 es ps S ctx t w)
def KR(es:List cy)(ps:List ByteArray)(c:Int)(t:ae)(w:Bool)(out:Out)(ob':List Ob):Prop:=
 ∃(l:aP) (code:Int) (w':Bool),out=.ret (.d (.bZ [l.d,.v (.int .i64 code)]))∧ob'=[bc es w',ba]∧(w'=false→w=false)∧(code=0→w'=false∧Wt (eh es) ps t c∧iQ ps l)
theorem jD{es:List cy}(hE:dg es){ps:List ByteArray}{most S:Nat}(hm:most≤1000000)(hS:S≤1000000000)(k m:Int)(s:ByteArray)(ls:List aP)(args:List ae)(hI:yT gl es ps most S (.mk k m s ls args))(ctx:List ae)(w:Bool)(hctx:tV es ps S ctx)(hlen:ctx.length+dep (.mk k m s ls args)≤1000000)(hz:(ae.mk k m s ls args).size≤S)(hsh:iD 4398046511104 (.mk k m s ls args)):
 et Tryz.prog gl 60 [bc es w,ba] [.cb 0 0,.d (eA ps),.d (.sl 5 (aH ctx)),.d (ae.mk k m s ls args).d,.d (.v (.int .i64 most))] (KR es ps ctx.length (.mk k m s ls args) w):=by
 have hin:=hI ctx w hctx hlen hz hsh;refine bS Tryz.func60 Tryz.ntmps60 2 ?_;refine gc 14 ?_;refine oc (aN uT rfl rfl rfl rfl (hin) [0,1] (bj (cr .nil)) rfl rfl rfl rfl (an (an (an (bo (an .nil))))) (fun s ob' hq=>?_) (fun s ob' hq=>?_));rotate_left
 ·obtain ⟨_,_,_,hq1,_⟩:=hq;cases hq1
 obtain⟨⟨k1,m1,s1,l1,a1⟩,c1,w1,hq1,rfl,hq2,hq3⟩:=hq;cases hq1;refine⟨_,_,_,_,_,rfl,rfl,rfl,rfl,rfl,?_⟩;refine ko 9 [13,12,10,0,4] 6 ?_;refine cj (fun h2=>?_) (fun h2=>?_)
 ·refine kc 0 [13,10] 10 ?_;refine eo (.bZ [(aP.mk 0 .empty []).d,.v (.int .i64 c1)]) [0,1] [bc es w1,ba] ?_
  ·exact ⟨.mk 0 .empty [],c1,w1,rfl,rfl,hq2,fun h=>absurd h (by omega)⟩
 refine gc 3 ?_;obtain⟨rfl,hWt,hHT⟩:=hq3 (by omega);have hwh:=vm (gl:=gl) hE (Int.natCast_nonneg _) hm false k1 m1 s1 l1 a1 (by omega) hHT;refine gc 4 ?_;refine oc (aN PV rfl rfl rfl rfl (hwh) [0,1] (bj (cr .nil)) rfl rfl rfl rfl (an (bo (an .nil))) (fun s ob' hq=>?_) (fun s ob' hq=>?_));rotate_left
 ·obtain ⟨_,_,_,_,hq1,_⟩:=hq;cases hq1
 obtain⟨⟨k2,m2,s2,l2,a2⟩,d2,c2,w2,hq1,rfl,hq4,hq5,hq6⟩:=hq;cases hq1;refine⟨_,_,_,_,_,rfl,rfl,rfl,rfl,rfl,?_⟩;refine ko 11 [13,14,10] 6 ?_;refine cj (fun h5=>?_) (fun h5=>?_)
 ·refine gc 10 ?_;refine eo (.bZ [(aP.mk 0 .empty []).d,.v (.int .i64 c2)]) [0,1] [bc es w2,ba] ?_
  ·exact ⟨.mk 0 .empty [],c2,w2,rfl,rfl,fun h=>hq2 rfl,fun h=>absurd h (by omega)⟩
 refine gc 10 ?_;refine cj (fun h7=>?_) (fun h7=>?_)
 ·refine kc 0 [10] 9 ?_;refine eo (.bZ [(aP.mk 0 .empty []).d,.v (.int .i64 10)]) [0,1] [bc es w2,ba] ?_
  ·exact ⟨.mk 0 .empty [],10,w2,rfl,rfl,fun h=>hq2 rfl,fun h=>absurd h (by omega)⟩
 refine kc 3 [14,10] 0 ?_;obtain⟨rfl,hH2⟩:=hq6 (by omega);obtain rfl:k2=1:=(by omega);have hW2:=hH2.wt;obtain⟨⟨kl,sl,al⟩,rfl⟩:∃l,l2=[l]:=(by
  rcases hW2.2.2 with h|h|h|h|h
  ·omega
  ·exact List.length_eq_one_iff.1 h.2.2.2.1
  ·omega
  ·omega
  ·omega)
 refine gc 3 ?_;refine o1 (cu fo fH ?_ (he:=by exact(rfl)));refine go 6 ?_;refine eo (.bZ [(aP.mk kl sl al).d,.v (.int .i64 0)]) [0,1] [bc es false,ba] ?_
 ·exact ⟨.mk kl sl al,0,false,rfl,rfl,fun h=>hq2 rfl,fun _=>⟨rfl,hWt,hW2.1 _ List.mem_cons_self⟩⟩
end
section
open Go Go.Vd Go.RowKit
attribute [local irreducible] bu bA di ak bL cU
variable {g gl:Nat→List D}
set_option maxHeartbeats 800000 in
theorem yD{es:List cy}(hE:dg es){ps:List ByteArray}(hL:ps.length≤6){most S:Nat}(hm:most≤1000000)(hS:S≤1000000000∧20000≤S)(m:Int)(s:ByteArray)(ls:List aP)(k1 m1:Int)(s1:ByteArray)(l1:List aP)(a1:List ae)(k2 m2:Int)(s2:ByteArray)(l2:List aP)(a2:List ae)(hI1:yT gl es ps most S (.mk k1 m1 s1 l1 a1))(hI2:yT gl es ps most S (.mk k2 m2 s2 l2 a2))(ctx:List ae)(w:Bool)(hctx:tV es ps S ctx)(hlen:ctx.length+dep (.mk 3 m s ls [.mk k1 m1 s1 l1 a1,.mk k2 m2 s2 l2 a2])≤1000000)(hz:(ae.mk 3 m s ls [.mk k1 m1 s1 l1 a1,.mk k2 m2 s2 l2 a2]).size≤S)(hsh:iD 4398046511104 (.mk 3 m s ls [.mk k1 m1 s1 l1 a1,.mk k2 m2 s2 l2 a2])):
 et Tryz.prog gl 59 [bc es w,ba] [.cb 0 0,.d (eA ps),.d (.sl 5 (aH ctx)),.d (ae.mk 3 m s ls [.mk k1 m1 s1 l1 a1,.mk k2 m2 s2 l2 a2]).d,.d (.v (.int .i64 most))] (K1 es ps S ctx (.mk 3 m s ls [.mk k1 m1 s1 l1 a1,.mk k2 m2 s2 l2 a2]) w):=by
 have hdep:=L7 m s ls (.mk k1 m1 s1 l1 a1) (.mk k2 m2 s2 l2 a2);obtain⟨_,hm0,hs0,hl0,_⟩:(3:Int)=3∧m=0∧s=.empty∧ls=[]∧True:=(by
  rcases hsh.2.2 with h|h|h|h|h
  ·omega
  ·omega
  ·omega
  ·exact ⟨rfl,h.2.1,h.2.2.1,h.2.2.2.1,trivial⟩
  ·omega)
 subst hm0 hs0 hl0;have hzz:1+((ae.mk k1 m1 s1 l1 a1).size+((ae.mk k2 m2 s2 l2 a2).size+0))≤S:=by simp only[ae.size,bh,aj] at hz ⊢;omega
 have hin1:=hI1 ctx w hctx (by omega) (by omega) hsh.2.1.1;generalize hT:ae.mk 3 0 .empty [] [.mk k1 m1 s1 l1 a1,.mk k2 m2 s2 l2 a2]=T at hdep hlen;have hTd:T.d=(ae.mk 3 0 .empty [] [.mk k1 m1 s1 l1 a1,.mk k2 m2 s2 l2 a2]).d:=by rw[hT]
 rw[hTd];refine bS Tryz.func59 Tryz.ntmps59 2 ?_;refine gc 14 ?_;refine o1 (cu bB bH ?_ (he:=by exact(rfl)));refine go 2 ?_;refine oc (aN uT rfl rfl rfl rfl (hin1) [0,1] (bj (cr .nil)) rfl rfl rfl rfl (an (an (an (bo (an .nil))))) (fun s ob' hq=>?_) (fun s ob' hq=>?_));rotate_left
 ·obtain ⟨_,_,_,hq1,_⟩:=hq;cases hq1
 obtain⟨⟨k3,m3,s3,l3,a3⟩,c1,w1,hq1,rfl,hq2,hq3⟩:=hq;cases hq1;refine⟨_,_,_,_,_,rfl,rfl,rfl,rfl,rfl,?_⟩;refine ko 9 [13,12,10,8,0,1,2,4] 6 ?_;refine cj (fun h2=>?_) (fun h2=>?_)
 ·refine kc 0 [13,10] 10 ?_;refine eo (.bZ [aQ.d,.v (.int .i64 c1)]) [0,1] [bc es w1,ba] ?_
  ·exact ⟨aQ,c1,w1,rfl,rfl,hq2,fun h=>absurd h (by omega)⟩
 refine gc 3 ?_;obtain⟨rfl,hWt1,hHT1⟩:=hq3 (by omega);have hwh:=vm (gl:=gl) hE (Int.natCast_nonneg _) hm false k3 m3 s3 l3 a3 (by omega) hHT1;refine gc 4 ?_;refine oc (aN PV rfl rfl rfl rfl (hwh) [0,1] (bj (cr .nil)) rfl rfl rfl rfl (an (bo (an .nil))) (fun s ob' hq=>?_) (fun s ob' hq=>?_));rotate_left
 ·obtain ⟨_,_,_,_,hq1,_⟩:=hq;cases hq1
 obtain⟨⟨kg,mg,sg',lg,ag⟩,d2,c2,w2,hq1,rfl,hq4,hq5,hq6⟩:=hq;cases hq1;refine⟨_,_,_,_,_,rfl,rfl,rfl,rfl,rfl,?_⟩;refine ko 11 [13,14,10,8,0,1,2,4] 6 ?_;refine cj (fun h5=>?_) (fun h5=>?_)
 ·refine kc 0 [13,10] 10 ?_;refine eo (.bZ [aQ.d,.v (.int .i64 c2)]) [0,1] [bc es w2,ba] ?_
  ·exact ⟨aQ,c2,w2,rfl,rfl,fun h=>hq2 rfl,fun h=>absurd h (by omega)⟩
 refine gc 10 ?_;refine cj (fun h7=>?_) (fun h7=>?_)
 ·refine kc 0 [10] 9 ?_;refine eo (.bZ [aQ.d,.v (.int .i64 8)]) [0,1] [bc es w2,ba] ?_
  ·exact ⟨aQ,8,w2,rfl,rfl,fun h=>hq2 rfl,fun h=>absurd h (by omega)⟩
 refine kc 3 [14,10,8,0,1,2,4] 0 ?_;obtain⟨rfl,hH2⟩:=hq6 (by omega);obtain rfl:kg=5:=(by omega);obtain⟨⟨kA,mA,sA,lA,aA⟩,⟨kB,mB,sB,lB,aB⟩,rfl,rfl,rfl,rfl,hAw,hAz,hBh⟩:=hH2.NF;have hin2:=hI2 ctx false hctx (by omega) (by omega) hsh.2.1.2.1;refine gc 6 ?_;refine o1 (cu bB bH ?_ (he:=by exact(rfl)));refine go 2 ?_;refine oc (aN uT rfl rfl rfl rfl (hin2) [0,1] (bj (cr .nil)) rfl rfl rfl rfl (an (an (an (bo (an .nil))))) (fun s ob' hq=>?_) (fun s ob' hq=>?_));rotate_left
 ·obtain ⟨_,_,_,hq1,_⟩:=hq;cases hq1
 obtain⟨⟨k4,m4,s4,l4,a4⟩,c4,w4,hq1,rfl,hq7,hq8⟩:=hq;cases hq1;refine⟨_,_,_,_,_,rfl,rfl,rfl,rfl,rfl,?_⟩;refine ko 9 [13,16,14,10,8,0,4] 6 ?_;refine cj (fun h10=>?_) (fun h10=>?_)
 ·refine kc 0 [13,10] 10 ?_;refine eo (.bZ [aQ.d,.v (.int .i64 c4)]) [0,1] [bc es w4,ba] ?_
  ·exact ⟨aQ,c4,w4,rfl,rfl,fun h=>hq2 rfl,fun h=>absurd h (by omega)⟩
 refine gc 3 ?_;obtain⟨rfl,hWt2,hHT2⟩:=hq8 (by omega);have hmu:=ux (gl:=gl) hE hL (c:=(ctx.length:Int)) (Int.natCast_nonneg _) (most:=most) (S:=S+30000*most) (n:=dep (.mk k2 m2 s2 l2 a2)) (n2:=0) hm false k4 m4 s4 l4 a4 kA mA sA lA aA (by omega) (by omega) (hHT2.mono (by omega) (Nat.le_refl _)) (.base hAw hAz);refine gz [0,1,2,3] mixed ?_;refine A1 4 rfl (cu bB bH ⟨_,rfl,?_⟩ (he:=by exact(rfl)));refine ga [5,6] ?_;refine A2 7 rfl (aN Ou rfl rfl rfl rfl (hmu) [0,1] (bj (cr .nil)) rfl rfl rfl rfl (an (bo (bo (an .nil)))) (fun s ob' hq=>?_) (fun s ob' hq=>?_));rotate_left
 ·obtain ⟨_,_,hq1,_⟩:=hq;cases hq1
 obtain⟨c5,w5,hq1,rfl,hq9,hq10⟩:=hq;cases hq1;refine⟨_,_,_,_,_,rfl,rfl,rfl,rfl,rfl,?_⟩;refine ga [8] ?_;refine aZ ?_;refine ke 2 [13,14,10,8,0] 6 ?_;refine cj (fun h13=>?_) (fun h13=>?_)
 ·refine kc 0 [13,10] 10 ?_;refine eo (.bZ [aQ.d,.v (.int .i64 c5)]) [0,1] [bc es w5,ba] ?_
  ·exact ⟨aQ,c5,w5,rfl,rfl,fun h=>hq2 rfl,fun h=>absurd h (by omega)⟩
 refine gc 3 ?_;obtain rfl:=hq9 (by omega);have hBw:=hBh.wt;have hsu:=E8 (gl:=gl) es false (B:=4398046511104) (B':=4398046511104) (by omega) (by omega) kB mB sB lB aB k2 m2 s2 l2 a2 (hBw.tS fun s n h=>Nat.le_trans (hE.sg h) (by omega)) (by omega) (fun h=>hBw.sh (by omega)) hsh.2.1.2.1;refine gz [0,1,2] mixed ?_;refine A1 3 rfl (cu bB bH ⟨_,rfl,?_⟩ (he:=by exact(rfl)));refine ga [4,5,6] ?_;refine A1 7 rfl (cu bB bH ⟨_,rfl,?_⟩ (he:=by exact(rfl)));refine ga [8] ?_;refine cT (rs:=[9,10]) (by kernel_rfl) rfl ⟨?_,?_,trivial⟩
 ·skip
  refine A4 9 rfl (aN Fo rfl rfl rfl rfl (hsu) [0,1] (bj (cr .nil)) rfl rfl rfl rfl (an (bo (bo .nil))) (fun s ob' hq=>?_) (fun s ob' hq=>?_));rotate_left
  ·obtain ⟨_,_,hq1,_⟩:=hq;cases hq1
  obtain⟨⟨k6,m6,s6,l6,a6⟩,w6,hq1,rfl,hw6⟩:=hq;cases hq1;refine⟨_,_,_,_,_,rfl,rfl,rfl,rfl,rfl,?_⟩;refine A2 10 rfl (qB bw ?_);refine A2 11 rfl (dN bw ?_);refine aZ ?_;refine ke 2 [17,10,0] 8 ?_;refine cj (fun h16=>?_) (fun h16=>?_)
  ·refine kc 0 [10] 9 ?_;refine eo (.bZ [aQ.d,.v (.int .i64 14)]) [0,1] [bc es w6,ba] ?_
   ·exact ⟨aQ,14,w6,rfl,rfl,fun h=>hq2 rfl,fun h=>absurd h (by omega)⟩
  refine kc 2 [17,10] 8 ?_;refine eo (.bZ [(ae.mk k6 m6 s6 l6 a6).d,.v (.int .i64 0)]) [0,1] [bc es w6,ba] ?_
  ·rcases hw6 with⟨rfl,_,h7,h8⟩|⟨h7,_⟩
   ·refine ⟨.mk k6 m6 s6 l6 a6,0,false,rfl,rfl,fun h=>hq2 rfl,fun _=>⟨rfl,?_,.base ?_ (by omega)⟩⟩
    ·rw [← hT];exact Wt.app hWt1 hWt2
    ·rw [h7];exact Wt.sub (Int.natCast_nonneg _) hBw hWt2
   ·exfalso;rw[h7] at h16;simp at h16
 ·skip
  refine A4 10 rfl (qB bw ?_);refine A2 9 rfl (aN Fo rfl rfl rfl rfl (hsu) [0,1] (bj (cr .nil)) rfl rfl rfl rfl (an (bo (bo .nil))) (fun s ob' hq=>?_) (fun s ob' hq=>?_));rotate_left
  ·obtain ⟨_,_,hq1,_⟩:=hq;cases hq1
  obtain⟨⟨k6,m6,s6,l6,a6⟩,w6,hq1,rfl,hw6⟩:=hq;cases hq1;refine⟨_,_,_,_,_,rfl,rfl,rfl,rfl,rfl,?_⟩;refine A2 11 rfl (dN bw ?_);refine aZ ?_;refine ke 2 [17,10,0] 8 ?_;refine cj (fun h16=>?_) (fun h16=>?_)
  ·refine kc 0 [10] 9 ?_;refine eo (.bZ [aQ.d,.v (.int .i64 14)]) [0,1] [bc es w6,ba] ?_
   ·exact ⟨aQ,14,w6,rfl,rfl,fun h=>hq2 rfl,fun h=>absurd h (by omega)⟩
  refine kc 2 [17,10] 8 ?_;refine eo (.bZ [(ae.mk k6 m6 s6 l6 a6).d,.v (.int .i64 0)]) [0,1] [bc es w6,ba] ?_
  ·rcases hw6 with⟨rfl,_,h7,h8⟩|⟨h7,_⟩
   ·refine ⟨.mk k6 m6 s6 l6 a6,0,false,rfl,rfl,fun h=>hq2 rfl,fun _=>⟨rfl,?_,.base ?_ (by omega)⟩⟩
    ·rw [← hT];exact Wt.app hWt1 hWt2
    ·rw [h7];exact Wt.sub (Int.natCast_nonneg _) hBw hWt2
   ·exfalso;rw[h7] at h16;simp at h16
end
section
open Go Go.Vd Go.RowKit
attribute [local irreducible] bu bA di ak bL cU
variable {g gl:Nat→List D}
variable {es:List cy} {ps:List ByteArray} {most S:Nat}
theorem yA(hS:S≤1000000000)(n:Int):yT gl es ps most S (.mk 0 n .empty [] []):=by
 intro ctx w hctx hlen hz hsh;obtain⟨hn0,hn1,_⟩:=pS hsh rfl;have hcl:=aO ctx;refine bS Tryz.func36 Tryz.ntmps36 2 ?_;refine gc 16 ?_;refine cj (fun h1=>?_) (fun h1=>?_)
 ·refine kc 0 [10] 9 ?_;refine eo (.bZ [aQ.d,.v (.int .i64 14)]) [0,1] [bc es w,ba] ?_
  ·exact ⟨aQ,14,w,rfl,rfl,fun h=>h,fun h=>absurd h (by omega)⟩
 refine kc 4 [10,8,0,1,2,4] 0 ?_;obtain rfl:=h1;refine gc 12 ?_;refine ct ?_;refine kc 1 [10,8,2] 9 ?_;refine cj (fun h5=>?_) (fun h5=>?_)
 ·refine kc 0 [10] 11 ?_;refine eo (.bZ [aQ.d,.v (.int .i64 7)]) [0,1] [bc es false,ba] ?_
  ·exact ⟨aQ,7,false,rfl,rfl,fun h=>rfl,fun h=>absurd h (by omega)⟩
 refine kc 3 [10,8,2] 0 ?_;obtain⟨j,hj⟩:∃j:Nat,((aH ctx).length:Int)-1-n=j:=⟨((aH ctx).length-1-n).toNat,by omega⟩;obtain⟨k2,m2,s2,l2,a2,hget⟩:=bK (show j<ctx.length by omega);obtain⟨hWx,hSx⟩:=hctx _ _ hget;have hLs:=ik (gl:=gl) (n0:=n+1) (B:=4398046511104) (by omega) (by omega) _ k2 m2 s2 l2 a2 0 (Nat.le_refl _) (hWx.sh (by omega)) (by omega) (by omega);obtain⟨k3,m3,s3,l3,a3,hX⟩:=ae.case (b0 (dK (n+1) 0) (.mk k2 m2 s2 l2 a2) 0)
 rw[hX] at hLs;refine gz [0,1,2] mixed ?_;refine A1 3 rfl (iC ⟨_,rfl,?_⟩);refine ga [4,5] ?_;refine A1 6 rfl (iC ⟨_,rfl,?_⟩);refine A1 7 rfl (cu bB bH ⟨_,rfl,?_⟩ (he:=by rw[hj];exact bW hget));refine ga [8,9,10] ?_;refine A1 11 rfl (cG ⟨_,rfl,?_⟩);refine A2 12 rfl (cv Ds rfl rfl (hLs) (bo (an (an .nil))) ?_);refine A2 13 rfl (dN bw ?_);refine ga [14] ?_;refine aZ ?_;refine ge 4 ?_;refine eo (.bZ [(ae.mk k3 m3 s3 l3 a3).d,.v (.int .i64 0)]) [0,1] [bc es false,ba] ?_
 ·have h8:=hWx.lift (fr:=0) (m:=n+1) (by omega) (d:=0);have h9:=uj (n+1) 0 (.mk k2 m2 s2 l2 a2) 0;rw[hX] at h8 h9;exact⟨_,0,false,rfl,rfl,fun h=>rfl,fun _=>⟨rfl,Wt.var hn0 (by omega),.base (h8.up (by omega)) (by omega)⟩⟩
theorem qo(hL:ps.length≤6)(hS:S≤1000000000)(kl:Int)(sl:ByteArray)(al:List aP):yT gl es ps most S (.mk 1 0 .empty [.mk kl sl al] []):=by
 intro ctx w hctx hlen hz hsh;obtain⟨x,hx,hfx⟩:=hsh.1 _ List.mem_cons_self;have hxs:=x.fS;simp only[ae.size,bh,aj] at hz;have hdc:=rE (gl:=gl) x ps (by rw[← hx] at hxs;omega) (by omega);rw[← hx] at hdc;refine bS Tryz.func36 Tryz.ntmps36 2 ?_;refine gc 16 ?_;refine cj (fun h1=>?_) (fun h1=>?_)
 ·refine kc 0 [10] 9 ?_;refine eo (.bZ [aQ.d,.v (.int .i64 14)]) [0,1] [bc es w,ba] ?_
  ·exact ⟨aQ,14,w,rfl,rfl,fun h=>h,fun h=>absurd h (by omega)⟩
 refine kc 4 [10,8,0,1,2,4] 0 ?_;obtain rfl:=h1;refine gc 12 ?_;refine cf ?_;refine gc 6 ?_;refine ct ?_;refine kc 0 [10,8,1] 4 ?_;refine o1 (cu fo fH ?_ (he:=by exact(rfl)));refine go 2 ?_;refine oc (T:=fun _=>False) (bJ PQ rfl rfl rfl rfl (hdc) (bo (an .nil)) (fun d hd=>?_));obtain⟨b,rfl,hb⟩:=hd;refine ko 4 [12,10,8] 6 ?_;refine cj (fun h10=>?_) (fun h10=>?_)
 ·refine kc 0 [10] 11 ?_;refine eo (.bZ [aQ.d,.v (.int .i64 5)]) [0,1] [bc es false,ba] ?_
  ·exact ⟨aQ,5,false,rfl,rfl,fun h=>rfl,fun h=>absurd h (by omega)⟩
 refine gc 6 ?_;refine o1 (cu fo fH ?_ (he:=by exact(rfl)));refine go 1 ?_;refine oc (gD ji [.tmp 71] eL ?_);refine go 1 ?_;refine oc (cv Iw rfl rfl (jt 1 .empty [.mk kl sl al]) (bo .nil) ?_);refine go 7 ?_;refine eo (.bZ [(ae.mk 1 0 .empty [.mk 1 .empty [.mk kl sl al]] []).d,.v (.int .i64 0)]) [0,1] [bc es false,ba] ?_
 ·have hbt:b=true:=(by cases b<;>simp_all);have hin:iQ ps (.mk kl sl al):=⟨x,hx,hfx,hb hbt⟩;exact⟨_,0,false,rfl,rfl,fun h=>rfl,fun _=>⟨rfl,Wt.sort hin,.sort ⟨.succ x,by rw[hx];rfl,⟨by decide,by decide,fun e=>absurd e (by decide),hfx,trivial⟩,fun p hp=>hb hbt p hp⟩⟩⟩
theorem vN(hE:dg es)(hL:ps.length≤6)(hS:S≤1000000000∧20000≤S)(s:ByteArray)(ls:List aP):yT gl es ps most S (.mk 2 0 s ls []):=by
 intro ctx w hctx hlen hz hsh;have hty:=Bx (gl:=gl) es w s hE.b hE.k4;have hll:=bV ls;have hlz:∀u∈ls,u.size≤S:=fun u hu=>by
  obtain⟨i,hi⟩:=List.getElem?_of_mem hu;have:=eI hi;simp only[ae.size] at hz;omega
 rcases hT:ir s es with _|⟨ps',⟨k3,m3,s3,l3,a3⟩⟩
 ·rw [hT] at hty;refine bS Tryz.func36 Tryz.ntmps36 2 ?_;refine gc 16 ?_;refine cj (fun h1=>?_) (fun h1=>?_)
  ·refine kc 0 [10] 9 ?_;refine eo (.bZ [aQ.d,.v (.int .i64 14)]) [0,1] [bc es w,ba] ?_
   ·exact ⟨aQ,14,w,rfl,rfl,fun h=>h,fun h=>absurd h (by omega)⟩
  refine kc 4 [10,8,0,1,2,4] 0 ?_;obtain rfl:=h1;refine gc 12 ?_;refine cf ?_;refine gc 6 ?_;refine cf ?_;refine kc 0 [35,10,8,0,1,2,4] 6 ?_;refine ct ?_;refine kc 0 [10,8,0,1] 5 ?_;refine oc (ck PX rfl rfl (hty) [0,1] rfl (bj (cr .nil)) (an (an .nil)) ?_);refine ko 11 [15,13,14,10,8,0,1] 6 ?_;refine ct ?_;refine kc 0 [10] 11 ?_;refine eo (.bZ [aQ.d,.v (.int .i64 4)]) [0,1] [bc es false,ba] ?_
  ·exact ⟨aQ,4,false,rfl,rfl,fun h=>rfl,fun h=>absurd h (by omega)⟩
 ·rw [hT] at hty;obtain⟨hTw,hTl,hTz⟩:=IU hE hT;simp only at hTw hTl hTz;have hpl:=cQ ps';refine bS Tryz.func36 Tryz.ntmps36 2 ?_;refine gc 16 ?_;refine cj (fun h1=>?_) (fun h1=>?_)
  ·refine kc 0 [10] 9 ?_;refine eo (.bZ [aQ.d,.v (.int .i64 14)]) [0,1] [bc es w,ba] ?_
   ·exact ⟨aQ,14,w,rfl,rfl,fun h=>h,fun h=>absurd h (by omega)⟩
  refine kc 4 [10,8,0,1,2,4] 0 ?_;obtain rfl:=h1;refine gc 12 ?_;refine cf ?_;refine gc 6 ?_;refine cf ?_;refine kc 0 [35,10,8,0,1,2,4] 6 ?_;refine ct ?_;refine kc 0 [10,8,0,1] 5 ?_;refine oc (ck PX rfl rfl (hty) [0,1] rfl (bj (cr .nil)) (an (an .nil)) ?_);refine ko 11 [15,13,14,10,8,0,1] 6 ?_;refine cf ?_;refine gc 13 ?_;refine cj (fun h17=>?_) (fun h17=>?_)
  ·refine kc 0 [10] 11 ?_;refine eo (.bZ [aQ.d,.v (.int .i64 6)]) [0,1] [bc es false,ba] ?_
   ·exact ⟨aQ,6,false,rfl,rfl,fun h=>rfl,fun h=>absurd h (by omega)⟩
  refine kc 3 [13,14,10,8,0,1] 6 ?_;refine lP (ι:=Nat) (fun i=>[(16,int i)]) [13,14,10,8,0,1] (fun i=>i≤ls.length∧∀l∈ls.take i,iQ ps l) (fun i=>ls.length-i) (0) rfl ?I1 ?M1 ?H1
  case I1=>
   exact⟨Nat.zero_le _,by simp⟩
  case M1=>
   exact mz
  case H1=>
   rintro i hinv
   try dsimp only at hinv
   refine kc 0 [16,13,14,10,8,0,1] 10 ?_;refine cj (fun h20=>?_) (fun h20=>?_)
   ·refine kc 5 [16,13,14,10,8,0,1] 0 ?_;obtain⟨kx,sx,ax,hget⟩:=dh (show i<ls.length by omega);obtain⟨x,hx,hfx⟩:=hsh.1 _ (List.mem_of_getElem? hget);have hxs:=x.fS;have hxz:=hlz _ (List.mem_of_getElem? hget);have hdc:=rE (gl:=gl) x ps (by rw[← hx] at hxs;omega) (by omega);rw[← hx] at hdc;refine gc 4 ?_;refine o1 (cu fo fH ?_ (he:=by exact(dD hget)));refine go 2 ?_;refine oc (T:=fun _=>False) (bJ PQ rfl rfl rfl rfl (hdc) (bo (an .nil)) (fun d hd=>?_));obtain⟨b,rfl,hb⟩:=hd;refine ko 3 [17,16,13,14,10,8,0,1] 6 ?_;refine cJ (fun h23=>?_) (fun h23=>?_)
    ·refine gc 5 ?_;refine o1 (cG ?_);refine go 2 ?_;refine bi (i+1) rfl ?_ mz
     ·refine ⟨⟨by omega,fun l hl=>?_⟩,by omega⟩;rw[List.take_add_one,hget] at hl;rcases List.mem_append.1 hl with hl|hl
      ·exact hinv.2 l hl
      ·simp only[Option.toList_some,List.mem_singleton] at hl;subst hl;have hbt:b=true:=(by cases b<;>simp_all);exact⟨x,hx,hfx,hb hbt⟩
    refine kc 0 [10] 15 ?_;refine eo (.bZ [aQ.d,.v (.int .i64 5)]) [0,1] [bc es false,ba] ?_
    ·exact ⟨aQ,5,false,rfl,rfl,fun h=>rfl,fun h=>absurd h (by omega)⟩
   refine kc 6 [13,14,10,8,0] 0 ?_;have hall:=hinv.2;rw[List.take_of_length_le (by omega)] at hall;have hlv:=q9 (gl:=gl) es false ps' ls (by omega) (by omega) (fun u hu=>by have:=hlz u hu;omega) k3 m3 s3 l3 a3 hTz;refine gc 6 ?_;refine oc (aN Mk rfl rfl rfl rfl (hlv) [0,1] (bj (cr .nil)) rfl rfl rfl rfl (an (bo (an (an .nil)))) (fun s ob' hq=>?_) (fun s ob' hq=>?_));rotate_left
   ·obtain ⟨_,_,hq1,_⟩:=hq;cases hq1
   obtain⟨⟨k6,m6,s6,l6,a6⟩,w6,hq1,rfl,hw6⟩:=hq;cases hq1;refine⟨_,_,_,_,_,rfl,rfl,rfl,rfl,rfl,?_⟩;refine ko 5 [18,10,0] 8 ?_;refine cj (fun h26=>?_) (fun h26=>?_)
   ·refine kc 0 [10] 11 ?_;refine eo (.bZ [aQ.d,.v (.int .i64 14)]) [0,1] [bc es w6,ba] ?_
    ·exact ⟨aQ,14,w6,rfl,rfl,fun h=>rfl,fun h=>absurd h (by omega)⟩
   refine kc 2 [18,10] 10 ?_;refine eo (.bZ [(ae.mk k6 m6 s6 l6 a6).d,.v (.int .i64 0)]) [0,1] [bc es w6,ba] ?_
   ·rcases hw6 with⟨rfl,_,h7,h8⟩|⟨h7,_⟩
    ·refine ⟨_,0,false,rfl,rfl,fun h=>rfl,fun _=>⟨rfl,?_,.base ?_ (by omega)⟩⟩
     ·refine ⟨hall,trivial,.inr (.inr (.inl ⟨rfl,rfl,?_,rfl⟩))⟩;unfold eh;rw[hT];simp only[Option.map_some,Option.some.injEq];omega
     ·rw [h7];exact(Wt.IJ (by omega) hall hTw).up (Int.natCast_nonneg _)
    ·exfalso;simp_all
end
section
open Go Go.Vd Go.RowKit
attribute [local irreducible] bu bA di ak bL cU
variable {g gl:Nat→List D}
variable {es:List cy} {ps:List ByteArray} {S:Nat}
theorem tV.app{ctx:List ae}{a:ae}(h:tV es ps S ctx)(ha:Wt (eh es) ps a ctx.length)(hz:a.size≤S):tV es ps S (ctx++[a]):=by
 intro i x hx;rcases Nat.lt_or_ge i ctx.length with hi|hi
 ·rw [List.getElem?_append_left hi] at hx;exact h i x hx
 ·rw [List.getElem?_append_right hi] at hx;have h3:=(List.getElem?_eq_some_iff.1 hx).1;simp only[List.length_cons,List.length_nil] at h3;obtain rfl:i=ctx.length:=by omega
  rw[Nat.sub_self] at hx;cases hx;exact⟨ha,hz⟩
theorem CO(ctx:List ae)(a:ae):(ctx++[a]).length=ctx.length+1:=by simp
variable {most:Nat}
set_option maxHeartbeats 800000 in
theorem yC(hE:dg es)(hm:most≤1000000)(hS:S≤1000000000∧20000≤S)(k1 m1:Int)(s1:ByteArray)(l1:List aP)(a1:List ae)(k2 m2:Int)(s2:ByteArray)(l2:List aP)(a2:List ae)(hI1:yT gl es ps most S (.mk k1 m1 s1 l1 a1))(hI2:yT gl es ps most S (.mk k2 m2 s2 l2 a2)):yT gl es ps most S (.mk 4 0 .empty [] [.mk k1 m1 s1 l1 a1,.mk k2 m2 s2 l2 a2]):=by
 intro ctx w hctx hlen hz hsh;have hdep:=Gx (k:=4) (.inl rfl) 0 .empty [] (.mk k1 m1 s1 l1 a1) (.mk k2 m2 s2 l2 a2);have hzz:1+((ae.mk k1 m1 s1 l1 a1).size+((ae.mk k2 m2 s2 l2 a2).size+0))≤S:=by simp only[ae.size,bh,aj] at hz ⊢;omega
 have hl1:=CO ctx (.mk k1 m1 s1 l1 a1);have hex:=jB (gl:=gl) ctx k1 m1 s1 l1 a1 (by omega);generalize hT:ae.mk 4 0 .empty [] [.mk k1 m1 s1 l1 a1,.mk k2 m2 s2 l2 a2]=T at hdep hlen;have hTd:T.d=(ae.mk 4 0 .empty [] [.mk k1 m1 s1 l1 a1,.mk k2 m2 s2 l2 a2]).d:=by rw[hT]
 rw[hTd];refine bS Tryz.func36 Tryz.ntmps36 2 ?_;refine gc 16 ?_;refine cj (fun h1=>?_) (fun h1=>?_)
 ·refine kc 0 [10] 9 ?_;refine eo (.bZ [aQ.d,.v (.int .i64 14)]) [0,1] [bc es w,ba] ?_
  ·exact ⟨aQ,14,w,rfl,rfl,fun h=>h,fun h=>absurd h (by omega)⟩
 refine kc 4 [10,8,0,1,2,4] 0 ?_;obtain rfl:=h1;refine gc 12 ?_;refine cf ?_;refine gc 6 ?_;refine cf ?_;refine kc 0 [35,10,8,0,1,2,4] 6 ?_;refine cf ?_;refine gc 6 ?_;refine cf ?_;refine kc 0 [35,10,8,0,1,2,4] 6 ?_;refine ct ?_;refine gc 1 ?_;have hso:=jD (gl:=gl) hE hm hS.1 k1 m1 s1 l1 a1 hI1 ctx false hctx (by omega) (by omega) hsh.2.1.1;refine gc 6 ?_;refine o1 (cu bB bH ?_ (he:=by exact(rfl)));refine go 2 ?_;refine oc (aN xW rfl rfl rfl rfl (hso) [0,1] (bj (cr .nil)) rfl rfl rfl rfl (an (an (an (bo (an .nil))))) (fun s ob' hq=>?_) (fun s ob' hq=>?_));rotate_left
 ·obtain ⟨_,_,_,hq1,_⟩:=hq;cases hq1
 obtain⟨⟨kl,sl,al⟩,c1,w1,hq1,rfl,hq2,hq3⟩:=hq;cases hq1;refine⟨_,_,_,_,_,rfl,rfl,rfl,rfl,rfl,?_⟩;refine ko 9 [20,10,8,0,1,2,4] 6 ?_;refine cj (fun h33=>?_) (fun h33=>?_)
 ·refine kc 0 [20,10] 12 ?_;refine eo (.bZ [aQ.d,.v (.int .i64 c1)]) [0,1] [bc es w1,ba] ?_
  ·exact ⟨aQ,c1,w1,rfl,rfl,fun h=>rfl,fun h=>absurd h (by omega)⟩
 refine gc 3 ?_;obtain⟨rfl,hWt1,hlv⟩:=hq3 (by omega);have hin2:=hI2 (ctx++[.mk k1 m1 s1 l1 a1]) false (hctx.app hWt1 (by omega)) (by omega) (by omega) hsh.2.1.2.1;refine gz [0,1,2,3,4] mixed ?_;refine A1 5 rfl (cu bB bH ⟨_,rfl,?_⟩ (he:=by exact(rfl)));refine ga [6,8,9] ?_;refine A1 10 rfl (cu bB bH ⟨_,rfl,?_⟩ (he:=by exact(rfl)));refine ga [11,12] ?_;refine cT (rs:=[7,17]) (by kernel_rfl) rfl ⟨?_,?_,trivial⟩
 ·skip
  refine A4 7 rfl (cv Iv rfl rfl (hex) (an (bo .nil)) ?_);refine cT (rs:=[13,17]) (by kernel_rfl) rfl ⟨?_,?_,trivial⟩
  ·skip
   refine A4 13 rfl (aN uT rfl rfl rfl rfl (hin2) [0,1] (bj (cr .nil)) rfl rfl rfl rfl (an (an (an (bo (an .nil))))) (fun s ob' hq=>?_) (fun s ob' hq=>?_));rotate_left
   ·obtain ⟨_,_,_,hq1,_⟩:=hq;cases hq1
   obtain⟨⟨k4,m4,s4,l4,a4⟩,c4,w4,hq1,rfl,hq7,hq8⟩:=hq;cases hq1;refine⟨_,_,_,_,_,rfl,rfl,rfl,rfl,rfl,?_⟩;refine ga [14,15,16] ?_;refine A2 17 rfl (qB bw ?_);refine A2 18 rfl (dN bw ?_);refine ga [19] ?_;refine aZ ?_;refine ke 2 [20,21,10,8] 6 ?_;refine cj (fun h36=>?_) (fun h36=>?_)
   ·refine kc 0 [20,10] 12 ?_;refine eo (.bZ [aQ.d,.v (.int .i64 c4)]) [0,1] [bc es w4,ba] ?_
    ·exact ⟨aQ,c4,w4,rfl,rfl,fun h=>rfl,fun h=>absurd h (by omega)⟩
   refine gc 3 ?_;refine gz [0,1] mixed ?_;refine A1 2 rfl (cu bB bH ⟨_,rfl,?_⟩ (he:=by exact(rfl)));refine ga [3,4] ?_;refine A2 5 rfl (cv Mj rfl rfl (tD k1 m1 s1 l1 a1 k4 m4 s4 l4 a4) (bo (bo .nil)) ?_);refine A2 6 rfl (dN bw ?_);refine ga [7] ?_;refine aZ ?_;refine ge 4 ?_;refine eo (.bZ [(ae.mk 5 0 .empty [] [.mk k1 m1 s1 l1 a1,.mk k4 m4 s4 l4 a4]).d,.v (.int .i64 0)]) [0,1] [bc es w4,ba] ?_
   ·obtain ⟨rfl,hWt2,hHT2⟩:=hq8 (by omega);rw[hl1] at hWt2 hHT2;refine⟨_,0,false,rfl,rfl,fun h=>rfl,fun _=>⟨rfl,?_,?_⟩⟩
    ·rw [← hT];exact Wt.bind (.inl rfl) hWt1 hWt2
    ·exact (HT.pi hWt1 (by omega) hHT2).mono (Nat.le_refl _) (by omega)
  ·skip
   refine A4 17 rfl (qB bw ?_);refine A2 13 rfl (aN uT rfl rfl rfl rfl (hin2) [0,1] (bj (cr .nil)) rfl rfl rfl rfl (an (an (an (bo (an .nil))))) (fun s ob' hq=>?_) (fun s ob' hq=>?_));rotate_left
   ·obtain ⟨_,_,_,hq1,_⟩:=hq;cases hq1
   obtain⟨⟨k4,m4,s4,l4,a4⟩,c4,w4,hq1,rfl,hq7,hq8⟩:=hq;cases hq1;refine⟨_,_,_,_,_,rfl,rfl,rfl,rfl,rfl,?_⟩;refine ga [14,15,16] ?_;refine A2 18 rfl (dN bw ?_);refine ga [19] ?_;refine aZ ?_;refine ke 2 [20,21,10,8] 6 ?_;refine cj (fun h36=>?_) (fun h36=>?_)
   ·refine kc 0 [20,10] 12 ?_;refine eo (.bZ [aQ.d,.v (.int .i64 c4)]) [0,1] [bc es w4,ba] ?_
    ·exact ⟨aQ,c4,w4,rfl,rfl,fun h=>rfl,fun h=>absurd h (by omega)⟩
   refine gc 3 ?_;refine gz [0,1] mixed ?_;refine A1 2 rfl (cu bB bH ⟨_,rfl,?_⟩ (he:=by exact(rfl)));refine ga [3,4] ?_;refine A2 5 rfl (cv Mj rfl rfl (tD k1 m1 s1 l1 a1 k4 m4 s4 l4 a4) (bo (bo .nil)) ?_);refine A2 6 rfl (dN bw ?_);refine ga [7] ?_;refine aZ ?_;refine ge 4 ?_;refine eo (.bZ [(ae.mk 5 0 .empty [] [.mk k1 m1 s1 l1 a1,.mk k4 m4 s4 l4 a4]).d,.v (.int .i64 0)]) [0,1] [bc es w4,ba] ?_
   ·obtain ⟨rfl,hWt2,hHT2⟩:=hq8 (by omega);rw[hl1] at hWt2 hHT2;refine⟨_,0,false,rfl,rfl,fun h=>rfl,fun _=>⟨rfl,?_,?_⟩⟩
    ·rw [← hT];exact Wt.bind (.inl rfl) hWt1 hWt2
    ·exact (HT.pi hWt1 (by omega) hHT2).mono (Nat.le_refl _) (by omega)
 ·skip
  refine A4 17 rfl (qB bw ?_);refine A2 7 rfl (cv Iv rfl rfl (hex) (an (bo .nil)) ?_);refine A2 13 rfl (aN uT rfl rfl rfl rfl (hin2) [0,1] (bj (cr .nil)) rfl rfl rfl rfl (an (an (an (bo (an .nil))))) (fun s ob' hq=>?_) (fun s ob' hq=>?_));rotate_left
  ·obtain ⟨_,_,_,hq1,_⟩:=hq;cases hq1
  obtain⟨⟨k4,m4,s4,l4,a4⟩,c4,w4,hq1,rfl,hq7,hq8⟩:=hq;cases hq1;refine⟨_,_,_,_,_,rfl,rfl,rfl,rfl,rfl,?_⟩;refine ga [14,15,16] ?_;refine A2 18 rfl (dN bw ?_);refine ga [19] ?_;refine aZ ?_;refine ke 2 [20,21,10,8] 6 ?_;refine cj (fun h36=>?_) (fun h36=>?_)
  ·refine kc 0 [20,10] 12 ?_;refine eo (.bZ [aQ.d,.v (.int .i64 c4)]) [0,1] [bc es w4,ba] ?_
   ·exact ⟨aQ,c4,w4,rfl,rfl,fun h=>rfl,fun h=>absurd h (by omega)⟩
  refine gc 3 ?_;refine gz [0,1] mixed ?_;refine A1 2 rfl (cu bB bH ⟨_,rfl,?_⟩ (he:=by exact(rfl)));refine ga [3,4] ?_;refine A2 5 rfl (cv Mj rfl rfl (tD k1 m1 s1 l1 a1 k4 m4 s4 l4 a4) (bo (bo .nil)) ?_);refine A2 6 rfl (dN bw ?_);refine ga [7] ?_;refine aZ ?_;refine ge 4 ?_;refine eo (.bZ [(ae.mk 5 0 .empty [] [.mk k1 m1 s1 l1 a1,.mk k4 m4 s4 l4 a4]).d,.v (.int .i64 0)]) [0,1] [bc es w4,ba] ?_
  ·obtain ⟨rfl,hWt2,hHT2⟩:=hq8 (by omega);rw[hl1] at hWt2 hHT2;refine⟨_,0,false,rfl,rfl,fun h=>rfl,fun _=>⟨rfl,?_,?_⟩⟩
   ·rw [← hT];exact Wt.bind (.inl rfl) hWt1 hWt2
   ·exact (HT.pi hWt1 (by omega) hHT2).mono (Nat.le_refl _) (by omega)
set_option maxHeartbeats 800000 in
theorem AS(hE:dg es)(hm:most≤1000000)(hS:S≤1000000000∧20000≤S)(k1 m1:Int)(s1:ByteArray)(l1:List aP)(a1:List ae)(k2 m2:Int)(s2:ByteArray)(l2:List aP)(a2:List ae)(hI1:yT gl es ps most S (.mk k1 m1 s1 l1 a1))(hI2:yT gl es ps most S (.mk k2 m2 s2 l2 a2)):yT gl es ps most S (.mk 5 0 .empty [] [.mk k1 m1 s1 l1 a1,.mk k2 m2 s2 l2 a2]):=by
 intro ctx w hctx hlen hz hsh;have hdep:=Gx (k:=5) (.inr rfl) 0 .empty [] (.mk k1 m1 s1 l1 a1) (.mk k2 m2 s2 l2 a2);have hzz:1+((ae.mk k1 m1 s1 l1 a1).size+((ae.mk k2 m2 s2 l2 a2).size+0))≤S:=by simp only[ae.size,bh,aj] at hz ⊢;omega
 have hl1:=CO ctx (.mk k1 m1 s1 l1 a1);have hex:=jB (gl:=gl) ctx k1 m1 s1 l1 a1 (by omega);generalize hT:ae.mk 5 0 .empty [] [.mk k1 m1 s1 l1 a1,.mk k2 m2 s2 l2 a2]=T at hdep hlen;have hTd:T.d=(ae.mk 5 0 .empty [] [.mk k1 m1 s1 l1 a1,.mk k2 m2 s2 l2 a2]).d:=by rw[hT]
 rw[hTd];refine bS Tryz.func36 Tryz.ntmps36 2 ?_;refine gc 16 ?_;refine cj (fun h1=>?_) (fun h1=>?_)
 ·refine kc 0 [10] 9 ?_;refine eo (.bZ [aQ.d,.v (.int .i64 14)]) [0,1] [bc es w,ba] ?_
  ·exact ⟨aQ,14,w,rfl,rfl,fun h=>h,fun h=>absurd h (by omega)⟩
 refine kc 4 [10,8,0,1,2,4] 0 ?_;obtain rfl:=h1;refine gc 12 ?_;refine cf ?_;refine gc 6 ?_;refine cf ?_;refine kc 0 [35,10,8,0,1,2,4] 6 ?_;refine cf ?_;refine gc 6 ?_;refine cf ?_;refine kc 0 [35,10,8,0,1,2,4] 6 ?_;refine cf ?_;refine gc 6 ?_;refine ct ?_;refine kc 1 [10,8,0,1,2,4] 0 ?_;have hso:=jD (gl:=gl) hE hm hS.1 k1 m1 s1 l1 a1 hI1 ctx false hctx (by omega) (by omega) hsh.2.1.1;refine gc 6 ?_;refine o1 (cu bB bH ?_ (he:=by exact(rfl)));refine go 2 ?_;refine oc (aN xW rfl rfl rfl rfl (hso) [0,1] (bj (cr .nil)) rfl rfl rfl rfl (an (an (an (bo (an .nil))))) (fun s ob' hq=>?_) (fun s ob' hq=>?_));rotate_left
 ·obtain ⟨_,_,_,hq1,_⟩:=hq;cases hq1
 obtain⟨⟨kl,sl,al⟩,c1,w1,hq1,rfl,hq2,hq3⟩:=hq;cases hq1;refine⟨_,_,_,_,_,rfl,rfl,rfl,rfl,rfl,?_⟩;refine ko 9 [23,22,10,8,0,1,2,4] 6 ?_;refine cj (fun h41=>?_) (fun h41=>?_)
 ·refine kc 0 [23,10] 12 ?_;refine eo (.bZ [aQ.d,.v (.int .i64 c1)]) [0,1] [bc es w1,ba] ?_
  ·exact ⟨aQ,c1,w1,rfl,rfl,fun h=>rfl,fun h=>absurd h (by omega)⟩
 refine gc 3 ?_;obtain⟨rfl,hWt1,hlv⟩:=hq3 (by omega);have hso2:=jD (gl:=gl) hE hm hS.1 k2 m2 s2 l2 a2 hI2 (ctx++[.mk k1 m1 s1 l1 a1]) false (hctx.app hWt1 (by omega)) (by omega) (by omega) hsh.2.1.2.1;refine gz [0,1,2,3,4] mixed ?_;refine A1 5 rfl (cu bB bH ⟨_,rfl,?_⟩ (he:=by exact(rfl)));refine ga [6,8,9] ?_;refine A1 10 rfl (cu bB bH ⟨_,rfl,?_⟩ (he:=by exact(rfl)));refine ga [11,12] ?_;refine cT (rs:=[7,17]) (by kernel_rfl) rfl ⟨?_,?_,trivial⟩
 ·skip
  refine A4 7 rfl (cv Iv rfl rfl (hex) (an (bo .nil)) ?_);refine cT (rs:=[13,17]) (by kernel_rfl) rfl ⟨?_,?_,trivial⟩
  ·skip
   refine A4 13 rfl (aN xW rfl rfl rfl rfl (hso2) [0,1] (bj (cr .nil)) rfl rfl rfl rfl (an (an (an (bo (an .nil))))) (fun s ob' hq=>?_) (fun s ob' hq=>?_));rotate_left
   ·obtain ⟨_,_,_,hq1,_⟩:=hq;cases hq1
   obtain⟨⟨kr,sr',ar⟩,c4,w4,hq1,rfl,hq7,hq8⟩:=hq;cases hq1;refine⟨_,_,_,_,_,rfl,rfl,rfl,rfl,rfl,?_⟩;refine ga [14,15,16] ?_;refine A2 17 rfl (qB eL ?_);refine A2 18 rfl (dN eL ?_);refine ga [19] ?_;refine aZ ?_;refine ke 2 [23,24,22,10] 6 ?_;refine cj (fun h44=>?_) (fun h44=>?_)
   ·refine kc 0 [23,10] 12 ?_;refine eo (.bZ [aQ.d,.v (.int .i64 c4)]) [0,1] [bc es w4,ba] ?_
    ·exact ⟨aQ,c4,w4,rfl,rfl,fun h=>rfl,fun h=>absurd h (by omega)⟩
   refine gc 6 ?_;refine oc (gD ji [.tmp 218,.tmp 219] eL ?_);refine go 1 ?_;refine oc (cv Iw rfl rfl (jt 3 .empty [.mk kl sl al,.mk kr sr' ar]) (bo .nil) ?_);refine go 7 ?_;refine eo (.bZ [(ae.mk 1 0 .empty [.mk 3 .empty [.mk kl sl al,.mk kr sr' ar]] []).d,.v (.int .i64 0)]) [0,1] [bc es w4,ba] ?_
   ·obtain ⟨rfl,hWt2,hlv2⟩:=hq8 (by omega);rw[hl1] at hWt2;obtain⟨x,hx,hfx,hix⟩:=hlv;obtain⟨y,hy,hfy,hiy⟩:=hlv2;refine⟨_,0,false,rfl,rfl,fun h=>rfl,fun _=>⟨rfl,?_,.sort ⟨.imax x y,by rw[hx,hy];rfl,⟨by decide,by decide,fun e=>absurd e (by decide),hfx,hfy,trivial⟩,fun p hp=>hp.elim (hix p) (hiy p)⟩⟩⟩;rw[← hT];exact Wt.bind (.inr rfl) hWt1 hWt2
  ·skip
   refine A4 17 rfl (qB eL ?_);refine A2 13 rfl (aN xW rfl rfl rfl rfl (hso2) [0,1] (bj (cr .nil)) rfl rfl rfl rfl (an (an (an (bo (an .nil))))) (fun s ob' hq=>?_) (fun s ob' hq=>?_));rotate_left
   ·obtain ⟨_,_,_,hq1,_⟩:=hq;cases hq1
   obtain⟨⟨kr,sr',ar⟩,c4,w4,hq1,rfl,hq7,hq8⟩:=hq;cases hq1;refine⟨_,_,_,_,_,rfl,rfl,rfl,rfl,rfl,?_⟩;refine ga [14,15,16] ?_;refine A2 18 rfl (dN eL ?_);refine ga [19] ?_;refine aZ ?_;refine ke 2 [23,24,22,10] 6 ?_;refine cj (fun h44=>?_) (fun h44=>?_)
   ·refine kc 0 [23,10] 12 ?_;refine eo (.bZ [aQ.d,.v (.int .i64 c4)]) [0,1] [bc es w4,ba] ?_
    ·exact ⟨aQ,c4,w4,rfl,rfl,fun h=>rfl,fun h=>absurd h (by omega)⟩
   refine gc 6 ?_;refine oc (gD ji [.tmp 218,.tmp 219] eL ?_);refine go 1 ?_;refine oc (cv Iw rfl rfl (jt 3 .empty [.mk kl sl al,.mk kr sr' ar]) (bo .nil) ?_);refine go 7 ?_;refine eo (.bZ [(ae.mk 1 0 .empty [.mk 3 .empty [.mk kl sl al,.mk kr sr' ar]] []).d,.v (.int .i64 0)]) [0,1] [bc es w4,ba] ?_
   ·obtain ⟨rfl,hWt2,hlv2⟩:=hq8 (by omega);rw[hl1] at hWt2;obtain⟨x,hx,hfx,hix⟩:=hlv;obtain⟨y,hy,hfy,hiy⟩:=hlv2;refine⟨_,0,false,rfl,rfl,fun h=>rfl,fun _=>⟨rfl,?_,.sort ⟨.imax x y,by rw[hx,hy];rfl,⟨by decide,by decide,fun e=>absurd e (by decide),hfx,hfy,trivial⟩,fun p hp=>hp.elim (hix p) (hiy p)⟩⟩⟩;rw[← hT];exact Wt.bind (.inr rfl) hWt1 hWt2
 ·skip
  refine A4 17 rfl (qB eL ?_);refine A2 7 rfl (cv Iv rfl rfl (hex) (an (bo .nil)) ?_);refine A2 13 rfl (aN xW rfl rfl rfl rfl (hso2) [0,1] (bj (cr .nil)) rfl rfl rfl rfl (an (an (an (bo (an .nil))))) (fun s ob' hq=>?_) (fun s ob' hq=>?_));rotate_left
  ·obtain ⟨_,_,_,hq1,_⟩:=hq;cases hq1
  obtain⟨⟨kr,sr',ar⟩,c4,w4,hq1,rfl,hq7,hq8⟩:=hq;cases hq1;refine⟨_,_,_,_,_,rfl,rfl,rfl,rfl,rfl,?_⟩;refine ga [14,15,16] ?_;refine A2 18 rfl (dN eL ?_);refine ga [19] ?_;refine aZ ?_;refine ke 2 [23,24,22,10] 6 ?_;refine cj (fun h44=>?_) (fun h44=>?_)
  ·refine kc 0 [23,10] 12 ?_;refine eo (.bZ [aQ.d,.v (.int .i64 c4)]) [0,1] [bc es w4,ba] ?_
   ·exact ⟨aQ,c4,w4,rfl,rfl,fun h=>rfl,fun h=>absurd h (by omega)⟩
  refine gc 6 ?_;refine oc (gD ji [.tmp 218,.tmp 219] eL ?_);refine go 1 ?_;refine oc (cv Iw rfl rfl (jt 3 .empty [.mk kl sl al,.mk kr sr' ar]) (bo .nil) ?_);refine go 7 ?_;refine eo (.bZ [(ae.mk 1 0 .empty [.mk 3 .empty [.mk kl sl al,.mk kr sr' ar]] []).d,.v (.int .i64 0)]) [0,1] [bc es w4,ba] ?_
  ·obtain ⟨rfl,hWt2,hlv2⟩:=hq8 (by omega);rw[hl1] at hWt2;obtain⟨x,hx,hfx,hix⟩:=hlv;obtain⟨y,hy,hfy,hiy⟩:=hlv2;refine⟨_,0,false,rfl,rfl,fun h=>rfl,fun _=>⟨rfl,?_,.sort ⟨.imax x y,by rw[hx,hy];rfl,⟨by decide,by decide,fun e=>absurd e (by decide),hfx,hfy,trivial⟩,fun p hp=>hp.elim (hix p) (hiy p)⟩⟩⟩;rw[← hT];exact Wt.bind (.inr rfl) hWt1 hWt2
set_option maxHeartbeats 1600000 in
theorem yB(hE:dg es)(hL:ps.length≤6)(hm:most≤1000000)(hS:S≤1000000000∧20000≤S)(k1 m1:Int)(s1:ByteArray)(l1:List aP)(a1:List ae)(k2 m2:Int)(s2:ByteArray)(l2:List aP)(a2:List ae)(k3 m3:Int)(s3:ByteArray)(l3:List aP)(a3:List ae)(hI1:yT gl es ps most S (.mk k1 m1 s1 l1 a1))(hI2:yT gl es ps most S (.mk k2 m2 s2 l2 a2))(hI3:yT gl es ps most S (dp (.mk k3 m3 s3 l3 a3) (.mk k2 m2 s2 l2 a2))):yT gl es ps most S (.mk 6 0 .empty [] [.mk k1 m1 s1 l1 a1,.mk k2 m2 s2 l2 a2,.mk k3 m3 s3 l3 a3]):=by
 intro ctx w hctx hlen hz hsh;have hdep:=L8 0 .empty [] (a:=.mk k1 m1 s1 l1 a1) hsh.2.1.2.1 hsh.2.1.2.2.1;have hzz:1+((ae.mk k1 m1 s1 l1 a1).size+((ae.mk k2 m2 s2 l2 a2).size+((ae.mk k3 m3 s3 l3 a3).size+0)))≤S:=by simp only[ae.size,bh,aj] at hz ⊢;omega
 have hsu:=oy (gl:=gl) es false (B:=4398046511104) (B':=4398046511104) (by omega) (by omega) k3 m3 s3 l3 a3 k2 m2 s2 l2 a2 (by omega) (by omega) hsh.2.1.2.2.1 hsh.2.1.2.1;have hIw:yT gl es ps most S iZ:=qo hL hS.1 0 .empty [];generalize hT:ae.mk 6 0 .empty [] [.mk k1 m1 s1 l1 a1,.mk k2 m2 s2 l2 a2,.mk k3 m3 s3 l3 a3]=T at hdep hlen;have hTd:T.d=(ae.mk 6 0 .empty [] [.mk k1 m1 s1 l1 a1,.mk k2 m2 s2 l2 a2,.mk k3 m3 s3 l3 a3]).d:=by rw[hT]
 rw[hTd];refine bS Tryz.func36 Tryz.ntmps36 2 ?_;refine gc 16 ?_;refine cj (fun h1=>?_) (fun h1=>?_)
 ·refine kc 0 [10] 9 ?_;refine eo (.bZ [aQ.d,.v (.int .i64 14)]) [0,1] [bc es w,ba] ?_
  ·exact ⟨aQ,14,w,rfl,rfl,fun h=>h,fun h=>absurd h (by omega)⟩
 refine kc 4 [10,8,0,1,2,4] 0 ?_;obtain rfl:=h1;refine gc 12 ?_;refine cf ?_;refine gc 6 ?_;refine cf ?_;refine kc 0 [35,10,8,0,1,2,4] 6 ?_;refine cf ?_;refine gc 6 ?_;refine cf ?_;refine kc 0 [35,10,8,0,1,2,4] 6 ?_;refine cf ?_;refine gc 6 ?_;refine cf ?_;refine kc 4 [10,8,0,1,2,4] 0 ?_;have hso:=jD (gl:=gl) hE hm hS.1 k1 m1 s1 l1 a1 hI1 ctx false hctx (by omega) (by omega) hsh.2.1.1;refine gc 6 ?_;refine o1 (cu bB bH ?_ (he:=by exact(rfl)));refine go 2 ?_;refine oc (aN xW rfl rfl rfl rfl (hso) [0,1] (bj (cr .nil)) rfl rfl rfl rfl (an (an (an (bo (an .nil))))) (fun s ob' hq=>?_) (fun s ob' hq=>?_));rotate_left
 ·obtain ⟨_,_,_,hq1,_⟩:=hq;cases hq1
 obtain⟨⟨kl,sl,al⟩,c1,w1,hq1,rfl,hq2,hq3⟩:=hq;cases hq1;refine⟨_,_,_,_,_,rfl,rfl,rfl,rfl,rfl,?_⟩;refine ko 9 [26,10,8,0,1,2,4] 6 ?_;refine cj (fun h48=>?_) (fun h48=>?_)
 ·refine kc 0 [26,10] 10 ?_;refine eo (.bZ [aQ.d,.v (.int .i64 c1)]) [0,1] [bc es w1,ba] ?_
  ·exact ⟨aQ,c1,w1,rfl,rfl,fun h=>rfl,fun h=>absurd h (by omega)⟩
 refine gc 3 ?_;obtain⟨rfl,hWt1,hlv⟩:=hq3 (by omega);have hin2:=hI2 ctx false hctx (by omega) (by omega) hsh.2.1.2.1;refine gc 6 ?_;refine o1 (cu bB bH ?_ (he:=by exact(rfl)));refine go 2 ?_;refine oc (aN uT rfl rfl rfl rfl (hin2) [0,1] (bj (cr .nil)) rfl rfl rfl rfl (an (an (an (bo (an .nil))))) (fun s ob' hq=>?_) (fun s ob' hq=>?_));rotate_left
 ·obtain ⟨_,_,_,hq1,_⟩:=hq;cases hq1
 obtain⟨⟨k4,m4,s4,l4,a4⟩,c4,w4,hq1,rfl,hq7,hq8⟩:=hq;cases hq1;refine⟨_,_,_,_,_,rfl,rfl,rfl,rfl,rfl,?_⟩;refine ko 9 [26,27,10,8,0,1,2,4] 6 ?_;refine cj (fun h51=>?_) (fun h51=>?_)
 ·refine kc 0 [26,10] 10 ?_;refine eo (.bZ [aQ.d,.v (.int .i64 c4)]) [0,1] [bc es w4,ba] ?_
  ·exact ⟨aQ,c4,w4,rfl,rfl,fun h=>rfl,fun h=>absurd h (by omega)⟩
 refine gc 3 ?_;obtain⟨rfl,hWt2,hHT2⟩:=hq8 (by omega);have hmu:=ux (gl:=gl) hE hL (c:=(ctx.length:Int)) (Int.natCast_nonneg _) (most:=most) (S:=S) (n:=dep (.mk k2 m2 s2 l2 a2)) (n2:=0) hm false k4 m4 s4 l4 a4 k1 m1 s1 l1 a1 (by omega) (by omega) hHT2 (.base hWt1 (by omega));refine gz [0,1,2,3] mixed ?_;refine A1 4 rfl (cu bB bH ⟨_,rfl,?_⟩ (he:=by exact(rfl)));refine ga [5,6] ?_;refine A2 7 rfl (aN Ou rfl rfl rfl rfl (hmu) [0,1] (bj (cr .nil)) rfl rfl rfl rfl (an (bo (bo (an .nil)))) (fun s ob' hq=>?_) (fun s ob' hq=>?_));rotate_left
 ·obtain ⟨_,_,hq1,_⟩:=hq;cases hq1
 obtain⟨c5,w5,hq1,rfl,hq9,hq10⟩:=hq;cases hq1;refine⟨_,_,_,_,_,rfl,rfl,rfl,rfl,rfl,?_⟩;refine ga [8] ?_;refine aZ ?_;refine ke 2 [26,10,8,0,1,2,4] 6 ?_;refine cj (fun h54=>?_) (fun h54=>?_)
 ·refine kc 0 [26,10] 10 ?_;refine eo (.bZ [aQ.d,.v (.int .i64 c5)]) [0,1] [bc es w5,ba] ?_
  ·exact ⟨aQ,c5,w5,rfl,rfl,fun h=>rfl,fun h=>absurd h (by omega)⟩
 refine gc 3 ?_;obtain rfl:=hq9 (by omega);refine gz [0,1,2] mixed ?_;refine A1 3 rfl (cu bB bH ⟨_,rfl,?_⟩ (he:=by exact(rfl)));refine ga [4,5,6] ?_;refine A1 7 rfl (cu bB bH ⟨_,rfl,?_⟩ (he:=by exact(rfl)));refine ga [8] ?_;refine cT (rs:=[9,10]) (by kernel_rfl) rfl ⟨?_,?_,trivial⟩
 ·skip
  refine A4 9 rfl (aN Fo rfl rfl rfl rfl (hsu) [0,1] (bj (cr .nil)) rfl rfl rfl rfl (an (bo (bo .nil))) (fun s ob' hq=>?_) (fun s ob' hq=>?_));rotate_left
  ·obtain ⟨_,_,hq1,_⟩:=hq;cases hq1
  obtain⟨⟨k6,m6,s6,l6,a6⟩,w6,hq1,rfl,hw6⟩:=hq;cases hq1;refine⟨_,_,_,_,_,rfl,rfl,rfl,rfl,rfl,?_⟩;refine A2 10 rfl (qB bw ?_);refine A2 11 rfl (dN bw ?_);refine aZ ?_;refine ke 2 [28,10,0,1,2,4] 0 ?_
  skip
  have hin3:et Tryz.prog gl 36 [bc es w6,ba] [.cb 0 0,.d (eA ps),.d (.sl 5 (aH ctx)),.d (ae.mk k6 m6 s6 l6 a6).d,.d (.v (.int .i64 most))] (fun out ob'=> ∃(u:ae) (code:Int) (w':Bool),out=.ret (.d (.bZ [u.d,.v (.int .i64 code)]))∧ob'=[bc es w',ba]∧(code=0→w'=false∧Wt (eh es) ps (ae.mk k3 m3 s3 l3 a3) (ctx.length+1)∧HT (eh es) ps S (dep T) u ctx.length)):=by
   rcases hw6 with⟨rfl,_,h7,h8⟩|⟨rfl,h7⟩
   ·rw [h7] at h8 ⊢;refine(hI3 ctx false hctx (by omega) (by omega) (FY (Int.natCast_nonneg _) hWt2 (by omega) hsh.2.1.2.2.1)).mono fun o b hh=>?_;obtain⟨u,code,w',r1,r2,r3,r4⟩:=hh
    exact⟨u,code,w',r1,r2,fun e=>⟨(r4 e).1,Wt.MA (Int.natCast_nonneg _) hsh.2.1.2.2.1 (r4 e).2.1,(r4 e).2.2.mono (Nat.le_refl _) (by omega)⟩⟩
   ·rw [h7];refine(hIw ctx true hctx (by have:dep iZ=0:=rfl;omega) (by have:iZ.size=2:=rfl;omega) (Wt.sh (we (sg:=eh es) (ps:=ps) (c:=0)) (by have:iZ.size=2:=rfl;omega))).mono fun o b hh=>?_
    obtain⟨u,code,w',r1,r2,r3,r4⟩:=hh;exact⟨u,code,w',r1,r2,fun e=>absurd (r3 (r4 e).1) (by decide)⟩
  refine gc 6 ?_;refine oc (aN uT rfl rfl rfl rfl (hin3) [0,1] (bj (cr .nil)) rfl rfl rfl rfl (an (an (an (bo (an .nil))))) (fun s ob' hq=>?_) (fun s ob' hq=>?_));rotate_left
  ·obtain ⟨_,_,_,hq1,_⟩:=hq;cases hq1
  obtain⟨⟨k8,m8,s8,l8,a8⟩,c8,w8,hq1,rfl,hq11⟩:=hq;cases hq1;refine⟨_,_,_,_,_,rfl,rfl,rfl,rfl,rfl,?_⟩;refine go 7 ?_;refine eo (.bZ [(ae.mk k8 m8 s8 l8 a8).d,.v (.int .i64 c8)]) [0,1] [bc es w8,ba] ?_
  ·refine ⟨_,c8,w8,rfl,rfl,fun h=>rfl,fun e=>?_⟩;obtain⟨r1,r2,r3⟩:=hq11 e;refine⟨r1,?_,r3⟩;rw[← hT];exact Wt.Pt hWt1 hWt2 r2
 ·skip
  refine A4 10 rfl (qB bw ?_);refine A2 9 rfl (aN Fo rfl rfl rfl rfl (hsu) [0,1] (bj (cr .nil)) rfl rfl rfl rfl (an (bo (bo .nil))) (fun s ob' hq=>?_) (fun s ob' hq=>?_));rotate_left
  ·obtain ⟨_,_,hq1,_⟩:=hq;cases hq1
  obtain⟨⟨k6,m6,s6,l6,a6⟩,w6,hq1,rfl,hw6⟩:=hq;cases hq1;refine⟨_,_,_,_,_,rfl,rfl,rfl,rfl,rfl,?_⟩;refine A2 11 rfl (dN bw ?_);refine aZ ?_;refine ke 2 [28,10,0,1,2,4] 0 ?_
  skip
  have hin3:et Tryz.prog gl 36 [bc es w6,ba] [.cb 0 0,.d (eA ps),.d (.sl 5 (aH ctx)),.d (ae.mk k6 m6 s6 l6 a6).d,.d (.v (.int .i64 most))] (fun out ob'=> ∃(u:ae) (code:Int) (w':Bool),out=.ret (.d (.bZ [u.d,.v (.int .i64 code)]))∧ob'=[bc es w',ba]∧(code=0→w'=false∧Wt (eh es) ps (ae.mk k3 m3 s3 l3 a3) (ctx.length+1)∧HT (eh es) ps S (dep T) u ctx.length)):=by
   rcases hw6 with⟨rfl,_,h7,h8⟩|⟨rfl,h7⟩
   ·rw [h7] at h8 ⊢;refine(hI3 ctx false hctx (by omega) (by omega) (FY (Int.natCast_nonneg _) hWt2 (by omega) hsh.2.1.2.2.1)).mono fun o b hh=>?_;obtain⟨u,code,w',r1,r2,r3,r4⟩:=hh
    exact⟨u,code,w',r1,r2,fun e=>⟨(r4 e).1,Wt.MA (Int.natCast_nonneg _) hsh.2.1.2.2.1 (r4 e).2.1,(r4 e).2.2.mono (Nat.le_refl _) (by omega)⟩⟩
   ·rw [h7];refine(hIw ctx true hctx (by have:dep iZ=0:=rfl;omega) (by have:iZ.size=2:=rfl;omega) (Wt.sh (we (sg:=eh es) (ps:=ps) (c:=0)) (by have:iZ.size=2:=rfl;omega))).mono fun o b hh=>?_
    obtain⟨u,code,w',r1,r2,r3,r4⟩:=hh;exact⟨u,code,w',r1,r2,fun e=>absurd (r3 (r4 e).1) (by decide)⟩
  refine gc 6 ?_;refine oc (aN uT rfl rfl rfl rfl (hin3) [0,1] (bj (cr .nil)) rfl rfl rfl rfl (an (an (an (bo (an .nil))))) (fun s ob' hq=>?_) (fun s ob' hq=>?_));rotate_left
  ·obtain ⟨_,_,_,hq1,_⟩:=hq;cases hq1
  obtain⟨⟨k8,m8,s8,l8,a8⟩,c8,w8,hq1,rfl,hq11⟩:=hq;cases hq1;refine⟨_,_,_,_,_,rfl,rfl,rfl,rfl,rfl,?_⟩;refine go 7 ?_;refine eo (.bZ [(ae.mk k8 m8 s8 l8 a8).d,.v (.int .i64 c8)]) [0,1] [bc es w8,ba] ?_
  ·refine ⟨_,c8,w8,rfl,rfl,fun h=>rfl,fun e=>?_⟩;obtain⟨r1,r2,r3⟩:=hq11 e;refine⟨r1,?_,r3⟩;rw[← hT];exact Wt.Pt hWt1 hWt2 r2
theorem xE(hE:dg es)(hL:ps.length≤6)(hm:most≤1000000)(hS:S≤1000000000∧20000≤S)(k1 m1:Int)(s1:ByteArray)(l1:List aP)(a1:List ae)(k2 m2:Int)(s2:ByteArray)(l2:List aP)(a2:List ae)(hI1:yT gl es ps most S (.mk k1 m1 s1 l1 a1))(hI2:yT gl es ps most S (.mk k2 m2 s2 l2 a2)):yT gl es ps most S (.mk 3 0 .empty [] [.mk k1 m1 s1 l1 a1,.mk k2 m2 s2 l2 a2]):=by
 intro ctx w hctx hlen hz hsh;have hap:=yD (gl:=gl) hE hL hm hS 0 .empty [] k1 m1 s1 l1 a1 k2 m2 s2 l2 a2 hI1 hI2 ctx false hctx hlen hz hsh;refine bS Tryz.func36 Tryz.ntmps36 2 ?_;refine gc 16 ?_;refine cj (fun h1=>?_) (fun h1=>?_)
 ·refine kc 0 [10] 9 ?_;refine eo (.bZ [aQ.d,.v (.int .i64 14)]) [0,1] [bc es w,ba] ?_
  ·exact ⟨aQ,14,w,rfl,rfl,fun h=>h,fun h=>absurd h (by omega)⟩
 refine kc 4 [10,8,0,1,2,4] 0 ?_;obtain rfl:=h1;refine gc 12 ?_;refine cf ?_;refine gc 6 ?_;refine cf ?_;refine kc 0 [35,10,8,0,1,2,4] 6 ?_;refine cf ?_;refine gc 6 ?_;refine ct ?_;refine kc 0 [10,8,0,1,2,4] 7 ?_;refine oc (aN Re rfl rfl rfl rfl (hap) [0,1] (bj (cr .nil)) rfl rfl rfl rfl (an (an (an (bo (an .nil))))) (fun s ob' hq=>?_) (fun s ob' hq=>?_));rotate_left
 ·obtain ⟨_,_,_,hq1,_⟩:=hq;cases hq1
 obtain⟨⟨k3,m3,s3,l3,a3⟩,c1,w1,hq1,rfl,hq2,hq3⟩:=hq;cases hq1;refine⟨_,_,_,_,_,rfl,rfl,rfl,rfl,rfl,?_⟩;refine go 9 ?_;refine eo (.bZ [(ae.mk k3 m3 s3 l3 a3).d,.v (.int .i64 c1)]) [0,1] [bc es w1,ba] ?_
 ·exact ⟨_,c1,w1,rfl,rfl,hq2,hq3⟩
theorem sk(hE:dg es)(hL:ps.length≤6)(hm:most≤1000000)(hS:S≤1000000000∧20000≤S):∀(n:Nat) (t:ae),DO t<n→yT gl es ps most S t:=by
 intro n
 induction n with
 |zero=>intro t h;omega
 |succ n ih=>
  intro t hn ctx w hctx hlen hz hsh;obtain⟨k,m,s,ls,args,rfl⟩:=ae.case t
  rcases hsh.2.2 with h|h|h|h|h
  ·obtain ⟨rfl,_,rfl,rfl,ha⟩:=h;obtain rfl:=List.length_eq_zero_iff.1 ha;exact yA hS.1 m ctx w hctx hlen hz hsh
  ·obtain ⟨rfl,rfl,rfl,hl,ha⟩:=h;obtain rfl:=List.length_eq_zero_iff.1 ha;obtain⟨⟨kl,sl,al⟩,rfl⟩:=List.length_eq_one_iff.1 hl;exact qo hL hS.1 kl sl al ctx w hctx hlen hz hsh
  ·obtain ⟨rfl,rfl,_,ha⟩:=h;obtain rfl:=List.length_eq_zero_iff.1 ha;exact vN hE hL hS s ls ctx w hctx hlen hz hsh
  ·obtain ⟨hk,rfl,rfl,rfl,ha⟩:=h
   match args,ha with
   |[⟨k1,m1,s1,l1,a1⟩,⟨k2,m2,s2,l2,a2⟩],_=>
    rcases hk with rfl|rfl|rfl
    ·have hw:=La 0 .empty [] (.mk k1 m1 s1 l1 a1) (.mk k2 m2 s2 l2 a2);exact xE hE hL hm hS _ _ _ _ _ _ _ _ _ _ (ih _ (by omega)) (ih _ (by omega)) ctx w hctx hlen hz hsh
    ·have hw:=FO (k:=4) (.inl rfl) 0 .empty [] (.mk k1 m1 s1 l1 a1) (.mk k2 m2 s2 l2 a2);exact yC hE hm hS _ _ _ _ _ _ _ _ _ _ (ih _ (by omega)) (ih _ (by omega)) ctx w hctx hlen hz hsh
    ·have hw:=FO (k:=5) (.inr rfl) 0 .empty [] (.mk k1 m1 s1 l1 a1) (.mk k2 m2 s2 l2 a2);exact AS hE hm hS _ _ _ _ _ _ _ _ _ _ (ih _ (by omega)) (ih _ (by omega)) ctx w hctx hlen hz hsh
  ·obtain ⟨rfl,rfl,rfl,rfl,ha⟩:=h
   match args,ha with
   |[⟨k1,m1,s1,l1,a1⟩,⟨k2,m2,s2,l2,a2⟩,⟨k3,m3,s3,l3,a3⟩],_=>
    have hw:=Lb 0 .empty [] (a:=.mk k1 m1 s1 l1 a1) hsh.2.1.2.1 hsh.2.1.2.2.1;exact yB hE hL hm hS _ _ _ _ _ _ _ _ _ _ _ _ _ _ _ (ih _ (by omega)) (ih _ (by omega)) (ih _ (by omega)) ctx w hctx hlen hz hsh
theorem iE(hE:dg es)(hL:ps.length≤6)(hm:most≤1000000)(hS:S≤1000000000∧20000≤S)(k m:Int)(s:ByteArray)(ls:List aP)(args:List ae)(ctx:List ae)(w:Bool)(hctx:tV es ps S ctx)(hlen:ctx.length+dep (.mk k m s ls args)≤1000000)(hz:(ae.mk k m s ls args).size≤S)(hsh:iD 4398046511104 (.mk k m s ls args)):
 et Tryz.prog gl 60 [bc es w,ba] [.cb 0 0,.d (eA ps),.d (.sl 5 (aH ctx)),.d (ae.mk k m s ls args).d,.d (.v (.int .i64 most))] (KR es ps ctx.length (.mk k m s ls args) w):=
 jD hE hm hS.1 k m s ls args (sk hE hL hm hS _ _ (Nat.lt_succ_self _)) ctx w hctx hlen hz hsh
end
section
open Go Go.Vd Go.RowKit
attribute [local irreducible] bu bA di ak bL cU
variable {g gl:Nat→List D}
def OV(es:List cy)(nm:ByteArray)(p:Int)(a:ae)(w:Bool)(out:Out)(ob':List Ob):Prop:=
 ∃(code:Int) (w':Bool),out=.ret (.d (.v (.int .i64 code)))∧ob'=[bc es w',ba]∧(w'=false→w=false)∧(code=0→Jz nm p a)
set_option maxHeartbeats 800000 in
theorem yQ{es:List cy}(hE:dg es)(x:RD)(hL:x.pd.length≤6)(hx:0≤x.ad∧x.ad≤1000000000){most S:Nat}(hm:most≤1000000)(hS:S≤1000000000∧20000≤S)(k n:Int)(s:ByteArray)(ls:List aP)(args:List ae)(ctx:List ae)(w:Bool)(hctx:tV es x.pd S ctx)(hlen:ctx.length+(ae.mk k n s ls args).size≤1000000)(hz:(ae.mk k n s ls args).size≤S)(hw:Wt (eh es) x.pd (.mk k n s ls args) ctx.length)(m:Nat)(hmm:m≤1000000000)(kl:Int)(sl:ByteArray)(al:List aP)(hlv:iQ x.pd (.mk kl sl al)):
 et Tryz.prog gl 171 [bc es w,ba] [.cb 0 0,.d x.dec.d,.d (ae.mk k n s ls args).d,.d (.sl 5 (aH ctx)),.d (.v (.int .i64 m)),.d (aP.mk kl sl al).d,.d (.v (.int .i64 most))] (OV es x.sd x.ad (.mk k n s ls args) w):=by
 have hdl:=qt (.mk k n s ls args);have hsh:=hw.sh (B:=4398046511104) (by omega);have hhas:=j2 (gl:=gl) x.sd _ k n s ls args (Nat.le_refl _) (by omega);have hpi:=iK (gl:=gl) k n s ls args hsh (by omega);have hpz:=dT _ (.mk k n s ls args) (Nat.le_refl _);have hso:=iE (gl:=gl) hE hL hm hS k n s ls args ctx w hctx (by omega) hz hsh;have halw:=qz (gl:=gl) hL kl sl al hlv;have hcl:=aO ctx;obtain⟨lw,hlw,hlf,hlp⟩:=id hlv;generalize hA:eU (jN x.sd) (.mk k n s ls args) 0=A at hhas;refine bS Tryz.func171 Tryz.ntmps171 2 ?_;refine kc 8 [12,9,8,0,3,4,6] 5 ?_;refine oc (cv xY rfl rfl (hhas) (bo (an .nil)) ?_);refine ko 9 [29,12,9,8,0,3,4,6] 0 ?_;refine xo (ι:=Unit) (fun _=>[]) (fun _=>[bc es w,ba,uQ x,tO k n s ls args,lO kl sl al]) [12,9,8,0,3,6] (fun _=>Jz x.sd x.ad (.mk k n s ls args)) rfl ?A1 ?B1
 case A1=>
  refine cJ (fun h2=>?_) (fun h2=>?_)
  ·refine gc 1 ?_;refine bk () rfl ?_ [0,1,2,3,4] mz
   ·intro h;rw[hA] at h;subst h;simp at h2
  refine gc 3 ?_;refine oc (cv rF rfl rfl (hpi) (bo .nil) ?_);refine ko 11 [17,16,12,9,8,0,3,4,6] 6 ?_;refine lp (ι:=Nat×Int×Int×ByteArray×List aP×List ae) (fun⟨i,k1,m1,s1,l1,a1⟩=>[(18,int i)]) (fun⟨i,k1,m1,s1,l1,a1⟩=>[bc es w,ba,uQ x,tO k n s ls args,lO kl sl al,tO k1 m1 s1 l1 a1]) [17,16,12,9,8,0,3,4,6] (fun⟨i,k1,m1,s1,l1,a1⟩=>i≤bg (.mk k n s ls args)∧ae.mk k1 m1 s1 l1 a1=er i (.mk k n s ls args)) (fun⟨i,k1,m1,s1,l1,a1⟩=>bg (.mk k n s ls args)-i) ((0,k,n,s,ls,args)) ([0,1,2,3,4,5]) rfl ?I2 ?M2 ?H2
  case I2=>
   exact⟨Nat.zero_le _,rfl⟩
  case M2=>
   exact mz
  case H2=>
   rintro⟨i,k1,m1,s1,l1,a1⟩ hinv
   try dsimp only at hinv
   refine kc 0 [18,17,16,12,9,8,0,3,4,6] 8 ?_;refine cJ (fun h6=>?_) (fun h6=>?_)
   ·refine kc 6 [17,16,12,9,8,0,3,4,6] 0 ?_;obtain rfl:i=bg (.mk k n s ls args):=(by omega);have hes:=dH (bg (.mk k n s ls args)) (.mk k n s ls args);have hwe:=(hw.wN _ (Nat.le_refl _)).1;rw[← hinv.2] at hes hwe;have hre:=vj (gl:=gl) x k1 m1 s1 l1 a1 m (((aH ctx).length:Int)+(bg (.mk k n s ls args):Nat)) (hwe.spine _ (Nat.le_refl _)).1 (by omega) (by omega) hx (by omega) (by omega);refine gc 7 ?_;refine o1 (cG ?_);refine oc (T:=fun _=>False) (bJ MN rfl rfl rfl rfl (hre) (bo (bo (an (an .nil)))) (fun d hd=>?_));obtain⟨b,rfl,hb⟩:=hd;refine ko 3 [20,12,9,8,0,3,6] 6 ?_;refine cJ (fun h13=>?_) (fun h13=>?_)
    ·refine gc 1 ?_;refine bk () rfl ?_ [0,1,2,3,4] mz
     ·intro _;obtain⟨n',ls',ar,e1,e2⟩:=hb (by revert h13;cases b<;>simp);rw[hinv.2] at e1 e2;exact⟨n',ls',ar,e1,by omega⟩
    refine kc 0 [] 7 ?_;refine eo (.v (.int .i64 12)) [0,1] [bc es w,ba] ?_
    ·exact ⟨12,w,rfl,rfl,fun h=>h,fun h=>absurd h (by omega)⟩
   refine gc 5 ?_;obtain⟨m5,s5,l5,⟨kX,mX,sX,lX,aX⟩,⟨kY,mY,sY,lY,aY⟩,g1,g2,g3,g4⟩:=ig i _ (show i<bg (.mk k n s ls args) by omega);have hes:=dH (i+1) (.mk k n s ls args);rw[g3,dF] at hes;simp only[aj] at hes;rw[← hinv.2] at g1;cases g1;have hsX:(ae.mk kX mX sX lX aX).size≤1099511627776:=(by omega);have hhX:=j2 (gl:=gl) x.sd _ kX mX sX lX aX (Nat.le_refl _) hsX;generalize hB:eU (jN x.sd) (.mk kX mX sX lX aX) 0=B at hhX;refine gz [0,1] mixed ?_;refine A1 2 rfl (cu bB bH ⟨_,rfl,?_⟩ (he:=by exact(rfl)));refine ga [3,4,5] ?_;refine A2 6 rfl (cv xY rfl rfl (hhX) (bo (an .nil)) ?_);refine ga [7] ?_;refine aZ ?_;refine ke 2 [19,18,17,16,12,9,8,0,3,4,6] 5 ?_;refine cj (fun h9=>?_) (fun h9=>?_)
   ·refine kc 0 [] 13 ?_;refine eo (.v (.int .i64 12)) [0,1] [bc es w,ba] ?_
    ·exact ⟨12,w,rfl,rfl,fun h=>h,fun h=>absurd h (by omega)⟩
   refine gc 5 ?_;refine o1 (cu bB bH ?_ (he:=by exact(rfl)));refine ko 5 [18,17,16,12,9,8,0,3,4,6] 2 ?_;refine o1 (cG ?_);refine go 2 ?_;refine bk (i+1,kY,mY,sY,lY,aY) rfl ?_ [0,1,2,3,4,5] mz;exact⟨⟨by omega,g2.symm⟩,show _-(i+1)<_-i by omega⟩
 case B1=>
  rintro _ hcut
  try dsimp only at hcut
  refine kc 0 [12,9,8,0,3,6] 3 ?_;refine oc (T:=fun _=>False) (bJ KF rfl rfl rfl rfl (halw) (bo .nil) (fun d hd=>?_));obtain⟨b2,rfl⟩:=hd;refine go 9 ?_;refine cj (fun h16=>?_) (fun h16=>?_)
  ·refine kc 0 [] 7 ?_;refine eo (.v (.int .i64 0)) [0,1] [bc es w,ba] ?_
   ·exact ⟨0,w,rfl,rfl,fun h=>h,fun _=>hcut⟩
  refine kc 2 [12,9,8,0,3,6] 8 ?_;refine oc (aN xW rfl rfl rfl rfl (hso) [0,1] (bj (cr .nil)) rfl rfl rfl rfl (an (an (an (bo (an .nil))))) (fun s ob' hq=>?_) (fun s ob' hq=>?_));rotate_left
  ·obtain ⟨_,_,_,hq1,_⟩:=hq;cases hq1
  obtain⟨⟨kr,sr',ar'⟩,code,w1,hq1,rfl,hq2,hq3⟩:=hq;cases hq1;refine⟨_,_,_,_,_,rfl,rfl,rfl,rfl,rfl,?_⟩;refine ko 9 [23,22,12] 6 ?_;refine cj (fun h19=>?_) (fun h19=>?_)
  ·refine kc 0 [23] 8 ?_;refine eo (.v (.int .i64 code)) [0,1] [bc es w1,ba] ?_
   ·exact ⟨code,w1,rfl,rfl,hq2,fun h=>absurd h h19⟩
  refine gc 3 ?_;obtain rfl:code=0:=(by omega);obtain⟨rfl,hWt,lv,hv,hvf,hvp⟩:=hq3 rfl;have hleq:=kQ (gl:=gl) lv lw (tt hL hvp hlp);rw[← hv,←hlw] at hleq;refine gc 3 ?_;refine oc (T:=fun _=>False) (bJ Du rfl rfl rfl rfl (hleq) (bo (bo .nil)) (fun d hd=>?_));obtain⟨b3,rfl⟩:=hd;refine ko 4 [24] 6 ?_;refine cj (fun h22=>?_) (fun h22=>?_)
  ·refine gc 7 ?_;refine eo (.v (.int .i64 13)) [0,1] [bc es false,ba] ?_
   ·exact ⟨13,false,rfl,rfl,hq2,fun h=>absurd h (by omega)⟩
  refine gc 8 ?_;refine eo (.v (.int .i64 0)) [0,1] [bc es false,ba] ?_
  ·exact ⟨0,false,rfl,rfl,hq2,fun _=>hcut⟩
end
section
open Go Go.Vd Go.RowKit
attribute [local irreducible] bu bA di ak bL cU
variable {g gl:Nat→List D}
def OS(es:List cy)(ps:List ByteArray)(nm:ByteArray)(p:Nat)(t:ae)(w:Bool)(out:Out)(ob':List Ob):Prop:=
 ∃(code:Int) (w':Bool),out=.ret (.d (.v (.int .i64 code)))∧ob'=[bc es w',ba]∧(w'=false→w=false)∧(code=0→Wt (eh es) ps t 0∧p≤bg t∧Ca nm p t)
variable {es:List cy} {S:Nat}
theorem GA{ps:List ByteArray}{i:Nat}{t:ae}(hw:Wt (eh es) ps t 0)(hi:i≤bg t)(hz:t.size≤S):tV es ps S (gh i t):=by
 intro j y hy;have h1:=(hw.wN i hi).2 j y hy;have h2:=dH i t;have h3:=bG hy;exact⟨by simpa using h1,by omega⟩
set_option maxHeartbeats 1600000 in
theorem Il(hE:dg es)(x:RD)(hL:x.pd.length≤6)(p:Nat)(hx:x.ad=p){most:Nat}(hm:most≤1000000)(hS:S≤900000∧20000≤S)(m:Nat)(hw1:Wt (eh es) x.pd (.mk x.k1 x.n1 x.s1 x.l1 x.a1) 0)(hz1:(ae.mk x.k1 x.n1 x.s1 x.l1 x.a1).size≤S)(hpm:bg (.mk x.k1 x.n1 x.s1 x.l1 x.a1)=p+m)(nm:ByteArray)(k n:Int)(s:ByteArray)(ls:List aP)(args:List ae)(w:Bool)(hz:(ae.mk k n s ls args).size≤S)(hsh:iD 4398046511104 (.mk k n s ls args))(kl:Int)(sl:ByteArray)(al:List aP)(hlv:iQ x.pd (.mk kl sl al)):
 et Tryz.prog gl 165 [bc es w,ba] [.cb 0 0,.d x.dec.d,.d (.agg (.v (.string nm)::(ae.mk k n s ls args).cells)),.d (.v (.int .i64 m)),.d (aP.mk kl sl al).d,.d (.v (.int .i64 most))] (OS es x.pd x.sd p (.mk k n s ls args) w):=by
 have hdl:=qt (.mk k n s ls args);have hpi:=iK (gl:=gl) k n s ls args hsh (by omega);have hpz:=dT _ (.mk k n s ls args) (Nat.le_refl _);have hpz1:=dT _ (.mk x.k1 x.n1 x.s1 x.l1 x.a1) (Nat.le_refl _);have hso:=iE (gl:=gl) hE hL hm (by omega) k n s ls args [] w (fun i y hy=>by simp at hy) (by simp only[List.length_nil];omega) hz hsh;refine bS Tryz.func165 Tryz.ntmps165 2 ?_;refine kc 8 [10,8,7,0,3,5] 8 ?_;refine oc (aN xW rfl rfl rfl rfl (hso) [0,1] (bj (cr .nil)) rfl rfl rfl rfl (an (an (LO (bo (an .nil))))) (fun s ob' hq=>?_) (fun s ob' hq=>?_));rotate_left
 ·obtain ⟨_,_,_,hq1,_⟩:=hq;cases hq1
 obtain⟨⟨kr,sr',ar'⟩,code,w1,hq1,rfl,hq2,hq3⟩:=hq;cases hq1;refine⟨_,_,_,_,_,rfl,rfl,rfl,rfl,rfl,?_⟩;refine ko 9 [14,10,8,7,0,3,5] 6 ?_;refine cj (fun h2=>?_) (fun h2=>?_)
 ·refine kc 0 [14] 8 ?_;refine eo (.v (.int .i64 code)) [0,1] [bc es w1,ba] ?_
  ·exact ⟨code,w1,rfl,rfl,hq2,fun h=>absurd h h2⟩
 refine gc 3 ?_;obtain rfl:code=0:=(by omega);obtain⟨rfl,hWt,hlr⟩:=hq3 rfl;have hWt0:Wt (eh es) x.pd (.mk k n s ls args) 0:=hWt;obtain rfl:w=false:=hq2 rfl;refine gc 3 ?_;refine oc (cv rF rfl rfl (hpi) (bo .nil) ?_);refine ko 4 [15,10,8,7,0,3,5] 8 ?_;refine cj (fun h5=>?_) (fun h5=>?_)
 ·refine kc 0 [] 7 ?_;refine eo (.v (.int .i64 11)) [0,1] [bc es false,ba] ?_
  ·exact ⟨11,false,rfl,rfl,fun h=>h,fun h=>absurd h (by omega)⟩
 refine kc 19 [17,16,15,10,8,7,0,3,5] 6 ?_;refine lp (ι:=Nat×Int×Int×ByteArray×List aP×List ae×Int×Int×ByteArray×List aP×List ae) (fun⟨i,k1,m1,s1,l1,a1,k2,m2,s2,l2,a2⟩=>[(18,int i)]) (fun⟨i,k1,m1,s1,l1,a1,k2,m2,s2,l2,a2⟩=>[bc es false,ba,uQ x,K6 nm k n s ls args,lO kl sl al,lO kr sr' ar',tO k1 m1 s1 l1 a1,tO k2 m2 s2 l2 a2]) [17,16,15,10,8,7,0,3,5] (fun⟨i,k1,m1,s1,l1,a1,k2,m2,s2,l2,a2⟩=>i≤p∧ae.mk k1 m1 s1 l1 a1=er i (.mk k n s ls args)∧ae.mk k2 m2 s2 l2 a2=er i (.mk x.k1 x.n1 x.s1 x.l1 x.a1)) (fun⟨i,k1,m1,s1,l1,a1,k2,m2,s2,l2,a2⟩=>p-i) ((0,k,n,s,ls,args,x.k1,x.n1,x.s1,x.l1,x.a1)) ([0,1,2,3,4,5,6,7]) rfl ?I1 ?M1 ?H1
 case I1=>
  exact⟨Nat.zero_le _,rfl,rfl⟩
 case M1=>
  exact mz
 case H1=>
  rintro⟨i,k1,m1,s1,l1,a1,k2,m2,s2,l2,a2⟩ hinv
  try dsimp only at hinv
  refine kc 0 [18,17,16,15,10,8,7,0,3,5] 9 ?_;refine cj (fun h10=>?_) (fun h10=>?_)
  ·refine kc 5 [18,17,16,15,10,8,7,0,3,5] 0 ?_;obtain⟨m5,s5,l5,⟨kX,mX,sX,lX,aX⟩,⟨kY,mY,sY,lY,aY⟩,g1,g2,g3,g4⟩:=ig i _ (show i<bg (.mk k n s ls args) by omega);obtain⟨m6,s6,l6,⟨kV,mV,sV,lV,aV⟩,⟨kW,mW,sW,lW,aW⟩,f1,f2,f3,f4⟩:=ig i _ (show i<bg (.mk x.k1 x.n1 x.s1 x.l1 x.a1) by omega);have hes:=dH (i+1) (.mk k n s ls args);have hfs:=dH (i+1) (.mk x.k1 x.n1 x.s1 x.l1 x.a1);rw[g3,dF] at hes;rw[f3,dF] at hfs;have hxi:(gh (i+1) (.mk k n s ls args))[i]? =some (.mk kX mX sX lX aX):=(by rw[g3,List.getElem?_append_right (by rw[dV _ _ (by omega)];exact Nat.le_refl _),dV _ _ (by omega),Nat.sub_self];rfl);have hyi:(gh (i+1) (.mk x.k1 x.n1 x.s1 x.l1 x.a1))[i]? =some (.mk kV mV sV lV aV):=(by rw[f3,List.getElem?_append_right (by rw[dV _ _ (by omega)];exact Nat.le_refl _),dV _ _ (by omega),Nat.sub_self];rfl);have hwX:=(hWt0.wN (i+1) (by omega)).2 i _ hxi;have hwV:=(hw1.wN (i+1) (by omega)).2 i _ hyi;rw[Int.zero_add] at hwX hwV;simp only[aj] at hes hfs;rw[← hinv.2.1] at g1;rw[← hinv.2.2] at f1;cases g1;cases f1;have heq:=tv (gl:=gl) hE hL (c:=(i:Int)) (by omega) (S:=S) (n:=0) (n2:=0) hm false kX mX sX lX aX kV mV sV lV aV (by omega) (by omega) (.base hwX (by omega)) (.base hwV (by omega));refine gz [0,1,2] mixed ?_;refine A1 3 rfl (cu bB bH ⟨_,rfl,?_⟩ (he:=by exact(rfl)));refine ga [4,5,6] ?_;refine A1 7 rfl (cu bB bH ⟨_,rfl,?_⟩ (he:=by exact(rfl)));refine ga [8,9] ?_;refine A2 10 rfl (aN PW rfl rfl rfl rfl (heq) [0,1] (bj (cr .nil)) rfl rfl rfl rfl (an (bo (bo (an .nil)))) (fun s ob' hq=>?_) (fun s ob' hq=>?_));rotate_left
   ·obtain ⟨_,_,_,hq1,_⟩:=hq;cases hq1
   obtain⟨r,code,w1,hq1,rfl,h1',h2',h3'⟩:=hq;cases hq1;refine⟨_,_,_,_,_,rfl,rfl,rfl,rfl,rfl,?_⟩;refine ga [11,12,13,14,15] ?_;refine aZ ?_;refine ke 2 [20,19,18,17,16,15,10,8,7,0,3,5] 6 ?_;refine cj (fun h13=>?_) (fun h13=>?_)
   ·refine kc 0 [20] 13 ?_;refine eo (.v (.int .i64 code)) [0,1] [bc es w1,ba] ?_
    ·exact ⟨code,w1,rfl,rfl,h3',fun h=>absurd h h13⟩
   refine gc 4 ?_;obtain rfl:code=0:=(by omega);obtain rfl:w1=false:=h2' rfl;refine gc 5 ?_;refine cj (fun h15=>?_) (fun h15=>?_)
   ·refine kc 0 [] 12 ?_;refine eo (.v (.int .i64 11)) [0,1] [bc es false,ba] ?_
    ·exact ⟨11,false,rfl,rfl,fun h=>h,fun h=>absurd h (by omega)⟩
   refine kc 2 [18,17,16,15,10,8,7,0,3,5] 4 ?_;refine o1 (cu bB bH ?_ (he:=by exact(rfl)));refine ko 4 [18,17,16,15,10,8,7,0,3,5] 3 ?_;refine o1 (cu bB bH ?_ (he:=by exact(rfl)));refine ko 5 [18,17,16,15,10,8,7,0,3,5] 2 ?_;refine o1 (cG ?_);refine go 2 ?_;refine bk (i+1,kY,mY,sY,lY,aY,kW,mW,sW,lW,aW) rfl ?_ [0,1,2,3,4,5,6,7] mz;exact⟨⟨by omega,g2.symm,f2.symm⟩,show _-(i+1)<_-i by omega⟩
  refine kc 6 [16,15,10,8,7,0,3,5] 0 ?_;have hen:=tL (gl:=gl) (bg (.mk k n s ls args)) k n s ls args hsh (Nat.le_refl _) (by omega);have hese:=dH (bg (.mk k n s ls args)) (.mk k n s ls args);have hwe:=(hWt0.wN _ (Nat.le_refl _)).1;obtain⟨kE,mE,sE,lE,aE,hEe⟩:=ae.case (er (bg (.mk k n s ls args)) (.mk k n s ls args))
  rw[hEe] at hen hese hwe;have hre:=vj (gl:=gl) x kE mE sE lE aE m ((bg (.mk k n s ls args):Nat)) (hwe.spine _ (Nat.le_refl _)).1 (by omega) (by omega) (by omega) (by omega) (by omega);refine gz [0,1,2,4,5,6] mixed ?_;refine A2 3 rfl (cv Dt rfl rfl (hen) (bo (an .nil)) ?_);refine A2 (T:=fun _=>False) 7 rfl (bJ MN rfl rfl rfl rfl (hre) (an (bo (an (an .nil)))) (fun d hd=>?_));obtain⟨b,rfl,hb⟩:=hd;refine ga [8] ?_;refine aZ ?_;refine ke 2 [21,16,15,10,8,7,0,3,5] 6 ?_;refine cj (fun h20=>?_) (fun h20=>?_)
  ·refine kc 0 [] 7 ?_;refine eo (.v (.int .i64 11)) [0,1] [bc es false,ba] ?_
   ·exact ⟨11,false,rfl,rfl,fun h=>h,fun h=>absurd h (by omega)⟩
  refine kc 15 [22,16,15,10,7,0,3,5] 6 ?_;refine lp (ι:=Nat×Bool×Int×Int×ByteArray×List aP×List ae) (fun⟨i,w2,k3,m3,s3,l3,a3⟩=>[(23,int i),(22,.d (.sl 5 (aH (gh i (.mk k n s ls args)))))]) (fun⟨i,w2,k3,m3,s3,l3,a3⟩=>[bc es w2,ba,uQ x,K6 nm k n s ls args,lO kl sl al,lO kr sr' ar',tO k3 m3 s3 l3 a3,tO k2 m2 s2 l2 a2]) [16,15,10,7,0,3,5] (fun⟨i,w2,k3,m3,s3,l3,a3⟩=>i≤bg (.mk k n s ls args)∧ae.mk k3 m3 s3 l3 a3=er i (.mk k n s ls args)∧∀(j:Nat) a,(p:Int)≤j→(gh i (.mk k n s ls args))[j]? =some a→Jz x.sd p a) (fun⟨i,w2,k3,m3,s3,l3,a3⟩=>bg (.mk k n s ls args)-i) ((0,false,k,n,s,ls,args)) ([0,1,2,3,4,5,6,7]) rfl ?I2 ?M2 ?H2
  case I2=>
   exact⟨Nat.zero_le _,rfl,fun j a h1 h2=>by simp[gh] at h2⟩
  case M2=>
   refine mo ?_ (aJ (ef rfl (by exact Fit.LB) (aJ (aJ (aJ (aJ (aJ (aJ (aJ dC)))))))))
   repeat (first|exact cH|refine bj ?_|refine cr ?_)
  case H2=>
   rintro⟨i,w2,k3,m3,s3,l3,a3⟩ hinv
   try dsimp only at hinv
   refine kc 0 [23,22,16,15,10,7,0,3,5] 8 ?_;refine cJ (fun h25=>?_) (fun h25=>?_)
   ·refine kc 5 [] 6 ?_;refine eo (.v (.int .i64 0)) [0,1] [bc es w2,ba] ?_
    ·obtain rfl:i=bg (.mk k n s ls args):=(by omega);exact⟨0,w2,rfl,rfl,fun h=>rfl,fun _=>⟨hWt0,by omega,hinv.2.2⟩⟩
   refine gc 5 ?_;obtain⟨m5,s5,l5,⟨kX,mX,sX,lX,aX⟩,⟨kY,mY,sY,lY,aY⟩,g1,g2,g3,g4⟩:=ig i _ (show i<bg (.mk k n s ls args) by omega);have hes:=dH (i+1) (.mk k n s ls args);rw[g3,dF] at hes;have hxi:(gh (i+1) (.mk k n s ls args))[i]? =some (.mk kX mX sX lX aX):=(by rw[g3,List.getElem?_append_right (by rw[dV _ _ (by omega)];exact Nat.le_refl _),dV _ _ (by omega),Nat.sub_self];rfl);have hwX:=(hWt0.wN (i+1) (by omega)).2 i _ hxi;rw[Int.zero_add] at hwX;simp only[aj] at hes;have hxl:=dV i (.mk k n s ls args) hinv.1;have hxz:=br (gh i (.mk k n s ls args));rw[← hinv.2.1] at g1;cases g1;have har:=yQ (gl:=gl) hE x hL (by omega) hm (S:=S) (by omega) kX mX sX lX aX (gh i (.mk k n s ls args)) w2 (GA hWt0 hinv.1 hz) (by omega) (by omega) (by rw[hxl];exact hwX) m (by omega) kl sl al hlv;have hexx:=jB (gl:=gl) (gh i (.mk k n s ls args)) kX mX sX lX aX (by omega);refine gc 3 ?_;refine o1 (cu bB bH ?_ (he:=by exact(rfl)));refine ko 14 [106,24,23,22,16,15,10,7,0,3,5] 0 ?_;refine xo (ι:=Bool) (fun w3=>[]) (fun w3=>[bc es w3,ba,uQ x,K6 nm k n s ls args,lO kl sl al,lO kr sr' ar',tO 5 m3 s3 l3 [.mk kX mX sX lX aX,.mk kY mY sY lY aY],tO k2 m2 s2 l2 a2,tO kX mX sX lX aX]) [24,23,22,16,15,10,7,0,3,5] (fun w3=>p≤i→Jz x.sd p (.mk kX mX sX lX aX)) rfl ?A3 ?B3
   case A3=>
    refine cJ (fun h28=>?_) (fun h28=>?_)
    ·refine gc 1 ?_;refine bk (w2) rfl ?_ [0,1,2,3,4,5,6,7,8] mz;exact fun h=>by omega
    refine gc 9 ?_;refine oc (aN P3 rfl rfl rfl rfl (har) [0,1] (bj (cr .nil)) rfl rfl rfl rfl (an (bo (bo (an (an (bo (an .nil))))))) (fun s ob' hq=>?_) (fun s ob' hq=>?_));rotate_left
    ·obtain ⟨_,_,hq1,_⟩:=hq;cases hq1
    obtain⟨code,w4,hq1,rfl,hq2,hq3⟩:=hq;cases hq1;refine⟨_,_,_,_,_,rfl,rfl,rfl,rfl,rfl,?_⟩;refine ko 3 [14,24,23,22,16,15,10,7,0,3,5] 6 ?_;refine cJ (fun h30=>?_) (fun h30=>?_)
    ·refine gc 1 ?_;refine bk (w4) rfl ?_ [0,1,2,3,4,5,6,7,8] mz;exact fun _=>by rw[hx] at hq3;exact hq3 (by omega)
    refine kc 0 [14] 13 ?_;refine eo (.v (.int .i64 code)) [0,1] [bc es w4,ba] ?_
    ·exact ⟨code,w4,rfl,rfl,fun h=>rfl,fun h=>absurd h h30⟩
   case B3=>
    rintro w3 hcut
    try dsimp only at hcut
    refine kc 0 [24,23,22,16,15,10,7,0,3,5] 1 ?_;have hpos3:=hcut;refine gc 3 ?_;refine oc (cv Iv rfl rfl (hexx) (an (bo .nil)) ?_);refine ko 3 [22,23,16,15,10,7,0,3,5] 3 ?_;refine o1 (cu bB bH ?_ (he:=by exact(rfl)));refine ko 5 [22,23,16,15,10,7,0,3,5] 2 ?_;refine o1 (cG ?_);refine go 2 ?_;refine bk ((i+1,w3,kY,mY,sY,lY,aY)) rfl ?_ ([0,1,2,3,4,5,6,7]) ?_
    ·refine ⟨⟨by omega,g2.symm,fun j a h1 h2=>?_⟩,show _-(i+1)<_-i by omega⟩;rw[g3] at h2;rcases Nat.lt_or_ge j i with hj|hj
     ·rw [List.getElem?_append_left (by rw[dV _ _ (by omega)];exact hj)] at h2;exact hinv.2.2 j a h1 h2
     ·rw [List.getElem?_append_right (by rw[dV _ _ (by omega)];exact hj)] at h2;have h3:=(List.getElem?_eq_some_iff.1 h2).1;rw[dV _ _ (by omega)] at h3;simp only[List.length_cons,List.length_nil] at h3;obtain rfl:j=i:=by omega
      rw[dV _ _ (by omega),Nat.sub_self] at h2;cases h2;exact hpos3 (by omega)
    ·refine mo ?_ (aJ (ef rfl (by exact Fit.of_eq (by rw[g3];rfl)) (aJ (aJ (aJ (aJ (aJ (aJ (aJ dC)))))))))
     repeat (first|exact cH|refine bj ?_|refine cr ?_)
end
section
open Go Go.Vd Go.RowKit
attribute [local irreducible] bu bA di ak bL cU
variable {g gl:Nat→List D}
def ON(es:List cy)(w:Bool)(out:Out)(ob':List Ob):Prop:=
 ∃(b:Bool) (code:Int) (w':Bool),out=.ret (.d (.bZ [.v (.bool b),.v (.int .i64 code)]))∧ob'=[bc es w',ba]∧(w'=false→w=false)
set_option maxHeartbeats 1600000 in
theorem EB{es:List cy}(hE:dg es)(x:RD)(hL:x.pd.length≤6)(p:Nat)(hx:x.ad=p)(hp6:p≤1000000){most S:Nat}(hm:most≤1000000)(hS:S≤900000∧20000≤S)(hcs:∀c∈x.cd,Wt (eh es) x.pd c.2 0∧c.2.size≤S)(w:Bool)(kl:Int)(sl:ByteArray)(al:List aP)(hlv:iQ x.pd (.mk kl sl al)):
 et Tryz.prog gl 166 [bc es w,ba] [.cb 0 0,.d x.dec.d,.d (aP.mk kl sl al).d,.d (.v (.int .i64 most))] (ON es w):=by
 have hnv:=xe (gl:=gl) hL kl sl al hlv;have hcl:=iU x.cd;refine bS Tryz.func166 Tryz.ntmps166 2 ?_;refine kc 8 [6,5,0,3] 3 ?_;refine oc (T:=fun _=>False) (bJ MQ rfl rfl rfl rfl (hnv) (bo .nil) (fun d hd=>?_));obtain⟨b,rfl⟩:=hd;refine go 8 ?_;refine' oo (yt:=29) (d:=25) 4 ?a1 ?b1 ?_
 case a1=>
  intro hc hK;refine go 4 ?_;exact hK [_,_,_,_] rfl rfl
 case b1=>
  intro _ hK;refine go 4 ?_;exact hK [_,_,_,_] rfl
 refine go 2 ?_;refine cj (fun h2=>?_) (fun h2=>?_)
 ·refine kc 0 [] 8 ?_;refine eo (.bZ [.v (.bool true),.v (.int .i64 0)]) [0,1] [bc es w,ba] ?_
  ·exact ⟨true,0,w,rfl,rfl,fun h=>h⟩
 refine kc 3 [5,0,3] 8 ?_;refine cj (fun h4=>?_) (fun h4=>?_)
 ·refine kc 0 [] 8 ?_;refine eo (.bZ [.v (.bool false),.v (.int .i64 0)]) [0,1] [bc es w,ba] ?_
  ·exact ⟨false,0,w,rfl,rfl,fun h=>h⟩
 refine kc 3 [5,0,3] 0 ?_;have hone:0<x.cd.length:=(by first|omega|(obtain⟨_,h9⟩:=h2;omega));obtain⟨cN,k,n,s,ls,args,hget⟩:=rb hone;obtain⟨hWt0,hz⟩:=hcs _ (List.mem_of_getElem? hget);simp only at hWt0 hz;have hdl:=qt (.mk k n s ls args);have hsh:=hWt0.sh (B:=4398046511104) (by omega);have hpi:=iK (gl:=gl) k n s ls args hsh (by omega);have hpz:=dT _ (.mk k n s ls args) (Nat.le_refl _);have hen:=tL (gl:=gl) (bg (.mk k n s ls args)) k n s ls args hsh (Nat.le_refl _) (by omega);have hese:=dH (bg (.mk k n s ls args)) (.mk k n s ls args);have hwe:=(hWt0.wN _ (Nat.le_refl _)).1;obtain⟨kE,mE,sE,lE,aE,hEe⟩:=ae.case (er (bg (.mk k n s ls args)) (.mk k n s ls args))
 rw[hEe] at hen hese hwe;have hsp:=eY (gl:=gl) kE mE sE lE aE (hwe.spine _ (Nat.le_refl _)).1 (by omega);have hsl:=dQ _ (.mk kE mE sE lE aE) (Nat.le_refl _);rcases hSp:bf (.mk kE mE sE lE aE) with⟨⟨kh,mh,sh,lh,ah⟩,az⟩;rw[hSp] at hsp hsl;simp only at hsl;have hsl2:=br az;have hasl:=aO az;refine gc 3 ?_;refine o1 (cu yj Ap ?_ (he:=by exact(pk (i:=0) hget)));refine ko 6 [11,5,0,3] 3 ?_;refine oc (cv rF rfl rfl (hpi) (bo .nil) ?_);refine go 7 ?_;refine oc (cv Dt rfl rfl (hen) (bo (an .nil)) ?_);refine oc (cv yM rfl rfl (hsp) (an .nil) ?_);refine ko 8 [14,12,11,5,0,3] 12 ?_;refine lp (ι:=Nat×Bool×Int×Int×ByteArray×List aP×List ae) (fun⟨i,w2,k3,m3,s3,l3,a3⟩=>[(16,int i),(15,.d (.sl 5 (aH (gh i (.mk k n s ls args)))))]) (fun⟨i,w2,k3,m3,s3,l3,a3⟩=>[bc es w2,ba,uQ x,lO kl sl al,tO k3 m3 s3 l3 a3,tO kh mh sh lh ah]) [14,12,11,5,0,3] (fun⟨i,w2,k3,m3,s3,l3,a3⟩=>i≤bg (.mk k n s ls args)∧ae.mk k3 m3 s3 l3 a3=er i (.mk k n s ls args)∧(w2=false→w=false)) (fun⟨i,w2,k3,m3,s3,l3,a3⟩=>bg (.mk k n s ls args)-i) ((0,w,k,n,s,ls,args)) ([0,1,2,3,4,5]) rfl ?I4 ?M4 ?H4
 case I4=>
  exact⟨Nat.zero_le _,rfl,fun h=>h⟩
 case M4=>
  refine mo ?_ (aJ (ef rfl (by exact Fit.LB) (aJ (aJ (aJ (aJ (aJ (aJ dC))))))))
  repeat (first|exact cH|refine bj ?_|refine cr ?_)
 case H4=>
  rintro⟨i,w2,k3,m3,s3,l3,a3⟩ hinv
  try dsimp only at hinv
  refine kc 0 [16,15,14,12,11,5,0,3] 8 ?_;refine cJ (fun h11=>?_) (fun h11=>?_)
  ·refine kc 5 [] 7 ?_;refine eo (.bZ [.v (.bool true),.v (.int .i64 0)]) [0,1] [bc es w2,ba] ?_
   ·exact ⟨true,0,w2,rfl,rfl,hinv.2.2⟩
  refine gc 5 ?_;obtain⟨m5,s5,l5,⟨kX,mX,sX,lX,aX⟩,⟨kY,mY,sY,lY,aY⟩,g1,g2,g3,g4⟩:=ig i _ (show i<bg (.mk k n s ls args) by omega);have hes:=dH (i+1) (.mk k n s ls args);rw[g3,dF] at hes;have hxi:(gh (i+1) (.mk k n s ls args))[i]? =some (.mk kX mX sX lX aX):=(by rw[g3,List.getElem?_append_right (by rw[dV _ _ (by omega)];exact Nat.le_refl _),dV _ _ (by omega),Nat.sub_self];rfl);have hwX:=(hWt0.wN (i+1) (by omega)).2 i _ hxi;rw[Int.zero_add] at hwX;simp only[aj] at hes;have hxl:=dV i (.mk k n s ls args) hinv.1;have hxz:=br (gh i (.mk k n s ls args));have hdX:=qt (.mk kX mX sX lX aX);rw[← hinv.2.1] at g1;cases g1;have hso:=iE (gl:=gl) hE hL hm (S:=S) (by omega) kX mX sX lX aX (gh i (.mk k n s ls args)) w2 (GA hWt0 hinv.1 hz) (by omega) (by omega) (hwX.sh (by omega));have hexx:=jB (gl:=gl) (gh i (.mk k n s ls args)) kX mX sX lX aX (by omega);have hw2:=hinv.2.2;have hi0:=hinv.1;refine gc 3 ?_;refine o1 (cu bB bH ?_ (he:=by exact(rfl)));refine ko 14 [61,17,16,15,14,12,11,5,0,3] 0 ?_;refine xo (ι:=Bool) (fun w3=>[]) (fun w3=>[bc es w3,ba,uQ x,lO kl sl al,tO 5 m3 s3 l3 [.mk kX mX sX lX aX,.mk kY mY sY lY aY],tO kh mh sh lh ah,tO kX mX sX lX aX]) [17,16,15,14,12,11,5,0,3] (fun w3=>w3=false→w=false) rfl ?A5 ?B5
  case A5=>
   refine cJ (fun h14=>?_) (fun h14=>?_)
   ·refine gc 1 ?_;refine bk (w2) rfl ?_ [0,1,2,3,4,5,6] mz;exact hw2
   refine gc 8 ?_;refine oc (aN xW rfl rfl rfl rfl (hso) [0,1] (bj (cr .nil)) rfl rfl rfl rfl (an (an (an (bo (an .nil))))) (fun s ob' hq=>?_) (fun s ob' hq=>?_));rotate_left
   ·obtain ⟨_,_,_,hq1,_⟩:=hq;cases hq1
   obtain⟨⟨kr,sr',ar'⟩,code,w4,hq1,rfl,hq2,hq3⟩:=hq;cases hq1;refine⟨_,_,_,_,_,rfl,rfl,rfl,rfl,rfl,?_⟩;refine ko 9 [19,18,17,16,15,14,12,11,5,0,3] 6 ?_;refine cj (fun h16=>?_) (fun h16=>?_)
   ·refine kc 0 [19] 15 ?_;refine eo (.bZ [.v (.bool false),.v (.int .i64 code)]) [0,1] [bc es w4,ba] ?_
    ·exact ⟨false,code,w4,rfl,rfl,fun h=>hw2 (hq2 h)⟩
   refine gc 3 ?_;obtain rfl:code=0:=(by omega);obtain⟨rfl,hWt,hlr⟩:=hq3 rfl;have halw:=qz (gl:=gl) hL kr sr' ar' hlr;refine gc 2 ?_;refine oc (T:=fun _=>False) (bJ KF rfl rfl rfl rfl (halw) (bo .nil) (fun d hd=>?_));obtain⟨b2,rfl⟩:=hd;refine ko 12 [21,20,17,16,15,14,12,11,5,0,3] 0 ?_;refine lP (ι:=Nat×Bool) (fun⟨j,fi⟩=>[(21,int j),(20,.d (.v (.bool fi)))]) [17,16,15,14,12,11,5,0,3] (fun⟨j,fi⟩=>True) (fun⟨j,fi⟩=>az.length-j) ((p,b2)) rfl ?I6 ?M6 ?H6
   case I6=>
    trivial
   case M6=>
    refine mo ?_ (ef rfl (by exact Fit.of_eq (by rw[hx];rfl)) (aJ (aJ (aJ (aJ (aJ (aJ (aJ (aJ (aJ (aJ dC)))))))))))
    repeat (first|exact cH|refine bj ?_|refine cr ?_)
   case H6=>
    rintro⟨j,fi⟩ hinv
    try dsimp only at hinv
    refine kc 0 [21,20,17,16,15,14,12,11,5,0,3] 9 ?_;refine cJ (fun h20=>?_) (fun h20=>?_)
    ·refine kc 5 [20,17,16,15,14,12,11,5,0,3] 6 ?_;refine cJ (fun h23=>?_) (fun h23=>?_)
     ·refine gc 1 ?_;refine bk (false) rfl ?_ [0,1,2,3,4,5,6] mz;exact fun h=>hw2 (hq2 h)
     refine kc 0 [] 13 ?_;refine eo (.bZ [.v (.bool false),.v (.int .i64 0)]) [0,1] [bc es false,ba] ?_
     ·exact ⟨false,0,false,rfl,rfl,fun h=>hw2 (hq2 h)⟩
    refine kc 4 [21,20,17,16,15,14,12,11,5,0,3] 0 ?_;obtain⟨k9,m9,s9,l9,a9,hget9⟩:=bK (show j<az.length by omega);refine gc 3 ?_;refine' oo (yt:=104) (d:=86) 18 ?a2 ?b2 ?_
    case a2=>
     intro hc hK;refine go 2 ?_;refine gy ?_;refine o1 (cu bB bH ?_ (he:=by exact(bW hget9)));refine go 4 ?_;refine' oa (yt:=103) (d:=93) 10 ?a3 ?b3 ?_ (hg:=.yes rfl rfl rfl rfl)
     case a3=>
      intro hc hK;refine go 2 ?_;refine gy ?_;refine o1 (cu bB bH ?_ (he:=by exact(bW hget9)));refine go 3 ?_;refine gy ?_;refine o1 (iC ?_);refine go 1 ?_;refine gy ?_;refine o1 (iC ?_);refine go 1 ?_;exact hK [_,_,_,_,_,_,_,_,_,_] rfl rfl
     case b3=>
      intro _ hK;refine go 10 ?_;exact hK [_,_,_,_,_,_,_,_,_,_] rfl
     exact hK [_,_,_,_,_,_,_,_] rfl rfl
    case b2=>
     intro _ hK;refine go 18 ?_;exact hK [_,_,_,_,_,_,_,_,_,_,_,_,_,_,_,_,_,_] rfl
    refine go 6 ?_;refine o1 (cG ?_);refine go 2 ?_;refine bi (j+1,(fi||(decide (k9=0)&&decide (m9=(bg (.mk k n s ls args):Int)-1-i)))) rfl ?_ mz;exact⟨trivial,show _-(j+1)<_-j by omega⟩
  case B5=>
   rintro w3 hcut
   try dsimp only at hcut
   refine kc 0 [17,16,15,14,12,11,5,0,3] 4 ?_;refine oc (cv Iv rfl rfl (hexx) (an (bo .nil)) ?_);refine ko 3 [15,16,14,12,11,5,0,3] 3 ?_;refine o1 (cu bB bH ?_ (he:=by exact(rfl)));refine ko 5 [15,16,14,12,11,5,0,3] 2 ?_;refine o1 (cG ?_);refine go 2 ?_;refine bk ((i+1,w3,kY,mY,sY,lY,aY)) rfl ?_ ([0,1,2,3,4,5]) ?_
   ·exact ⟨⟨by omega,g2.symm,hcut⟩,show _-(i+1)<_-i by omega⟩
   ·refine mo ?_ (aJ (ef rfl (by exact Fit.of_eq (by rw[g3];rfl)) (aJ (aJ (aJ (aJ (aJ (aJ dC))))))))
    repeat (first|exact cH|refine bj ?_|refine cr ?_)
end
section
open Go Go.Vd Go.RowKit
attribute [local irreducible] bu bA di ak bL cU
variable {g gl:Nat→List D}
def rm(n:Nat):ByteArray:=if h:n<10 then⟨#[UInt8.ofNat (48+n%10)]⟩ else rm (n/10)++⟨#[UInt8.ofNat (48+n%10)]⟩
variable {n:Nat}
theorem tM(h:n<10):rm n=⟨#[UInt8.ofNat (48+n%10)]⟩:=by rw[rm,dif_pos h]
theorem ra(h:¬n<10):rm n=rm (n/10)++⟨#[UInt8.ofNat (48+n%10)]⟩:=by rw[rm,dif_neg h]
theorem zW(n:Nat):(rm n).size≤n+1:=by
 induction n using Nat.strongRecOn with
 |_ n ih=>
  by_cases h:n<10
  ·rw [tM h];show 1≤_;omega
  ·rw [ra h,ByteArray.size_append];have:=ih (n/10) (by omega);have h1:(ByteArray.mk #[UInt8.ofNat (48+n%10)]).size=1:=rfl;omega
end
section
open Go Go.Vd Go.RowKit
def Kv(l:List UInt8):Nat:=l.foldl (fun a b=>10*a+(b.toNat-48)) 0
theorem Ii(l:List UInt8)(b:UInt8):Kv (l++[b])=10*Kv l+(b.toNat-48):=by simp[Kv]
theorem Di(n:Nat):(UInt8.ofNat (48+n%10)).toNat-48=n%10:=by
 have:(UInt8.ofNat (48+n%10)).toNat=(48+n%10)%256:=rfl;rw[this];omega
theorem zX(n:Nat):Kv (rm n).data.toList=n:=by
 induction n using Nat.strongRecOn with
 |_ n ih=>
  by_cases h:n<10
  ·rw [tM h];show 10*0+((UInt8.ofNat (48+n%10)).toNat-48)=n;rw[Di];omega
  ·rw [ra h,ByteArray.data_append,Array.toList_append];show Kv (_++[UInt8.ofNat (48+n%10)])=n;rw[Ii,ih _ (by omega),Di];omega
variable {m n:Nat}
theorem Kt(h:rm m=rm n):m=n:=by rw[← zX m,h,zX]
theorem py{a b c:ByteArray}(h:a++b=a++c):b=c:=by
 have h1:=congrArg (fun x:ByteArray=>x.data.toList) h;simp only[ByteArray.data_append,Array.toList_append] at h1;have h2:=List.append_cancel_left h1;exact ByteArray.ext (Array.toList_inj.1 h2)
def rN:Nat→ByteArray
 |0=>⟨#[114]⟩
 |n+1=>⟨#[114]⟩++rm (n+1)
theorem Dj(n:Nat):rm n≠ .empty:=by
 intro h;by_cases h9:n<10
 ·rw [tM h9] at h;have:=congrArg ByteArray.size h;exact absurd (show(1:Nat)=0 from this) (by decide)
 ·rw [ra h9] at h;have:=congrArg ByteArray.size h;rw[ByteArray.size_append] at this;have h1:(ByteArray.mk #[UInt8.ofNat (48+n%10)]).size=1:=rfl;have h2:ByteArray.empty.size=0:=rfl;omega
theorem NB(h:rN m=rN n):m=n:=by
 match m,n with
 |0,0=>rfl
 |0,n+1=>
  have:(⟨#[114]⟩:ByteArray)++ .empty=⟨#[114]⟩++rm (n+1):=h;exact absurd (py this).symm (Dj _)
 |m+1,0=>
  have:(⟨#[114]⟩:ByteArray)++rm (m+1)=⟨#[114]⟩++ .empty:=h;exact absurd (py this) (Dj _)
 |m+1,n+1=>exact Kt (py h)
theorem Pq(n:Nat):rN n≠ .empty:=by
 intro h;have h0:ByteArray.empty.size=0:=rfl;have h1:(ByteArray.mk #[114]).size=1:=rfl;have:=congrArg ByteArray.size h
 match n with
 |0=>exact absurd (show(1:Nat)=0 from this) (by decide)
 |n+1=>
  change ((⟨#[114]⟩:ByteArray)++rm (n+1)).size=0 at this
  rw[ByteArray.size_append] at this;omega
theorem Js{l:List ByteArray}{k:Nat}(h:∀j,j<k→rN j∈l):k≤l.length:=by
 have h1:((List.range k).map rN).Nodup:=by
  unfold List.Nodup;rw[List.pairwise_map];exact List.nodup_range.imp fun h e=>h (NB e)
 have h2:=uw (b:=l) h1 fun x hx=>by
  obtain⟨j,hj,rfl⟩:=List.mem_map.1 hx;exact h j (List.mem_range.1 hj)
 simpa using h2
structure DH (x:RD):Prop where
 nm:x.sd.size≤200000
 pn:x.pd.length≤1000000
 pd:∀q∈x.pd,q≠ .empty
 ty:iD 99999 (.mk x.k1 x.n1 x.s1 x.l1 x.a1)∧(ae.mk x.k1 x.n1 x.s1 x.l1 x.a1).size≤800001
 vl:x.kd=2→iD 99999 (.mk x.k2 x.n2 x.s2 x.l2 x.a2)∧(ae.mk x.k2 x.n2 x.s2 x.l2 x.a2).size≤800001
 ar:0≤x.ad∧x.ad≤99
 cs:∀c∈x.cd,iD 99999 c.2∧c.2.size≤800001∧c.1.size≤200000
 Q8:Dn x.cd≤2000000
 cl:x.cd.length≤400000
 k:x.kd=1∨x.kd=2∨x.kd=3
 nc:x.kd≠3→x.cd=[]
 vz:(ae.mk x.k2 x.n2 x.s2 x.l2 x.a2).size≤800001
def Jh(es:List cy)(d:dP):Sg:=fun s=>if s=d.nm∨vL s (d.cs.map (·.1))=true then some d.ps.length else eh es s
theorem D6(es:List cy)(d:dP):Jh es d d.nm=some d.ps.length:=if_pos (.inl rfl)
theorem Jf(es:List cy)(d:dP){c:ByteArray×ae}(h:c∈d.cs):Jh es d c.1=some d.ps.length:=if_pos (.inr (iP.2 (List.mem_map_of_mem h)))
variable {es:List cy} {e:cy}
theorem Nv(hk:∀e∈es,e.d.k≠0)(hd:e.d.k=3)(hn:∀y∈dq e.d,y∉dB es)(hnd:(dq e.d).Nodup):yS (Jh es e.d) (eh (es++[e])):=by
 intro s n hs;unfold Jh at hs;split at hs
 ·rename_i h;rcases h with rfl|h
  ·rw [D5 hk (hn _ (by simp[dq])),ME (.inr (.inr hd)),hs]
  ·have h:=iP.1 h;obtain⟨c,hc,rfl⟩:=List.mem_map.1 h;rw[D5 hk (hn _ (by unfold dq;exact List.mem_cons_of_mem _ (List.mem_append_left _ h))),Ln hc ?_,hs];intro h2;unfold dq at hnd;exact(List.nodup_cons.1 hnd).1 (List.mem_append_left _ (by rw[← h2];exact h))
 ·exact rT _ _ _ _ hs
theorem Jg(hk:∀e∈es,e.d.k≠0)(hn:∀y∈dq e.d,y∉dB es):yS (eh (es++[KK e])) (Jh es e.d):=by
 intro s n hs;have hnm:e.d.nm∉dB es:=hn _ (by simp[dq]);by_cases h:s=e.d.nm
 ·subst h;rw[D5 hk hnm] at hs;have h3:=ME (e:=KK e) (.inl rfl);rw[show(KK e).d.nm=e.d.nm from rfl] at h3;rw[D6,←hs,h3];rfl
 ·have h0:(bM s es).1≠0:=fun h0=>by
   have h1:=BL hs;rw[lH hk h0,bM,if_neg (show ¬(KK e).d.nm=s from fun g=>h g.symm)] at h1;exact h1 rfl
  have h2:¬(s=e.d.nm∨vL s (e.d.cs.map (·.1))=true):=fun g=>by
   rcases g with g|g
   ·exact h g
   ·have g:=iP.1 g;exact h0 ((ln hk).2 (hn _ (by unfold dq;exact List.mem_cons_of_mem _ (List.mem_append_left _ g))))
  unfold Jh;rw[if_neg h2];rw[As (o9 h0)] at hs;exact hs
structure K3 (es:List cy) (d:dP) (rp:List ByteArray) (rt:ae):Prop where
 new:∀y∈dq d,y∉dB es
 nd:(dq d).Nodup
 ps:d.ps.length≤6
 ty:Wt (eh es) d.ps d.ty 0
 ar:d.ar≤bg d.ty
 cs:∀c∈d.cs,Wt (Jh es d) d.ps c.2 0∧d.ar≤bg c.2∧Ca d.nm d.ar c.2
 RP:rp.length≤7
 Rv:Wt (Jh es d) rp rt 0∧rt.size≤1000000000
variable {x:RD}
theorem K3.env(hF:fX es)(hl:es.length<1000000)(hx:DH x)(hk:x.kd=3){rp:List ByteArray}{rt:ae}(h:K3 es x.dec rp rt):fX (es++[⟨x.dec,rp,rt⟩]):=by
 have hk0:=hF.ok.k0;have hle:yS (Jh es x.dec) (eh (es++[⟨x.dec,rp,rt⟩])):=Nv (e:=⟨x.dec,rp,rt⟩) hk0 hk h.new h.nd;refine hF.app hl h.new h.nd ⟨.inr (.inr hk),h.ps,?_,⟨h.ty.mono (rT _ _) (fun _ h=>h) (Int.le_refl _),hx.ty.2⟩,fun g=>?_,?_,fun _=>⟨hx.ar.1,h.ar⟩,fun c hc=>⟨(h.cs c hc).1.mono hle (fun _ h=>h) (Int.le_refl _),(hx.cs c hc).2.1,(h.cs c hc).2.1⟩,h.RP,fun _=>⟨h.Rv.1.mono hle (fun _ h=>h) (Int.le_refl _),?_⟩⟩ (fun _ c hc=>(h.cs c hc).2.2) (fun g=>absurd hk g) hx.vz
 ·exact Nat.le_trans hx.nm (by decide)
 ·exact absurd (hk.symm.trans g) (by decide)
 ·exact Nat.le_trans hx.cl (by decide)
 ·exact Nat.le_trans h.Rv.2 (by decide)
structure KV (es:List cy) (d:dP):Prop where
 new:d.nm∉dB es
 ps:d.ps.length≤6
 ty:Wt (eh es) d.ps d.ty 0
 vl:d.k=2→Wt (eh es) d.ps d.vl 0
theorem KV.env(hF:fX es)(hl:es.length<1000000)(hx:DH x)(hk:x.kd≠3)(h:KV es x.dec):fX (es++[⟨x.dec,[],aQ⟩]):=by
 have hnd:dq x.dec=[x.sd]:=by
  unfold dq;rw[if_neg (show ¬x.dec.k=3 from hk),show x.dec.cs=[] from hx.nc hk];rfl
 have hnc:∀c∈x.dec.cs,False:=fun c hc=>by rw[show x.dec.cs=[] from hx.nc hk] at hc;cases hc
 refine hF.app hl (fun y hy=>?_) (by show(dq x.dec).Nodup;rw[hnd];simp) ⟨?_,h.ps,?_,⟨h.ty.mono (rT _ _) (fun _ h=>h) (Int.le_refl _),hx.ty.2⟩,fun g=>⟨(h.vl g).mono (rT _ _) (fun _ h=>h) (Int.le_refl _),(hx.vl g).2⟩,?_,fun g=>absurd g hk,fun c hc=>(hnc c hc).elim,Nat.zero_le _,fun g=>absurd g hk⟩ (fun g=>absurd g hk) (fun _=>hx.nc hk) hx.vz
 ·change y∈dq x.dec at hy
  rw[hnd] at hy;simp only[List.mem_singleton] at hy;subst hy;exact h.new
 ·exact hx.k
 ·exact Nat.le_trans hx.nm (by decide)
 ·exact Nat.le_trans hx.cl (by decide)
theorem Wt.Je{sg:Sg}{ps:List ByteArray}{n c:Int}{s:ByteArray}{ls:List aP}{args:List ae}(h:Wt sg ps (.mk 1 n s ls args) c):∃l,ls=[l]∧iQ ps l:=by
 rcases h.2.2 with g|g|g|g|g
 ·exact absurd g.1 (by decide)
 ·obtain ⟨_,_,_,hl,_⟩:=g;obtain⟨l,rfl⟩:=List.length_eq_one_iff.1 hl;exact⟨l,rfl,h.1 l (by simp)⟩
 ·exact absurd g.1 (by decide)
 ·exact absurd g.1 (by decide)
 ·exact absurd g.1 (by decide)
end
section
open Go Go.Vd Go.RowKit
attribute [local irreducible] bu bA di ak bL cU
variable {g gl:Nat→List D}
theorem L6(n:Nat):[[D.v (.int .u8 (IntKind.wrap .u8 (48+(n:Int)%10)))]]=nO ⟨#[UInt8.ofNat (48+n%10)]⟩:=by
 have h:IntKind.wrap .u8 (48+(n:Int)%10)=((UInt8.ofNat (48+n%10)).toNat:Int):=by
  unfold IntKind.wrap;simp[IntKind.bits,IntKind.signed]
 rw[h];rfl
theorem Dh(n:Nat)(hn:n≤1099511627776):cD Tryz.prog gl 168 [.v (.int .i64 n)] (· =.v (.string (rm n))):=by
 induction n using Nat.strongRecOn with
 |_ n ih=>
  have hsz:=zW (n/10);have h1s:(ByteArray.mk #[UInt8.ofNat (48+n%10)]).size=1:=rfl;refine bD Tryz.func168 Tryz.ntmps168 ?_;refine gc 8 ?_;refine o1 (Gu ?_);refine o1 (cG ?_);refine o1 (Gs Rr RH rfl rfl ?_);refine oc (gD MD [.tmp 7] RL ?_);refine o1 (Bc MD.under Rr uY rfl rfl (L6 n) (by intro e;have:=congrArg ByteArray.size e;rw[h1s] at this;cases this) ?_);refine ko 4 [3,0] 6 ?_;refine cj (fun h2=>?_) (fun h2=>?_)
  ·refine gc 8 ?_;refine ez ?_;rw[tM (by omega)]
  refine gc 5 ?_;refine o1 (Ka rfl rfl rfl (by omega) ?_);refine oc (cv MO rfl rfl (ih (n/10) (by omega) (by omega)) (an .nil) ?_);refine go 1 ?_;refine o1 (uM ?_ (hb:=by(try simp only[ByteArray.size_append,qL,List.size_toArray,List.length_cons,List.length_nil]);omega));refine go 4 ?_;refine ez ?_;rw[ra (n:=n) (by omega)]
end
section
open Go Go.Vd Go.RowKit
attribute [local irreducible] bu bA di ak bL cU
variable {g gl:Nat→List D}
def sR:Ob:=.row 9 1
def HX(k:Nat)(es:List cy)(w:Bool):Ob:=.cells [.own k 21 (pJ es),.d (.v (.bool w))] 47
def OQ(es:List cy)(d:dP)(w:Bool)(out:Out)(ob':List Ob):Prop:=
 ∃(rp:List ByteArray) (rt:ae) (code:Int) (w':Bool),out=.ret (.d (.bZ [eA rp,rt.d,.v (.int .i64 code)]))∧ob'=[bc es w',ba]∧(w'=false→w=false)∧(code=0→K3 es d rp rt)
def pa(x:RD):List ByteArray:=x.sd::(x.cd.map (·.1)++[x.sd++wK])
variable {x:RD}
theorem q7(hk:x.kd=3):dq x.dec=pa x:=by
 unfold dq pa;rw[if_pos (show x.dec.k=3 from hk)];rfl
variable {i:Nat}
theorem HU{c:ByteArray×ae}(h:x.cd[i]? =some c):strs (x.sd::(x.cd.take i).map (·.1))++[[.v (.string c.1)]]=strs (x.sd::(x.cd.take (i+1)).map (·.1)):=by
 rw[List.take_add_one,h];simp[strs]
theorem Km(x:RD):strs (x.sd::(x.cd.take x.cd.length).map (·.1))++[[.v (.string (x.sd++wK))]]=strs (pa x):=by
 rw[List.take_length];simp[strs,pa]
variable {es:List cy}
theorem Kl{l:List ByteArray}(hi:i<l.length)(h1:∀y∈l.take i,y∉dB es)(h2:l[i]∉dB es):∀y∈l.take (i+1),y∉dB es:=by
 intro y hy;rw[List.take_add_one,List.getElem?_eq_getElem hi] at hy;rcases List.mem_append.1 hy with hy|hy
 ·exact h1 y hy
 ·simp only[Option.toList_some,List.mem_singleton] at hy;subst hy;exact h2
theorem IB(es:List cy)(x:RD)(rp:List ByteArray)(rt:ae):pJ (es++[KK ⟨x.dec,rp,rt⟩])=pJ es++[[.v (.int .i64 1),.v (.string x.sd),.sl 1 (strs x.pd),.v (.int .i64 x.k1),.v (.int .i64 x.n1),.v (.string x.s1),.sl 3 (bF x.l1),.sl 5 (aH x.a1),.v (.int .i64 0),.v (.int .i64 0),.v (.string .empty),.sl 3 [],.sl 5 [],.v (.int .i64 0),.sl 6 [],.sl 1 [],.v (.int .i64 0),.v (.int .i64 0),.v (.string .empty),.sl 3 [],.sl 5 []]]:=by
 rw[Df];rfl
set_option maxHeartbeats 4000000 in
theorem Da(hE:dg es)(hel:es.length<1000000)(x:RD)(hx:DH x)(hk:x.kd=3){most:Nat}(hm:most≤1000000)(w:Bool):
 et Tryz.prog gl 148 [bc es w,ba] [.cb 0 0,.d x.dec.d,.d (.v (.int .i64 most))] (OQ es x.dec w):=by
 have hcl:=iU x.cd;have hcl2:=hx.cl;have hpn:=hx.pn;have hsd:=hx.nm;have htz:=hx.ty.2;have hsh:=jF (B':=4398046511104) (by decide) hx.ty.1;have hdl:=qt (.mk x.k1 x.n1 x.s1 x.l1 x.a1);have hpi:=iK (gl:=gl) x.k1 x.n1 x.s1 x.l1 x.a1 hsh (by omega);have hpz:=dT _ (.mk x.k1 x.n1 x.s1 x.l1 x.a1) (Nat.le_refl _);have hen:=tL (gl:=gl) (bg (.mk x.k1 x.n1 x.s1 x.l1 x.a1)) x.k1 x.n1 x.s1 x.l1 x.a1 hsh (Nat.le_refl _) (by omega);have htw:=wi (gl:=gl) x.pd (by omega);have hel2:=tK es;have hpl9:=cQ x.pd;obtain⟨p,hp⟩:∃p:Nat,x.ad=p:=⟨x.ad.toNat,by have:=hx.ar.1;omega⟩;have hp99:p≤99:=(by have:=hx.ar.2;omega);have hfl:(pa x).length=x.cd.length+2:=by simp[pa]
 have hfs:=cQ (pa x);obtain⟨kE,mE,sE,lE,aE,hEe⟩:=ae.case (er (bg (.mk x.k1 x.n1 x.s1 x.l1 x.a1)) (.mk x.k1 x.n1 x.s1 x.l1 x.a1))
 rw[hEe] at hen;refine bS Tryz.func148 Tryz.ntmps148 2 ?_;refine gc 12 ?_;refine oc (gD rQ [.tmp 30] G3 ?_);refine ko 4 [9,7,4,0,2] 6 ?_;refine lp (ι:=Nat) (fun i=>[(10,int i),(9,.own 4 1 (strs (x.sd::(x.cd.take i).map (·.1))))]) (fun i=>[bc es w,ba,uQ x,zO,sR]) [7,4,0,2] (fun i=>i≤x.cd.length) (fun i=>x.cd.length-i) (0) ([0,1,2,3,4]) rfl ?I5 ?M5 ?H5
 case I5=>
  exact Nat.zero_le _
 case M5=>
  exact mz
 case H5=>
  rintro i hinv
  try dsimp only at hinv
  refine kc 0 [10,9,7,4,0,2] 10 ?_;refine cj (fun h3=>?_) (fun h3=>?_)
  ·refine kc 4 [10,9,7,4,0,2] 0 ?_;obtain⟨cN,cK,cM,cS,cL,cA,hget⟩:=rb (show i<x.cd.length by omega);have hsl0:=cQ (x.sd::(x.cd.take i).map (·.1));have hsl1:(x.sd::(x.cd.take i).map (·.1)).length≤x.cd.length+1:=(by simp only[List.length_cons,List.length_map,List.length_take];omega);refine gc 5 ?_;refine o1 (cu yj Ap ?_ (he:=by exact(pk hget)));refine go 2 ?_;refine oc (gD rQ [.tmp 45] G3 ?_);refine oc (uv rQ rfl rfl rfl rfl rfl rfl rfl (.inl rfl) (by decide) (by simp) (by(rw[hsl0];simp only[maxLen,List.length_cons,List.length_nil] at hsl1 ⊢;omega)) rfl rfl rfl ?_);refine ko 4 [9,10,7,4,0,2] 2 ?_;refine o1 (cG ?_);refine go 2 ?_;refine bk (i+1) rfl ?_ ([0,1,2,3,4]) ?_
   ·exact ⟨by omega,by omega⟩
   ·refine mo ?_ (aJ (ef rfl (by exact Fit.of_eq (by rw[← HU hget];rfl)) (aJ (aJ (aJ (aJ dC))))))
    repeat (first|exact cH|refine bj ?_|refine cr ?_)
  refine kc 6 [9,7,4,0,2] 0 ?_;obtain rfl:i=x.cd.length:=(by omega);have hsl0:=cQ (x.sd::(x.cd.take x.cd.length).map (·.1));have hsl1:(x.sd::(x.cd.take x.cd.length).map (·.1)).length≤x.cd.length+1:=(by simp only[List.length_cons,List.length_map,List.length_take];omega);refine gc 4 ?_;refine o1 (uM ?_ (hb:=by(try simp only[ByteArray.size_append,qL,List.size_toArray,List.length_cons,List.length_nil]);omega));refine oc (gD rQ [.tmp 51] G3 ?_);refine oc (uv rQ rfl rfl rfl rfl rfl rfl rfl (.inl rfl) (by decide) (by simp) (by(rw[hsl0];simp only[maxLen,List.length_cons,List.length_nil] at hsl1 ⊢;omega)) rfl rfl rfl ?_);refine ko 4 [9,7,4,0,2] 6 ?_;refine lp (ι:=Nat) (fun i=>[(11,int i),(9,.own 4 1 (strs (pa x)))]) (fun i=>[bc es w,ba,uQ x,zO,sR]) [7,4,0,2] (fun i=>i≤(pa x).length∧(∀ y∈(pa x).take i,y∉dB es)∧((pa x).take i).Nodup) (fun i=>(pa x).length-i) (0) ([0,1,2,3,4]) rfl ?I6 ?M6 ?H6
  case I6=>
   exact⟨Nat.zero_le _,fun y hy=>by simp at hy,by simp⟩
  case M6=>
   refine mo ?_ (aJ (ef rfl (by exact Fit.of_eq (by rw[← Km];rfl)) (aJ (aJ (aJ (aJ dC))))))
   repeat (first|exact cH|refine bj ?_|refine cr ?_)
  case H6=>
   rintro i hinv
   try dsimp only at hinv
   refine kc 0 [11,9,7,4,0,2] 9 ?_;refine cj (fun h8=>?_) (fun h8=>?_)
   ·refine kc 5 [11,9,7,4,0,2] 0 ?_;have hi:i<(pa x).length:=(by omega);have hst:=y4 (pa x) i;have hkn:=xw (gl:=gl) es w (pa x)[i] hE.b;have ham:=jx (gl:=gl) (pa x)[i] ((pa x).take i) (by rw[List.length_take];omega);refine gc 4 ?_;refine o1 (F9 pN ue ?_ (he:=by exact(kj hi)));refine go 1 ?_;refine oc (ck MS rfl rfl (hkn) [0,1] rfl (bj (cr .nil)) (an (an .nil)) ?_);refine ko 4 [12,11,9,7,4,0,2] 0 ?_;refine gz [0,1] mixed ?_;refine A1 2 rfl (F9 pN ue ⟨_,rfl,?_⟩ (he:=by exact(kj hi)));refine ga [3,4,5] ?_;refine A1 6 rfl (fD pN ue rfl rfl rfl rfl rfl rfl (by omega) (hst) ⟨_,rfl,?_⟩);refine A2 7 rfl (cv Ad rfl rfl (ham) (an (an .nil)) ?_);refine ga [8] ?_;refine aZ ?_;refine ke 1 [13,12,11,9,7,4,0,2] 4 ?_;refine' oo (yt:=76) (d:=75) 1 ?a1 ?b1 ?_
    case a1=>
     intro hc hK;refine go 1 ?_;exact hK [_] rfl rfl
    case b1=>
     intro _ hK;refine go 1 ?_;exact hK [_] rfl
    refine go 2 ?_;refine cJ (fun h12=>?_) (fun h12=>?_)
    ·refine kc 3 [11,9,7,4,0,2] 2 ?_;refine o1 (cG ?_);refine go 2 ?_;refine bk (i+1) rfl ?_ [0,1,2,3,4] mz;exact⟨⟨by omega,Kl hi hinv.2.1 ((ln hE.k0).1 (by simpa using h12.1)),xd hi hinv.2.2 (by simpa using h12.2)⟩,by omega⟩
    refine kc 0 [7] 14 ?_;refine eo (.bZ [eA [],aQ.d,.v (.int .i64 3)]) [0,1] [bc es w,ba] ?_
    ·exact ⟨[],aQ,3,w,rfl,rfl,fun h=>h,fun h=>absurd h (by omega)⟩
   refine kc 6 [7,4,0,2] 0 ?_;obtain rfl:i=(pa x).length:=(by omega);have hnames:=hinv.2;rw[List.take_length] at hnames;refine gc 3 ?_;refine oc (T:=fun _=>False) (bJ MR rfl rfl rfl rfl (htw) (an .nil) (fun d hd=>?_));obtain⟨b,rfl,hb⟩:=hd;refine go 9 ?_;refine cj (fun h15=>?_) (fun h15=>?_)
   ·refine kc 0 [7] 10 ?_;refine eo (.bZ [eA [],aQ.d,.v (.int .i64 5)]) [0,1] [bc es w,ba] ?_
    ·exact ⟨[],aQ,5,w,rfl,rfl,fun h=>h,fun h=>absurd h (by omega)⟩
   refine kc 3 [7,4,0,2] 0 ?_;have hL:x.pd.length≤6:=(hb (by revert h15;cases b<;>simp)).1;have hso:=iE (gl:=gl) hE hL hm (S:=800001) (by decide) x.k1 x.n1 x.s1 x.l1 x.a1 [] w (fun i y hy=>by simp at hy) (by simp only[List.length_nil];omega) htz hsh;refine gc 7 ?_;refine oc (aN xW rfl rfl rfl rfl (hso) [0,1] (bj (cr .nil)) rfl rfl rfl rfl (an (an (LO (bo (an .nil))))) (fun s ob' hq=>?_) (fun s ob' hq=>?_));rotate_left
   ·obtain ⟨_,_,_,hq1,_⟩:=hq;cases hq1
   obtain⟨⟨kr,sr',ar'⟩,code,w1,hq1,rfl,hq2,hq3⟩:=hq;cases hq1;refine⟨_,_,_,_,_,rfl,rfl,rfl,rfl,rfl,?_⟩;refine ko 9 [16,7,4,0,2] 6 ?_;refine cj (fun h18=>?_) (fun h18=>?_)
   ·refine kc 0 [16,7] 11 ?_;refine eo (.bZ [eA [],aQ.d,.v (.int .i64 code)]) [0,1] [bc es w1,ba] ?_
    ·exact ⟨[],aQ,code,w1,rfl,rfl,hq2,fun h=>absurd h h18⟩
   refine gc 3 ?_;obtain rfl:code=0:=(by omega);obtain⟨rfl,hWt,hlr⟩:=hq3 rfl;have hWt0:Wt (eh es) x.pd (.mk x.k1 x.n1 x.s1 x.l1 x.a1) 0:=hWt;obtain rfl:w=false:=hq2 rfl;refine gc 3 ?_;refine oc (cv rF rfl rfl (hpi) (bo .nil) ?_);refine ko 3 [17,7,4,0,2] 5 ?_;refine oc (cv Dt rfl rfl (hen) (bo (an .nil)) ?_);refine ko 5 [18,17,7,4,0,2] 7 ?_;refine' oo (yt:=112) (d:=109) 3 ?a2 ?b2 ?_
   case a2=>
    intro hc hK;refine go 3 ?_;exact hK [_,_,_] rfl rfl
   case b2=>
    intro _ hK;refine go 3 ?_;exact hK [_,_,_] rfl
   refine go 2 ?_;refine cj (fun h22=>?_) (fun h22=>?_)
   ·refine kc 0 [7] 10 ?_;refine eo (.bZ [eA [],aQ.d,.v (.int .i64 11)]) [0,1] [bc es false,ba] ?_
    ·exact ⟨[],aQ,11,false,rfl,rfl,fun h=>h,fun h=>absurd h (by omega)⟩
   refine kc 3 [18,17,7,4,0,2] 0 ?_;obtain⟨h22a,rfl⟩:¬((bg (.mk x.k1 x.n1 x.s1 x.l1 x.a1):Int)<x.ad)∧kE=1:=(by first|exact⟨by omega,by omega⟩);have hwe:=(hWt0.wN _ (Nat.le_refl _)).1;rw[hEe] at hwe;obtain⟨⟨kl,sl,al⟩,rfl,hlv⟩:=hwe.Je;have halw:=qz (gl:=gl) hL kl sl al hlv;have hnev:=xe (gl:=gl) hL kl sl al hlv;obtain⟨M,hM⟩:∃M:Nat,bg (.mk x.k1 x.n1 x.s1 x.l1 x.a1)=p+M:=⟨bg (.mk x.k1 x.n1 x.s1 x.l1 x.a1)-p,by omega⟩;have hMz:M≤800001:=(by omega);have hMi:(M:Int)=(bg (.mk x.k1 x.n1 x.s1 x.l1 x.a1):Int)-x.ad:=(by omega);have hE2:dg (es++[KK ⟨x.dec,[],aQ⟩]):=hE.ax hel (by
    have:=hnames.1 x.sd (by simp[pa]);exact this) hL (by show x.sd.size≤_;omega) ⟨hWt0,htz⟩
   have hw2:Wt (eh (es++[KK ⟨x.dec,[],aQ⟩])) x.pd (.mk x.k1 x.n1 x.s1 x.l1 x.a1) 0:=hWt0.mono (rT _ _) (fun _ h=>h) (Int.le_refl _);refine gc 3 ?_;refine o1 (cu fo fH ?_ (he:=by exact(rfl)));refine ko 5 [19,17,7,4,0,2] 3 ?_;refine oc (T:=fun _=>False) (bJ KF rfl rfl rfl rfl (halw) (bo .nil) (fun d hd=>?_));obtain⟨b1,rfl⟩:=hd;refine go 6 ?_;refine oc (T:=fun _=>False) (bJ MQ rfl rfl rfl rfl (hnev) (bo .nil) (fun d hd=>?_));obtain⟨b2,rfl⟩:=hd;refine ko 4 [21,20,19,17,7,4,0,2] 5 ?_;refine' oa (yt:=127) (d:=125) 2 ?a3 ?b3 ?_
   case a3=>
    intro hc hK;refine go 2 ?_;exact hK [_,_] rfl rfl
   case b3=>
    intro _ hK;refine go 2 ?_;exact hK [_,_] rfl
   refine go 1 ?_;refine' oo (yt:=133) (d:=129) 4 ?a4 ?b4 ?_
   case a4=>
    intro hc hK;refine go 4 ?_;exact hK [_,_,_,_] rfl rfl
   case b4=>
    intro _ hK;refine go 4 ?_;exact hK [_,_,_,_] rfl
   refine go 2 ?_;refine cj (fun h27=>?_) (fun h27=>?_)
   ·refine kc 0 [7] 10 ?_;refine eo (.bZ [eA [],aQ.d,.v (.int .i64 11)]) [0,1] [bc es false,ba] ?_
    ·exact ⟨[],aQ,11,false,rfl,rfl,fun h=>h,fun h=>absurd h (by omega)⟩
   refine kc 2 [19,17,7,4,0,2] 5 ?_;refine o1 (iC ?_);refine ko 3 [22,19,7,4,0,2] 8 ?_;refine gz [0,1,2,3,4,5,6,7,8] mixed ?_;refine A2 (T:=fun _=>False) 9 rfl (iL D1 rfl rfl rfl rfl rfl rfl (by simp only[List.length_cons,List.length_nil,Nat.reduceAdd];rfl) rfl rfl (by decide) (by(simp only[maxLen,List.length_cons,List.length_nil];omega)) rfl rfl rfl ?_);refine ga [10,11] ?_;refine A2 12 rfl (dN I0 ?_);refine aZ ?_;refine ke 2 [23,22,19,7,4,2] 0 ?_;refine gz [0,1,2,3,4,5,6,7,8,9,10,11,12] mixed ?_;refine A2 13 rfl (gD D1 [.tmp 166] DU ?_);refine A2 14 rfl (px D1 ?_);refine ga [15,16] ?_;refine A2 17 rfl (dN I0 ?_);refine aZ ?_;refine ke 3 [23,22,19,7,4,2] 0 ?_
   skip
   have hfw:∀ob,Fit ob (SV.own 9 21 (pJ es++[[D.v (.int .i64 1),.v (.string x.sd),.sl 1 (strs x.pd),.v (.int .i64 x.k1),.v (.int .i64 x.n1),.v (.string x.s1),.sl 3 (bF x.l1),.sl 5 (aH x.a1),.v (.int .i64 0),.v (.int .i64 0),.v (.string .empty),.v (.slice none 0 0),.v (.slice none 0 0),.v (.int .i64 0),.v (.slice none 0 0),.v (.slice none 0 0),.v (.int .i64 0),.v (.int .i64 0),.v (.string .empty),.v (.slice none 0 0),.v (.slice none 0 0)]])) (SV.own 9 21 (pJ (es++[KK ⟨x.dec,[],aQ⟩]))):=fun ob=>by
    rw[IB];refine Fit.own (pe ?_ _)
    repeat (first|exact .nil|exact .cons .nil .nil|refine .cons (.refl _) ?_|refine .cons .nil ?_)
   refine gc 5 ?_;refine lp (ι:=Nat×Bool) (fun⟨i,w2⟩=>[(24,int i)]) (fun⟨i,w2⟩=>[bc es false,ba,uQ x,zO,sR,lO kr sr' ar',tO 1 mE sE [.mk kl sl al] aE,lO kl sl al,HX 9 (es++[KK ⟨x.dec,[],aQ⟩]) w2,ba]) [23,22,19,7,4,2] (fun⟨i,w2⟩=>i≤x.cd.length∧∀c∈x.cd.take i,Wt (eh (es++[KK ⟨x.dec,[],aQ⟩])) x.pd c.2 0∧p≤bg c.2∧Ca x.sd p c.2) (fun⟨i,w2⟩=>x.cd.length-i) ((0,false)) ([0,1,2,3,4,5,6,7,8,9]) rfl ?I7 ?M7 ?H7
   case I7=>
    exact⟨Nat.zero_le _,fun c hc=>by simp at hc⟩
   case M7=>
    refine mo ?_ (aJ (aJ (aJ (aJ (aJ (aJ (aJ dC)))))))
    repeat (first|exact cH|exact yH|refine bj ?_|refine cr ?_|refine Bi ?_ ?_|refine an ?_|refine .cons (hfw _) ?_)
   case H7=>
    rintro⟨i,w2⟩ hinv
    try dsimp only at hinv
    refine kc 0 [24,23,22,19,7,4,2] 10 ?_;refine cj (fun h34=>?_) (fun h34=>?_)
    ·refine kc 5 [24,23,22,19,7,4,2] 0 ?_;obtain⟨cN,cK,cM,cS,cL,cA,hget⟩:=rb (show i<x.cd.length by omega);obtain⟨g1,g2,g3⟩:=hx.cs _ (List.mem_of_getElem? hget);have hct:=Il (gl:=gl) hE2 x hL p hp hm (S:=800001) (by decide) M hw2 htz hM cN cK cM cS cL cA w2 g2 (jF (by decide) g1) kl sl al hlv;rw[hMi] at hct;refine gz [0,1,2,3,4] mixed ?_;refine A1 5 rfl (cu yj Ap ⟨_,rfl,?_⟩ (he:=by exact(pk hget)));refine ga [6,7,8,9] ?_;refine A2 10 rfl (aN P5 rfl rfl rfl rfl (hct) [8,9] (bj (cr .nil)) rfl rfl rfl rfl (an (bo (bo (an (bo (an .nil)))))) (fun s ob' hq=>?_) (fun s ob' hq=>?_));rotate_left
     ·obtain ⟨_,_,hq1,_⟩:=hq;cases hq1
     obtain⟨code,w4,hq1,rfl,hq2,hq3⟩:=hq;cases hq1;refine⟨_,_,_,_,_,rfl,rfl,rfl,rfl,rfl,?_⟩;refine ga [11] ?_;refine aZ ?_;refine ke 1 [16,24,23,22,19,7,4,2] 6 ?_;refine cJ (fun h37=>?_) (fun h37=>?_)
     ·refine gc 5 ?_;refine o1 (cG ?_);refine go 2 ?_;refine bk (i+1,w4) rfl ?_ [0,1,2,3,4,5,6,7,8,9] mz
      ·refine ⟨⟨by omega,fun c hc=>?_⟩,show _-(i+1)<_-i by omega⟩;rw[List.take_add_one,hget] at hc;rcases List.mem_append.1 hc with hc|hc
       ·exact hinv.2 c hc
       ·simp only[Option.toList_some,List.mem_singleton] at hc;subst hc;exact hq3 (by omega)
     refine kc 0 [16,7] 15 ?_;refine eo (.bZ [eA [],aQ.d,.v (.int .i64 code)]) [0,1] [bc es false,ba] ?_
     ·exact ⟨[],aQ,code,false,rfl,rfl,fun h=>h,fun h=>absurd h h37⟩
    refine kc 6 [23,22,19,7,4,2] 0 ?_;obtain rfl:i=x.cd.length:=(by omega);have hcts:=hinv.2;rw[List.take_length] at hcts;have hla:=EB (gl:=gl) hE2 x hL p hp (by omega) hm (S:=800001) (by decide) (fun c hc=>⟨(hcts c hc).1,(hx.cs c hc).2.1⟩) w2 kl sl al hlv;refine gc 5 ?_;refine oc (aN P4 rfl rfl rfl rfl (hla) [8,9] (bj (cr .nil)) rfl rfl rfl rfl (an (bo (bo (an .nil)))) (fun s ob' hq=>?_) (fun s ob' hq=>?_));rotate_left
    ·obtain ⟨_,_,_,hq1,_⟩:=hq;cases hq1
    obtain⟨b3,code,w4,hq1,rfl,hq2⟩:=hq;cases hq1;refine⟨_,_,_,_,_,rfl,rfl,rfl,rfl,rfl,?_⟩;refine ko 8 [16,25,22,7,4] 6 ?_;refine cj (fun h40=>?_) (fun h40=>?_)
    ·refine kc 0 [16,7] 11 ?_;refine eo (.bZ [eA [],aQ.d,.v (.int .i64 code)]) [0,1] [bc es false,ba] ?_
     ·exact ⟨[],aQ,code,false,rfl,rfl,fun h=>h,fun h=>absurd h h40⟩
    refine gc 9 ?_;refine cj (fun h42=>?_) (fun h42=>?_)
    ·refine kc 1 [22,7,4] 0 ?_;have hax:=Jg (e:=⟨x.dec,[],aQ⟩) hE.k0 (by rw[q7 hk];exact hnames.1);have hrec:=ry (gl:=gl) (sg:=Jh es x.dec) (ps:=x.pd) x p M hp 0 .empty [] ⟨.zero,rfl,⟨by decide,by decide,fun e=>absurd e (by decide),trivial⟩,fun p h=>h.elim⟩ (by decide) (hw2.mono hax (fun _ h=>h) (Int.le_refl _)) (by omega) hM (fun c hc=>⟨(hcts c hc).1.mono hax (fun _ h=>h) (Int.le_refl _),(hcts c hc).2.1,Jf es x.dec hc,by have:=(hx.cs c hc).2.1;omega⟩) hx.Q8 (D6 es x.dec) (fun q hq=>⟨hq,hx.pd q hq⟩) hL;rw[hMi] at hrec;refine gz [0,1,2,3,4] mixed ?_;refine A2 (T:=fun _=>False) 5 rfl (bJ MP rfl rfl rfl rfl (hrec) (bo (an (.cons (.Oh rfl (by repeat (first|exact .refl _|exact .nil|refine .agg ?_|refine .cons ?_ ?_))) .nil))) (fun d hd=>?_));obtain⟨⟨kT,mT,sT,lT,aT⟩,rfl,hT1,hT2⟩:=hd;refine ga [6] ?_;refine A2 7 rfl (dN bw ?_);refine ga [8] ?_;refine aZ ?_;refine ge 3 ?_;refine eo (.bZ [eA x.pd,(ae.mk kT mT sT lT aT).d,.v (.int .i64 0)]) [0,1] [bc es false,ba] ?_
     ·exact ⟨x.pd,_,0,false,rfl,rfl,fun h=>h,fun _=>⟨by rw[q7 hk];exact hnames.1,by rw[q7 hk];exact hnames.2,hL,hWt0,by show x.ad≤(bg (.mk x.k1 x.n1 x.s1 x.l1 x.a1):Int);omega,fun c hc=>⟨(hcts c hc).1.mono hax (fun _ h=>h) (Int.le_refl _),by show x.ad≤_;rw[hp];exact Int.ofNat_le.2 (hcts c hc).2.1,by show Ca x.sd x.ad c.2;rw[hp];exact(hcts c hc).2.2⟩,by omega,hT1,hT2⟩⟩
    refine kc 2 [22,7,4] 12 ?_;refine lP (ι:=Nat) (fun k=>[(26,.d (.v (.string (rN k)))),(27,int k)]) [22,7,4] (fun k=> ∀j,j<k→rN j∈x.pd) (fun k=>x.pd.length+1-k) (0) rfl ?I8 ?M8 ?H8
    case I8=>
     exact fun j h=>absurd h (Nat.not_lt_zero _)
    case M8=>
     exact mz
    case H8=>
     rintro k hinv
     try dsimp only at hinv
     refine kc 0 [26,27,22,7,4] 2 ?_;have hk7:=Js hinv;have ham:=jx (gl:=gl) (rN k) x.pd (by omega);have hdg:=Dh (gl:=gl) (k+1) (by omega);have hds:=zW (k+1);refine gc 4 ?_;refine oc (cv Ad rfl rfl (ham) (an (an .nil)) ?_);refine go 2 ?_;refine cj (fun h46=>?_) (fun h46=>?_)
     ·refine kc 3 [27,22,7,4] 3 ?_;refine o1 (cG ?_);refine go 5 ?_;refine oc (cv MO rfl rfl (hdg) (an .nil) ?_);refine o1 (uM ?_ (hb:=by(try simp only[ByteArray.size_append,qL,List.size_toArray,List.length_cons,List.length_nil]);omega));refine go 3 ?_;refine bi (k+1) rfl ?_ mz
      ·have hin:rN k∈x.pd:=iP.1 (by simpa using h46);have hk9:∀j,j<k+1→rN j∈x.pd:=fun j hj=>by
        rcases Nat.lt_or_ge j k with h|h
        ·exact hinv j h
        ·obtain rfl:j=k:=by omega
         exact hin
       have hk8:=Js hk9;exact⟨hk9,by omega⟩
     refine kc 5 [26,22,7,4] 3 ?_;refine oc (gD rQ [.tmp 222] G3 ?_);refine go 8 ?_;refine oc (gg rQ rfl rfl rfl (.inl rfl) rfl rfl rfl (.inl rfl) (by decide) (by(simp only[maxLen,List.length_cons,List.length_nil];omega)) rfl rfl rfl ?_);refine ko 4 [28,26,22,7,4] 0 ?_;have hax:=Jg (e:=⟨x.dec,[],aQ⟩) hE.k0 (by rw[q7 hk];exact hnames.1);have hps:∀q∈x.pd,q∈rN k::x.pd:=fun q hq=>List.mem_cons_of_mem _ hq
     have hrec:=ry (gl:=gl) (sg:=Jh es x.dec) (ps:=rN k::x.pd) x p M hp 4 (rN k) [] ⟨.param (rN k),rfl,⟨by decide,by decide,fun _=>Pq k,trivial⟩,fun q hq=>by have h9:q=rN k:=hq;rw[h9];exact List.mem_cons_self⟩ (by simp only[aP.size,bh];omega) (hw2.mono hax hps (Int.le_refl _)) (by omega) hM (fun c hc=>⟨(hcts c hc).1.mono hax hps (Int.le_refl _),(hcts c hc).2.1,Jf es x.dec hc,by have:=(hx.cs c hc).2.1;omega⟩) hx.Q8 (D6 es x.dec) (fun q hq=>⟨hps q hq,hx.pd q hq⟩) hL;rw[hMi] at hrec;refine gc 6 ?_;refine oc (T:=fun _=>False) (bJ MP rfl rfl rfl rfl (hrec) (bo (an (.cons (.Oh rfl (by repeat (first|exact .refl _|exact .nil|refine .agg ?_|refine .cons ?_ ?_))) .nil))) (fun d hd=>?_));obtain⟨⟨kT,mT,sT,lT,aT⟩,rfl,hT1,hT2⟩:=hd;refine go 6 ?_;refine eo (.bZ [eA (rN k::x.pd),(ae.mk kT mT sT lT aT).d,.v (.int .i64 0)]) [0,1] [bc es false,ba] ?_
     ·exact ⟨rN k::x.pd,_,0,false,rfl,rfl,fun h=>h,fun _=>⟨by rw[q7 hk];exact hnames.1,by rw[q7 hk];exact hnames.2,hL,hWt0,by show x.ad≤(bg (.mk x.k1 x.n1 x.s1 x.l1 x.a1):Int);omega,fun c hc=>⟨(hcts c hc).1.mono hax (fun _ h=>h) (Int.le_refl _),by show x.ad≤_;rw[hp];exact Int.ofNat_le.2 (hcts c hc).2.1,by show Ca x.sd x.ad c.2;rw[hp];exact(hcts c hc).2.2⟩,by simp only[List.length_cons];omega,hT1,hT2⟩⟩
end
section
open Go Go.Vd Go.RowKit
attribute [local irreducible] bu bA di ak bL cU
variable {g gl:Nat→List D}
theorem Dc(s:ByteArray)(i:Nat):(s.extract i (i+1)).size≤1:=by rw[ByteArray.size_extract];omega
end
section
open Go Go.Vd Go.RowKit
attribute [local irreducible] bu bA di ak bL cU
variable {gl:Nat→List D}
end
section
open Go Go.Vd Go.RowKit
attribute [local irreducible] bu bA di ak bL cU
variable {g gl:Nat→List D}
def OK(es:List cy)(d:dP)(w:Bool)(out:Out)(ob':List Ob):Prop:=
 ∃(code:Int) (w':Bool),out=.ret (.d (.v (.int .i64 code)))∧ob'=[bc es w',ba]∧(w'=false→w=false)∧(code=0→KV es d)
variable {es:List cy} {most:Nat}
set_option maxHeartbeats 1600000 in
theorem Eh(hE:dg es)(x:RD)(hx:DH x)(hk:x.kd=1∨x.kd=2)(hm:most≤1000000)(w:Bool):
 et Tryz.prog gl 149 [bc es w,ba] [.cb 0 0,.d x.dec.d,.d (.v (.int .i64 most))] (OK es x.dec w):=by
 have hpn:=hx.pn;have htz:=hx.ty.2;have hsh:=jF (B':=4398046511104) (by decide) hx.ty.1;have hdl:=qt (.mk x.k1 x.n1 x.s1 x.l1 x.a1);have htw:=wi (gl:=gl) x.pd (by omega);have hkn:=xw (gl:=gl) es w x.sd hE.b;refine bS Tryz.func149 Tryz.ntmps149 2 ?_;refine gc 11 ?_;refine oc (ck MS rfl rfl (hkn) [0,1] rfl (bj (cr .nil)) (an (an .nil)) ?_);refine ko 4 [7,4,0,2] 5 ?_;refine cj (fun h2=>?_) (fun h2=>?_)
 ·refine kc 0 [] 7 ?_;refine eo (.v (.int .i64 3)) [0,1] [bc es w,ba] ?_
  ·exact ⟨3,w,rfl,rfl,fun h=>h,fun h=>absurd h (by omega)⟩
 refine gc 6 ?_;refine oc (T:=fun _=>False) (bJ MR rfl rfl rfl rfl (htw) (an .nil) (fun d hd=>?_));obtain⟨b,rfl,hb⟩:=hd;refine ko 4 [8,4,0,2] 5 ?_;refine cj (fun h5=>?_) (fun h5=>?_)
 ·refine kc 0 [] 7 ?_;refine eo (.v (.int .i64 5)) [0,1] [bc es w,ba] ?_
  ·exact ⟨5,w,rfl,rfl,fun h=>h,fun h=>absurd h (by omega)⟩
 refine gc 3 ?_;have hL:x.pd.length≤6:=(hb (by revert h5;cases b<;>simp)).1;have hnew:x.sd∉dB es:=(ln hE.k0).1 (by simpa using h2);have hso:=iE (gl:=gl) hE hL hm (S:=800001) (by decide) x.k1 x.n1 x.s1 x.l1 x.a1 [] w (fun i y hy=>by simp at hy) (by simp only[List.length_nil];omega) htz hsh;refine gc 7 ?_;refine oc (aN xW rfl rfl rfl rfl (hso) [0,1] (bj (cr .nil)) rfl rfl rfl rfl (an (an (LO (bo (an .nil))))) (fun s ob' hq=>?_) (fun s ob' hq=>?_));rotate_left
 ·obtain ⟨_,_,_,hq1,_⟩:=hq;cases hq1
 obtain⟨⟨kr,sr',ar'⟩,code,w1,hq1,rfl,hq2,hq3⟩:=hq;cases hq1;refine⟨_,_,_,_,_,rfl,rfl,rfl,rfl,rfl,?_⟩;refine ko 9 [10,4,0,2] 5 ?_;refine' oo (yt:=36) (d:=33) 3 ?a1 ?b1 ?_
 case a1=>
  intro hc hK;refine go 3 ?_;exact hK [_,_,_] rfl rfl
 case b1=>
  intro _ hK;refine go 3 ?_;exact hK [_,_,_] rfl
 refine go 2 ?_;refine cj (fun h8=>?_) (fun h8=>?_)
 ·refine kc 0 [10] 8 ?_;refine eo (.v (.int .i64 code)) [0,1] [bc es w1,ba] ?_
  ·refine ⟨code,w1,rfl,rfl,hq2,fun h=>?_⟩;have h9:x.kd=1:=by omega
   exact⟨hnew,hL,(hq3 h).2.1,fun h2=>absurd (h9.symm.trans h2) (by decide)⟩
 refine kc 3 [4,0,2] 0 ?_;obtain⟨rfl,hk1⟩:code=0∧x.kd=2:=⟨by omega,by omega⟩;obtain⟨rfl,hWt,hlr⟩:=hq3 rfl;have hWt0:Wt (eh es) x.pd (.mk x.k1 x.n1 x.s1 x.l1 x.a1) 0:=hWt;obtain rfl:w=false:=hq2 rfl;have hvz:=(hx.vl hk1).2;have hvs:=jF (B':=4398046511104) (by decide) (hx.vl hk1).1;have hdv:=qt (.mk x.k2 x.n2 x.s2 x.l2 x.a2);have hin:=sk (gl:=gl) hE hL hm (S:=800001) (by decide) _ (.mk x.k2 x.n2 x.s2 x.l2 x.a2) (Nat.lt_succ_self _) [] false (fun i y hy=>by simp at hy) (by simp only[List.length_nil];omega) hvz hvs;refine gc 7 ?_;refine oc (aN uT rfl rfl rfl rfl (hin) [0,1] (bj (cr .nil)) rfl rfl rfl rfl (an (an (LO (bo (an .nil))))) (fun s ob' hq=>?_) (fun s ob' hq=>?_));rotate_left
 ·obtain ⟨_,_,_,hq1,_⟩:=hq;cases hq1
 obtain⟨⟨ku,mu,su,lu,au⟩,code2,w2,hq1,rfl,hq4,hq5⟩:=hq;cases hq1;refine⟨_,_,_,_,_,rfl,rfl,rfl,rfl,rfl,?_⟩;refine ko 9 [10,11,4,0,2] 6 ?_;refine cj (fun h11=>?_) (fun h11=>?_)
 ·refine kc 0 [10] 8 ?_;refine eo (.v (.int .i64 code2)) [0,1] [bc es w2,ba] ?_
  ·exact ⟨code2,w2,rfl,rfl,fun _=>rfl,fun h=>absurd h h11⟩
 refine gc 3 ?_;obtain rfl:code2=0:=(by omega);obtain⟨rfl,hWv,hHv⟩:=hq5 rfl;have hmu:=ux (gl:=gl) hE hL (c:=0) (Int.le_refl _) (S:=800001) (n2:=0) hm false ku mu su lu au x.k1 x.n1 x.s1 x.l1 x.a1 (by omega) (by omega) hHv (.base hWt0 htz);refine gc 6 ?_;refine oc (aN Ou rfl rfl rfl rfl (hmu) [0,1] (bj (cr .nil)) rfl rfl rfl rfl (an (bo (bo (an .nil)))) (fun s ob' hq=>?_) (fun s ob' hq=>?_));rotate_left
 ·obtain ⟨_,_,hq1,_⟩:=hq;cases hq1
 obtain⟨code3,w3,hq1,rfl,hq6,hq7⟩:=hq;cases hq1;refine⟨_,_,_,_,_,rfl,rfl,rfl,rfl,rfl,?_⟩;refine go 4 ?_;refine eo (.v (.int .i64 code3)) [0,1] [bc es w3,ba] ?_
 ·exact ⟨code3,w3,rfl,rfl,fun _=>rfl,fun h=>⟨hnew,hL,hWt0,fun _=>hWv⟩⟩
def OW(es:List cy)(d:dP)(w:Bool)(out:Out)(ob':List Ob):Prop:=
 ∃(code:Int) (w':Bool) (es':List cy),out=.ret (.d (.v (.int .i64 code)))∧ob'=[bc es' w',ba]∧(w'=false→w=false)∧fX es'∧((code=0∧∃rp rt,es'=es++[⟨d,rp,rt⟩])∨(code≠0∧es'=es))
theorem zU(es:List cy)(x:RD)(rp:List ByteArray)(k m:Int)(s:ByteArray)(ls:List aP)(args:List ae):pJ (es++[⟨x.dec,rp,.mk k m s ls args⟩])=pJ es++[[.v (.int .i64 x.kd),.v (.string x.sd),.sl 1 (strs x.pd),.v (.int .i64 x.k1),.v (.int .i64 x.n1),.v (.string x.s1),.sl 3 (bF x.l1),.sl 5 (aH x.a1),.v (.int .i64 x.k2),.v (.int .i64 x.n2),.v (.string x.s2),.sl 3 (bF x.l2),.sl 5 (aH x.a2),.v (.int .i64 x.ad),.sl 6 (gM x.cd),.sl 1 (strs rp),.v (.int .i64 k),.v (.int .i64 m),.v (.string s),.sl 3 (bF ls),.sl 5 (aH args)]]:=by
 rw[Df];rfl
set_option maxHeartbeats 1600000 in
theorem KN(hF:fX es)(hel:es.length<1000000)(x:RD)(hx:DH x)(hm:most≤1000000)(w:Bool):
 et Tryz.prog gl 120 [bc es w,ba] [.cb 0 0,.d x.dec.d,.d (.v (.int .i64 most))] (OW es x.dec w):=by
 have hel2:=tK es;have hE:=hF.ok;refine bS Tryz.func120 Tryz.ntmps120 2 ?_;refine gc 14 ?_;refine cj (fun h1=>?_) (fun h1=>?_)
 ·refine kc 1 [4,0,2] 0 ?_;have hk:x.kd=3:=(by omega);have hfa:=Da (gl:=gl) hE hel x hx hk hm w;refine gc 4 ?_;refine oc (aN Qb rfl rfl rfl rfl (hfa) [0,1] (bj (cr .nil)) rfl rfl rfl rfl (an (bo (an .nil))) (fun s ob' hq=>?_) (fun s ob' hq=>?_));rotate_left
  ·obtain ⟨_,_,_,_,hq1,_⟩:=hq;cases hq1
  obtain⟨rp,⟨kT,mT,sT,lT,aT⟩,code,w1,hq1,rfl,hq2,hq3⟩:=hq;cases hq1;refine⟨_,_,_,_,_,rfl,rfl,rfl,rfl,rfl,?_⟩;refine ko 17 [23,9,7,8,4,0] 0 ?_;refine xo (ι:=List cy) (fun es'=>[]) (fun es'=>[bc es' w1,ba]) [9] (fun es'=>fX es'∧((code=0∧∃rp rt,es'=es++[⟨x.dec,rp,rt⟩])∨(code≠0∧es'=es))) rfl ?A2 ?B2
  case A2=>
   refine cJ (fun h3=>?_) (fun h3=>?_)
   ·refine gc 1 ?_;refine bk (es) rfl ?_ [0,1] mz;exact⟨hF,.inr ⟨by omega,rfl⟩⟩
   refine gz [0,1,2,3,4,5,6,7,8] mixed ?_;refine A2 9 rfl (gD D1 [.tmp 32] DU ?_);refine A2 10 rfl (px D1 ?_);refine ga [11,12] ?_;refine A2 13 rfl (dN I0 ?_);refine aZ ?_;refine bk (es++[⟨x.dec,rp,.mk kT mT sT lT aT⟩]) rfl ?_ ([0,1]) ?_
   ·exact ⟨(hq3 (by omega)).env hF hel hx hk,.inl ⟨by omega,_,_,rfl⟩⟩
   ·refine mo ?_ (aJ dC)
    repeat (first|exact cH|exact yH|refine cr ?_|refine Bi ?_ ?_|refine an ?_|refine .cons ((by rw[zU];exact Fit.refl _)) ?_)
  case B2=>
   rintro es' hcut
   try dsimp only at hcut
   refine kc 0 [9] 8 ?_;refine eo (.v (.int .i64 code)) [0,1] [bc es' w1,ba] ?_
   ·exact ⟨code,w1,es',rfl,rfl,hq2,hcut.1,hcut.2⟩
 refine kc 3 [4,0,2] 0 ?_;have hk:x.kd=1∨x.kd=2:=(by rcases hx.k with h|h|h;exact .inl h;exact .inr h;omega);have hpl:=Eh (gl:=gl) hE x hx hk hm w;refine gc 4 ?_;refine oc (aN Qa rfl rfl rfl rfl (hpl) [0,1] (bj (cr .nil)) rfl rfl rfl rfl (an (bo (an .nil))) (fun s ob' hq=>?_) (fun s ob' hq=>?_));rotate_left
 ·obtain ⟨_,_,hq1,_⟩:=hq;cases hq1
 obtain⟨code,w1,hq1,rfl,hq2,hq3⟩:=hq;cases hq1;refine⟨_,_,_,_,_,rfl,rfl,rfl,rfl,rfl,?_⟩;refine ko 10 [43,10,4,0] 0 ?_;refine xo (ι:=List cy) (fun es'=>[]) (fun es'=>[bc es' w1,ba]) [10] (fun es'=>fX es'∧((code=0∧∃rp rt,es'=es++[⟨x.dec,rp,rt⟩])∨(code≠0∧es'=es))) rfl ?A3 ?B3
 case A3=>
  refine cJ (fun h7=>?_) (fun h7=>?_)
  ·refine gc 1 ?_;refine bk (es) rfl ?_ [0,1] mz;exact⟨hF,.inr ⟨by omega,rfl⟩⟩
  skip
  have hfw:∀ob,Fit ob (SV.own 1 21 (pJ es++[[D.v (.int .i64 x.kd),.v (.string x.sd),.sl 1 (strs x.pd),.v (.int .i64 x.k1),.v (.int .i64 x.n1),.v (.string x.s1),.sl 3 (bF x.l1),.sl 5 (aH x.a1),.v (.int .i64 x.k2),.v (.int .i64 x.n2),.v (.string x.s2),.sl 3 (bF x.l2),.sl 5 (aH x.a2),.v (.int .i64 x.ad),.sl 6 (gM x.cd),.v (.slice none 0 0),.v (.int .i64 0),.v (.int .i64 0),.v (.string .empty),.v (.slice none 0 0),.v (.slice none 0 0)]])) (SV.own 1 21 (pJ (es++[⟨x.dec,[],aQ⟩]))):=fun ob=>by
   rw[show aQ=.mk 0 0 .empty [] [] from rfl,zU];refine Fit.own (pe ?_ _)
   repeat (first|exact .nil|exact .cons .nil .nil|refine .cons (.refl _) ?_|refine .cons .nil ?_)
  refine gz [0,1,2,3,4,5,6] mixed ?_;refine A2 7 rfl (gD D1 [.tmp 50] DU ?_);refine A2 8 rfl (px D1 ?_);refine ga [9,10] ?_;refine A2 11 rfl (dN I0 ?_);refine aZ ?_;refine bk (es++[⟨x.dec,[],aQ⟩]) rfl ?_ ([0,1]) ?_
  ·exact ⟨(hq3 (by omega)).env hF hel hx (by omega),.inl ⟨by omega,_,_,rfl⟩⟩
  ·refine mo ?_ (aJ dC)
   repeat (first|exact cH|exact yH|refine cr ?_|refine Bi ?_ ?_|refine an ?_|refine .cons (hfw _) ?_)
 case B3=>
  rintro es' hcut
  try dsimp only at hcut
  refine kc 0 [10] 7 ?_;refine eo (.v (.int .i64 code)) [0,1] [bc es' w1,ba] ?_
  ·exact ⟨code,w1,es',rfl,rfl,hq2,hcut.1,hcut.2⟩
end
section
open Go Go.Vd Go.RowKit
theorem js:∀l:eC,10*l.size≤l.weight
 | .zero=>by simp[eC.size,eC.weight]
 | .succ a=>by have:=js a;simp only[eC.size,eC.weight];omega
 | .max a b=>by have:=js a;have:=js b;simp only[eC.size,eC.weight];omega
 | .imax a b=>by have:=js a;have:=js b;simp only[eC.size,eC.weight];omega
 | .param s=>by simp only[eC.size,eC.weight];omega
variable {s:ByteArray} {r:RS}
theorem xr(n:Nat)(hp:r.p≤s.size):(bN n s r).1.size+2*r.p≤1+2*(bN n s r).2.p:=by
 obtain⟨x,hx,_,hw⟩:=xu n hp;rw[hx,x.fS];have:=js x;omega
theorem CN:∀(n:Nat) {r:RS},r.p≤s.size→bh (dc n s r).1+4*r.p≤1+4*(dc n s r).2.p:=by
 intro n
 induction n with
 |zero=>intro r hp;simp only[dc,bh];omega
 |succ n ih=>
  intro r hp;simp only[dc];split
  ·rename_i hc;have h1:=eJ (s:=s) (s.size+1) hp;have h2:=xr (s:=s) (s.size+1) hp;have h3:=ih h1.2;simp only[bh];cases hf:(bN (s.size+1) s r).2.f with
   |none=>
    have h4:=xt hp hc.1 hf;omega
   |some a=>
    have h5:dc n s (bN (s.size+1) s r).2=([],(bN (s.size+1) s r).2):=by
     cases n with
     |zero=>rfl
     |succ n=>simp only[dc];rw[if_neg (by rintro⟨e,_⟩;rw[hf] at e;cases e)]
    rw[h5];simp only[bh];omega
  ·simp only[bh];omega
theorem HD(k:Nat)(hp:r.p≤s.size):bh (jc s k r).2.1+4*r.p≤1+4*(jc s k r).2.2.p:=by
 unfold jc;split
 ·have h1:=eJ (s:=s) (s.size+1) hp;have h2:=xr (s:=s) (s.size+1) hp;simp only[bh];omega
 ·split
  ·have h1:=eE (s:=s) hp;have h2:=CN (s.size+2) h1.2;simp only;omega
  ·simp only[bh];omega
theorem D2(l:List ae)(x:ae):aj (l++[x])=aj l+x.size:=by
 induction l with
 |nil=>simp[aj]
 |cons a r ih=>simp[aj,ih];omega
theorem qI:∀(n:Nat) (r:RS),r.p≤s.size→(bU n s r).1.size+4*r.p≤1+4*(bU n s r).2.p:=by
 have hz:aQ.size=1:=rfl;intro n
 induction n with
 |zero=>intro r hp;simp only[bU,hz];omega
 |succ n ih=>
  have hpart:∀(i:Nat) {r:RS},r.p≤s.size→aj (dX (bU n s) i r).1+4*r.p≤i+4*(dX (bU n s) i r).2.p:=by
   intro i
   induction i with
   |zero=>intro r hp;simp only[dX,aj];omega
   |succ i ihi=>
    intro r hp;have h1:=ihi hp;have h2:=j3 (s:=s) (f:=bU n s) (fun r hr=>eu n r hr) i hp;have h3:=ih _ h2.2;simp only[dX,D2];omega
  intro r hp;obtain⟨p,f⟩:=r;simp only at hp;cases f with
  |some a=>simp only[bU,hz];omega
  |none=>
   have h1:=c6 (s:=s) (r:=⟨p,none⟩) hp;simp only at h1 ⊢;by_cases c1:vu (bd s p).1
   ·by_cases c2:(bd s p).1=⟨#[40]⟩
    ·by_cases c3:fC (bd s (aS s ⟨p,none⟩).2.p).1=0
     ·rw [rM c2 c3,RS.im];show aQ.size+4*p≤_;rw[hz];exact Nat.add_le_add_left (Nat.mul_le_mul_left 4 h1.1) 1
     ·have hl1:p<(aS s ⟨p,none⟩).2.p:=by
       have h7:=ft (s:=s) hp;rw[iN (by rw[c2];decide),c2];have:(ByteArray.mk #[40]).size=1:=rfl;simp only;omega
      have h2:=c6 (s:=s) (r:=(aS s ⟨p,none⟩).2) h1.2;have h3:=tF (s:=s) (fC (bd s (aS s ⟨p,none⟩).2.p).1) h2.2;have h4:=HD (s:=s) (fC (bd s (aS s ⟨p,none⟩).2.p).1) h2.2;have h5:=j3 (s:=s) (f:=bU n s) (fun r hr=>eu n r hr) (partsOf (fC (bd s (aS s ⟨p,none⟩).2.p).1)) h3.2;have h6:=hpart (partsOf (fC (bd s (aS s ⟨p,none⟩).2.p).1)) h3.2;have h7:=bY (s:=s) (w:=⟨#[41]⟩) h5.2;have h8:=wQ (fC (bd s (aS s ⟨p,none⟩).2.p).1);rw[rL (nm:=(jc s (fC (bd s (aS s ⟨p,none⟩).2.p).1) (aS s (aS s ⟨p,none⟩).2).2).1) (L:=(jc s (fC (bd s (aS s ⟨p,none⟩).2.p).1) (aS s (aS s ⟨p,none⟩).2).2).2.1) (r3:=(jc s (fC (bd s (aS s ⟨p,none⟩).2.p).1) (aS s (aS s ⟨p,none⟩).2).2).2.2) c2 rfl c3 rfl];simp only[ae.size];omega
    ·rw [uc c1 c2];simp only[ae.size,bh,aj];have hpp:(RS.mk p none).p=p:=rfl;omega
   ·rw [ud c1,RS.im];show aQ.size+4*p≤1+4*p;rw[hz];exact Nat.le_refl _
end
section
open Go Go.Vd Go.RowKit
theorem NJ{w:ByteArray}(h:ij w):w≠ .empty:=fun e=>by
 have:=h.ne;rw[e] at this;exact absurd this (by decide)
variable {s:ByteArray} {r:RS}
theorem xg(hp:r.p≤s.size):(cW s r).1.size≤s.size:=by
 obtain⟨p,f⟩:=r;have h9:ByteArray.empty.size=0:=rfl;have h1:(bd s p).1.size≤s.size:=by have:=ft (s:=s) (p:=p) hp;omega
 unfold cW;dsimp only;split
 ·simp only;omega
 ·cases f with
  |none=>exact h1
  |some a=>simp only;omega
theorem qT:∀(n:Nat) (r:RS),(dS n s r).1.length≤n:=by
 intro n
 induction n with
 |zero=>intro r;simp[dS]
 |succ n ih=>
  intro r;simp only[dS];split
  ·simp only[List.length_cons];exact Nat.succ_le_succ (ih _)
  ·simp
theorem Ik:∀(n:Nat) (r:RS),(dM n s r).1.length≤n:=by
 intro n
 induction n with
 |zero=>intro r;simp[dM]
 |succ n ih=>
  intro r;simp only[dM];split
  ·simp only[List.length_cons];exact Nat.succ_le_succ (ih _)
  ·simp
theorem Im(hp:r.p≤s.size):(eR s r).1.2.size+4*r.p≤1+4*(eR s r).2.p∧(eR s r).1.1.size≤s.size∧(eR s r).1.2.size≤1+4*s.size:=by
 have h1:=bY (s:=s) (w:=⟨#[40]⟩) hp;have h2:=bY (s:=s) (w:=jT) h1.2;have h3:=eE (s:=s) h2.2;have h4:=qI (s:=s) (s.size+1) _ h3.2;have h5:=eu (s:=s) (s.size+1) _ h3.2;have h6:=bY (s:=s) (w:=⟨#[41]⟩) h5.2;have h7:=xg h2.2;unfold eR;dsimp only;exact⟨by omega,h7,by omega⟩
theorem Fj:∀(n:Nat) {r:RS},r.p≤s.size→Dn (dM n s r).1+4*r.p≤n+4*(dM n s r).2.p∧∀c∈(dM n s r).1,c.1.size≤s.size∧c.2.size≤1+4*s.size:=by
 intro n
 induction n with
 |zero=>intro r hp;simp only[dM];exact⟨by simp[Dn,aj],fun c hc=>by cases hc⟩
 |succ n ih=>
  intro r hp;simp only[dM];split
  ·have h1:=Im hp;have h2:=ih (tP (s:=s) hp).2;refine⟨?_,fun c hc=>?_⟩
   ·have h3:∀(c:ByteArray×ae) l,Dn (c::l)=c.2.size+Dn l:=fun c l=>by simp only[Dn,List.map_cons,aj]
    rw[h3];have:=h2.1;simp only;omega
   ·rcases List.mem_cons.1 hc with rfl|hc
    ·exact h1.2
    ·exact h2.2 c hc
  ·exact ⟨by simp[Dn,aj],fun c hc=>by cases hc⟩
structure Nl (N:Nat) (d:dP):Prop where
 nm:d.nm.size≤N
 pn:d.ps.length≤N+2
 ty:d.ty.size≤1+4*N
 vl:d.vl.size≤1+4*N
 cs:∀c∈d.cs,c.1.size≤N∧c.2.size≤1+4*N
 Q8:Dn d.cs≤5*N+2
 cl:d.cs.length≤N+2
variable {nm:ByteArray} {ps:List ByteArray}
theorem Nl.zero(N:Nat)(k:Int)(h1:nm.size≤N)(h2:ps.length≤N+2):Nl N (.mk k nm ps aQ aQ 0 []):=
 ⟨h1,h2,by show 1≤_;omega,by show 1≤_;omega,fun c hc=>(by cases hc),by simp[dP.cs,Dn,aj],by simp[dP.cs]⟩
theorem LJ(hp:r.p≤s.size):(bO s r).2.1.size≤s.size∧(bO s r).2.2.1.length≤s.size+2:=by
 have h1:=bY (s:=s) (w:=⟨#[40]⟩) hp;have h2:=c6 (s:=s) h1.2;have h9:ByteArray.empty.size=0:=rfl;unfold bO;dsimp only;split
 ·exact ⟨by simp only;omega,by simp⟩
 ·exact ⟨xg h2.2,qT _ _⟩
theorem Li{k:Nat}{a:Int}(hp:r.p≤s.size)(h1:nm.size≤s.size)(h2:ps.length≤s.size+2):Nl s.size (iT s k nm ps a r).1:=by
 have t1:=qI (s:=s) (s.size+1) r hp;have t2:=eu (s:=s) (s.size+1) r hp;have v2:=vR (s:=s) (k:=k) t2.2;have hv:(rH s k (bU (s.size+1) s r).2).1.size≤1+4*s.size:=by
  unfold rH;split
  ·have h3:=qI (s:=s) (s.size+1) _ t2.2;have h4:=eu (s:=s) (s.size+1) _ t2.2;omega
  ·show 1≤_;omega
 have hc:∀r:RS,r.p≤s.size→(∀ c∈(nA s k r).1,c.1.size≤s.size∧c.2.size≤1+4*s.size)∧Dn (nA s k r).1≤5*s.size+2∧(nA s k r).1.length≤s.size+2:=fun r hr=>by
  unfold nA;split
  ·have h3:=Fj (s:=s) (s.size+2) hr;have h4:=z9 (s:=s) (s.size+2) hr;have h5:=Ik (s:=s) (s.size+2) r;exact⟨h3.2,by omega,h5⟩
  ·exact ⟨fun c hc=>(by cases hc),by simp[Dn,aj],by simp⟩
 unfold iT;dsimp only;exact⟨h1,h2,by show(bU (s.size+1) s r).1.size≤_;omega,hv,(hc _ v2.2).1,(hc _ v2.2).2.1,(hc _ v2.2).2.2⟩
theorem L9(hp:r.p≤s.size):Nl s.size (eF s r).1:=by
 have hh:=ny (s:=s) hp;have h2:=LJ hp;have h9:ByteArray.empty.size=0:=rfl;unfold eF;dsimp only;split
 ·exact Nl.zero _ _ (by omega) (by simp)
 ·split
  ·exact Nl.zero _ _ h2.1 h2.2
  ·exact Li (oC (s:=s) hh.2).2 h2.1 h2.2
theorem LY:∀(n:Nat) {r:RS},r.p≤s.size→(fE n s r).1.length≤n∧∀d∈(fE n s r).1,Nl s.size d:=by
 intro n
 induction n with
 |zero=>intro r hp;exact⟨by simp[fE],fun d hd=>by simp[fE] at hd⟩
 |succ n ih=>
  intro r hp;have h:=ih (xU (s:=s) hp).2;simp only[fE];split
  ·refine ⟨by simp only[List.length_cons];exact Nat.succ_le_succ h.1,fun d hd=>?_⟩;rcases List.mem_cons.1 hd with rfl|hd
   ·exact L9 hp
   ·exact h.2 d hd
  ·exact ⟨by simp,fun d hd=>by simp at hd⟩
theorem ND{N:Nat}(hN:N≤200000){d:dP}(h:Gk d)(hz:Nl N d):∃x:RD,d=x.dec∧DH x:=by
 obtain⟨k,s,ps,k1,n1,s1,l1,a1,k2,n2,s2,l2,a2,a,cs,rfl⟩:=dP.case d
 obtain⟨g1,g2,g3,g4⟩:=h;obtain⟨z1,z2,z3,z4,z5,z6,z7⟩:=hz;simp only[dP.nm,dP.ps,dP.ty,dP.vl,dP.cs] at z1 z2 z3 z4 z5 z6 z7;refine⟨⟨k,s,ps,k1,n1,s1,l1,a1,k2,n2,s2,l2,a2,a,cs⟩,rfl,⟨?_,?_,fun q hq=>NJ (g2 q hq),⟨pT g3,?_⟩,?_,?_,?_,?_,?_,?_,?_,?_⟩⟩
 ·simp only;omega
 ·simp only;omega
 ·simp only;omega
 ·intro hk;simp only at hk ⊢;rcases g4 with g|g|g
  ·omega
  ·exact ⟨pT g.2.1,by omega⟩
  ·omega
 ·simp only;rcases g4 with g|g|g
  ·omega
  ·omega
  ·exact ⟨g.2.2.1,g.2.2.2.1⟩
 ·intro c hc;simp only at hc;rcases g4 with g|g|g
  ·rw [g.2.2.2] at hc;cases hc
  ·rw [g.2.2.2] at hc;cases hc
  ·exact ⟨pT (g.2.2.2.2 c hc).2,by have:=(z5 c hc).2;omega,by have:=(z5 c hc).1;omega⟩
 ·simp only;omega
 ·simp only;omega
 ·simp only;rcases g4 with g|g|g<;>omega
 ·intro hk;simp only at hk ⊢;rcases g4 with g|g|g
  ·exact g.2.2.2
  ·exact g.2.2.2
  ·omega
 ·simp only;omega
theorem El{s:ByteArray}(h:(fT s).2.1=0):(fT s).1.length≤200002∧∀d∈(fT s).1,∃x:RD,d=x.dec∧DH x:=by
 have hg:=AF h;unfold fT at h hg ⊢;split at h
 ·exact absurd h (by decide)
 ·rename_i hs;rw[if_neg hs] at hg ⊢;have hz:=LY (s:=s) (s.size+2) (r:=⟨0,none⟩) (Nat.zero_le _);unfold eZ at h hg ⊢;split at h
  ·rename_i hf;rw[hf] at hg;simp only at hg ⊢;exact⟨Nat.le_trans hz.1 (by omega),fun d hd=>ND (N:=s.size) (by omega) (hg d hd) (hz.2 d hd)⟩
  ·exact absurd (show(1:Int)=0 from h) (by decide)
end
section
open Go Go.Vd Go.RowKit
attribute [local irreducible] bu bA di ak bL cU
variable {g gl:Nat→List D}
theorem Ie(s:ByteArray)(hs:s.size≤1099511627776)(r:RS)(hp:r.p≤s.size):
 et Tryz.prog (uG g) 147 [iB s r] [.cb 0 0] fun out ob'=>out=.ret (.d (eF s r).1.d)∧ob'=[iB s (eF s r).2]:=by
 refine bS Tryz.func147 Tryz.ntmps147 1 ?_;refine gc 8 ?_;refine oc (ck yL rfl rfl (gf s ⟨#[40]⟩ r hs hp) [0] rfl (bj .nil) (an (an .nil)) ?_);refine go 3 ?_;have e1:=(bY (s:=s) (w:=⟨#[40]⟩) hp).2;generalize hr1:cw s ⟨#[40]⟩ r=r1 at e1 ⊢;refine gc 2 ?_;refine oc (ck pK rfl rfl (c7 s r1.p (bE r1.f) (eG r1.f) hs e1) [0] rfl (bj .nil) (an .nil) ?_);refine ko 22 [20,6,4,2,0] 0 ?_;refine xo (ι:=Nat) (fun k=>[]) (fun k=>[iB s r1,.cells [.d (.v (.int .i64 0)),.d (.v (.string .empty)),.d (.v (.slice none 0 0)),.d (.v (.int .i64 0)),.d (.v (.int .i64 0)),.d (.v (.string .empty)),.d (.v (.slice none 0 0)),.d (.v (.slice none 0 0)),.d (.v (.int .i64 0)),.d (.v (.int .i64 0)),.d (.v (.string .empty)),.d (.v (.slice none 0 0)),.d (.v (.slice none 0 0)),.d (.v (.int .i64 0)),.d (.v (.slice none 0 0))] 61,.cells [.d (.v (.int .i64 k)),.d (.v (.string .empty)),.d (.v (.slice none 0 0)),.d (.v (.int .i64 0)),.d (.v (.int .i64 0)),.d (.v (.string .empty)),.d (.v (.slice none 0 0)),.d (.v (.slice none 0 0)),.d (.v (.int .i64 0)),.d (.v (.int .i64 0)),.d (.v (.string .empty)),.d (.v (.slice none 0 0)),.d (.v (.slice none 0 0)),.d (.v (.int .i64 0)),.d (.v (.slice none 0 0))] 61]) [6,2,0] (fun k=>vt (bd s r1.p).1=k∧¬k=0) rfl ?A8 ?B8
 case A8=>
  refine gc 7 ?_;refine cj (fun h7=>?_) (fun h7=>?_)
  ·refine kc 0 [6,2,0] 5 ?_;refine bk (1) rfl ?_ [0,1,2] mz;rw[h7];decide
  refine gc 6 ?_;refine cj (fun h9=>?_) (fun h9=>?_)
  ·refine kc 0 [6,2,0] 5 ?_;refine bk (2) rfl ?_ [0,1,2] mz;rw[h9];decide
  refine kc 0 [20,6,4,2,0] 6 ?_;refine cj (fun h11=>?_) (fun h11=>?_)
  ·refine kc 0 [6,2,0] 5 ?_;refine bk (3) rfl ?_ [0,1,2] mz;rw[h11];decide
  refine gc 4 ?_;refine oc (ck uS rfl rfl (eK s (bd s r1.p).2.1 r1) [0] rfl (bj .nil) (an (an .nil)) ?_);refine ko 2 [6,2] 9 ?_;refine eo ((dP.mk 0 .empty [] aQ aQ 0 []).d) [0] [iB s (r1.fail (bd s r1.p).2.1)] ?_
  ·rw [Ff hr1 (CQ h7 h9 h11)];exact⟨rfl,rfl⟩
 case B8=>
  rintro k hcut
  try dsimp only at hcut
  refine kc 0 [6,2,0] 1 ?_;obtain⟨hk,hk0⟩:=hcut;have e2:=(c6 (s:=s) (r:=r1) e1).2;have e3:=(eE (s:=s) (r:=(aS s r1).2) e2).2;have e4:=(bY (s:=s) (w:=⟨#[40]⟩) (r:=(cW s (aS s r1).2).2) e3).2;refine gc 2 ?_;refine oc (ck Dr rfl rfl (iu s r1 hs e1) [0] rfl (bj .nil) (an .nil) ?_);refine go 5 ?_;refine oc (ck Me rfl rfl (qU s (aS s r1).2 hs e2) [0] rfl (bj .nil) (an .nil) ?_);refine ko 4 [6,2,0] 3 ?_;refine oc (ck yL rfl rfl (gf s ⟨#[40]⟩ (cW s (aS s r1).2).2 hs e3) [0] rfl (bj .nil) (an (an .nil)) ?_);refine ko 4 [6,2,0] 0 ?_;refine bz 9 1 rfl ?_;refine lp (ι:=Nat×List ByteArray×RS) (fun⟨m,acc,r'⟩=>[]) (fun⟨m,acc,r'⟩=>[iB s r',.cells [.d (.v (.int .i64 0)),.d (.v (.string .empty)),.d (.v (.slice none 0 0)),.d (.v (.int .i64 0)),.d (.v (.int .i64 0)),.d (.v (.string .empty)),.d (.v (.slice none 0 0)),.d (.v (.slice none 0 0)),.d (.v (.int .i64 0)),.d (.v (.int .i64 0)),.d (.v (.string .empty)),.d (.v (.slice none 0 0)),.d (.v (.slice none 0 0)),.d (.v (.int .i64 0)),.d (.v (.slice none 0 0))] 61,.cells [.d (.v (.int .i64 k)),.d (.v (.string (cW s (aS s r1).2).1)),.own 3 1 (strs acc),.d (.v (.int .i64 0)),.d (.v (.int .i64 0)),.d (.v (.string .empty)),.d (.v (.slice none 0 0)),.d (.v (.slice none 0 0)),.d (.v (.int .i64 0)),.d (.v (.int .i64 0)),.d (.v (.string .empty)),.d (.v (.slice none 0 0)),.d (.v (.slice none 0 0)),.d (.v (.int .i64 0)),.d (.v (.slice none 0 0))] 61,.row 9 1]) [6,2,0] (fun⟨m,acc,r'⟩=>r'.p≤s.size∧acc.length+m=s.size+2∧(r'.f=none→s.size-r'.p<m)∧dS (s.size+2) s (cw s ⟨#[40]⟩ (cW s (aS s r1).2).2)=(acc++(dS m s r').1,(dS m s r').2)) (fun⟨m,acc,r'⟩=>m) ((s.size+2,[],cw s ⟨#[40]⟩ (cW s (aS s r1).2).2)) ([0,1,2,3]) rfl ?I9 ?M9 ?H9
  case I9=>
   exact⟨e4,by simp,fun _=>by omega,rfl⟩
  case M9=>
   refine mo ?_ (aJ (aJ (aJ dC)))
   repeat (first|exact cH|exact yH|refine bj ?_|refine qx ?_|refine Bi ?_ ?_|refine an ?_|refine .cons (.nil rfl) ?_)
  case H9=>
   rintro⟨m,acc,r'⟩ hinv
   try dsimp only at hinv
   refine kc 0 [6,2,0] 10 ?_;refine' oa (yt:=50) (d:=47) 3 ?a1 ?b1 ?_
   case a1=>
    intro hc hK;refine go 1 ?_;refine gy ?_;refine oc (ck Oo rfl rfl (ur s r' hs hinv.1) [0] rfl (bj .nil) (an .nil) ?_);refine go 1 ?_;exact hK [_,_,_] rfl rfl
   case b1=>
    intro _ hK;refine go 3 ?_;exact hK [_,_,_] rfl
   refine go 2 ?_;refine cj (fun h16=>?_) (fun h16=>?_)
   ·refine kc 3 [6,2,0] 0 ?_;have hm1:=hinv.2.2.1 (ee.1 h16.1);have hln:=cQ acc;refine gz [0,1,2] mixed ?_;refine A2 3 rfl (ck Me rfl rfl (qU s r' hs hinv.1) [0] rfl (bj .nil) (an .nil) ?_);refine A2 4 rfl (gD rQ [.tmp 55] G3 ?_);refine A2 5 rfl (px rQ ?_);refine ga [6] ?_;refine A2 7 rfl (dN G5 ?_);refine aZ ?_;refine ge 1 ?_;rw[nT];refine bk (m-1,acc++[(cW s r').1],(cW s r').2) rfl ?_ [0,1,2,3] mz;exact⟨Ep hinv ⟨ee.1 h16.1,h16.2⟩ rfl,show m-1<m by omega⟩
   refine kc 6 [6,2,0] 0 ?_;have e5:dS (s.size+2) s (cw s ⟨#[40]⟩ (cW s (aS s r1).2).2)=(acc,r'):=(by rw[hinv.2.2.2,Eo (by rintro⟨ha,hb⟩;rcases h16 with h|h;exact h (ee.2 ha);exact hb h),List.append_nil]);have e6:=Dl hr1 hk hk0 rfl e5;have e7:=(bY (s:=s) (w:=⟨#[41]⟩) (r:=r') hinv.1).2;refine gc 2 ?_;refine oc (ck yL rfl rfl (gf s ⟨#[41]⟩ r' hs hinv.1) [0] rfl (bj .nil) (an (an .nil)) ?_);refine go 4 ?_;generalize hr6:cw s ⟨#[41]⟩ r'=r6 at e6 e7 ⊢;generalize hnm:(cW s (aS s r1).2).1=nm at e6 ⊢;refine kc 6 [63,6,2,0] 0 ?_;refine xo (ι:=Int×RS) (fun⟨a,r7⟩=>[]) (fun⟨a,r7⟩=>[iB s r7,.cells [.d (.v (.int .i64 0)),.d (.v (.string .empty)),.d (.v (.slice none 0 0)),.d (.v (.int .i64 0)),.d (.v (.int .i64 0)),.d (.v (.string .empty)),.d (.v (.slice none 0 0)),.d (.v (.slice none 0 0)),.d (.v (.int .i64 0)),.d (.v (.int .i64 0)),.d (.v (.string .empty)),.d (.v (.slice none 0 0)),.d (.v (.slice none 0 0)),.d (.v (.int .i64 0)),.d (.v (.slice none 0 0))] 61,.cells [.d (.v (.int .i64 k)),.d (.v (.string nm)),.own 3 1 (strs acc),.d (.v (.int .i64 0)),.d (.v (.int .i64 0)),.d (.v (.string .empty)),.d (.v (.slice none 0 0)),.d (.v (.slice none 0 0)),.d (.v (.int .i64 0)),.d (.v (.int .i64 0)),.d (.v (.string .empty)),.d (.v (.slice none 0 0)),.d (.v (.slice none 0 0)),.d (.v (.int .i64 a)),.d (.v (.slice none 0 0))] 61,.row 9 1]) [6,2,0] (fun⟨a,r7⟩=>fW s k r6=(a,r7)∧¬(k=3∧¬qy (bd s r6.p))) rfl ?A10 ?B10
   case A10=>
    refine cJ (fun h19=>?_) (fun h19=>?_)
    ·refine gc 1 ?_;refine bk (0,r6) rfl ?_ [0,1,2,3] mz;exact⟨by unfold fW;rw[if_neg (by omega)],fun h=>by omega⟩
    refine gc 3 ?_;refine oc (ck pK rfl rfl (c7 s r6.p (bE r6.f) (eG r6.f) hs e7) [0] rfl (bj .nil) (an .nil) ?_);refine ko 10 [9,8,7,6,2,0] 5 ?_;refine' oo (yt:=74) (d:=72) 2 ?a2 ?b2 ?_
    case a2=>
     intro hc hK;refine go 2 ?_;exact hK [_,_] rfl rfl
    case b2=>
     intro _ hK;refine go 2 ?_;exact hK [_,_] rfl
    refine go 1 ?_;refine' oo (yt:=79) (d:=76) 3 ?a3 ?b3 ?_
    case a3=>
     intro hc hK;refine go 1 ?_;refine gy ?_;refine o1 (Fs uY ?_ (h01:=by have h1:=size_pos hc.2;omega));refine go 1 ?_;exact hK [_,_,_] rfl rfl
    case b3=>
     intro _ hK;refine go 3 ?_;exact hK [_,_,_] rfl
    refine go 1 ?_;refine' oo (yt:=84) (d:=81) 3 ?a4 ?b4 ?_
    case a4=>
     intro hc hK;refine go 1 ?_;refine gy ?_;refine o1 (Fs uY ?_ (h01:=by have h1:=size_pos hc.1.2;omega));refine go 1 ?_;exact hK [_,_,_] rfl rfl
    case b4=>
     intro _ hK;refine go 3 ?_;exact hK [_,_,_] rfl
    refine go 1 ?_;refine' oo (yt:=89) (d:=86) 3 ?a5 ?b5 ?_
    case a5=>
     intro hc hK;refine go 3 ?_;exact hK [_,_,_] rfl rfl
    case b5=>
     intro _ hK;refine go 3 ?_;exact hK [_,_,_] rfl
    refine go 2 ?_;refine cJ (fun h21=>?_) (fun h21=>?_)
    ·refine kc 3 [7,6,2,0] 0 ?_;have hz:bq (bd s r6.p).1 (Int.toNat 0)=bq (bd s r6.p).1 0:=rfl;obtain⟨⟨⟨⟨_,g1⟩,g2⟩,g3⟩,g4⟩:=h21;have hab:qy (bd s r6.p):=⟨g1,(by omega),(by omega),(by omega)⟩;have e8:=(c6 (s:=s) (r:=r6) e7).2;have e9:=FT (s:=s) e7 hab.1 ⟨hab.2.1,hab.2.2.1⟩;refine gc 2 ?_;refine oc (ck Dr rfl rfl (iu s r6 hs e7) [0] rfl (bj .nil) (an .nil) ?_);refine go 4 ?_;refine oc (cv PL rfl rfl (vn (bd s r6.p).1 e9.1 e9.2.1) (an .nil) ?_);refine go 3 ?_;refine bk (ll (bd s r6.p).1 (bd s r6.p).1.size,(aS s r6).2) rfl ?_ [0,1,2,3] mz;exact⟨by unfold fW;rw[if_pos (by omega)],fun h=>h.2 hab⟩
    refine kc 1 [8,6,2,0] 0 ?_;obtain rfl:k=3:=(by omega);refine gc 3 ?_;refine oc (ck uS rfl rfl (eK s (bd s r6.p).2.1 r6) [0] rfl (bj .nil) (an (an .nil)) ?_);refine ko 2 [6,2] 9 ?_;refine eo ((dP.mk 3 nm acc aQ aQ 0 []).d) [0] [iB s (r6.fail (bd s r6.p).2.1)] ?_
    ·rw [Ih e6 (by unfold qy;rintro⟨b1,b2,b3,b4⟩;have hz:bq (bd s r6.p).1 (Int.toNat 0)=bq (bd s r6.p).1 0:=rfl;rcases h21 with(((h|h)|h)|h)|h;exact b1 (rJ h);exact b1 h;omega;omega;omega)];exact⟨rfl,rfl⟩
   case B10=>
    rintro⟨a,r7⟩ hcut
    try dsimp only at hcut
    refine kc 0 [6,2,0] 1 ?_;obtain⟨c1,c2⟩:=hcut;have e10:=(oC (s:=s) (k:=k) e7).2;rw[c1] at e10;simp only at e10;have e11:=(eu (s:=s) (s.size+1) r7 e10).2;obtain⟨k1,n1,s1,l1,a1,hX⟩:=ae.case (bU (s.size+1) s r7).1;refine gc 2 ?_;refine oc (aN KD rfl rfl rfl rfl (qG s hs (s.size+1) r7 e10 (by omega)) [0] (bj .nil) rfl rfl rfl rfl (an .nil) (fun s ob' hq=>?_) (fun s ob' hq=>?_))
    rotate_left
    ·first|exact hq.elim|cases hq.1
    obtain⟨hq1,rfl⟩:=hq;rw[hX] at hq1;cases hq1;refine⟨_,_,_,_,_,rfl,rfl,rfl,rfl,rfl,?_⟩;refine go 6 ?_;generalize hr8:(bU (s.size+1) s r7).2=r8 at e11 ⊢;refine kc 6 [105,6,2,0] 0 ?_;refine xo (ι:=Int×Int×ByteArray×List aP×List ae×RS) (fun⟨k2,n2,s2,l2,a2,r9⟩=>[]) (fun⟨k2,n2,s2,l2,a2,r9⟩=>[iB s r9,.cells [.d (.v (.int .i64 0)),.d (.v (.string .empty)),.d (.v (.slice none 0 0)),.d (.v (.int .i64 0)),.d (.v (.int .i64 0)),.d (.v (.string .empty)),.d (.v (.slice none 0 0)),.d (.v (.slice none 0 0)),.d (.v (.int .i64 0)),.d (.v (.int .i64 0)),.d (.v (.string .empty)),.d (.v (.slice none 0 0)),.d (.v (.slice none 0 0)),.d (.v (.int .i64 0)),.d (.v (.slice none 0 0))] 61,.cells [.d (.v (.int .i64 k)),.d (.v (.string nm)),.own 3 1 (strs acc),.d (.v (.int .i64 k1)),.d (.v (.int .i64 n1)),.d (.v (.string s1)),.d (.sl 3 (bF l1)),.d (.sl 5 (aH a1)),.d (.v (.int .i64 k2)),.d (.v (.int .i64 n2)),.d (.v (.string s2)),.d (.sl 3 (bF l2)),.d (.sl 5 (aH a2)),.d (.v (.int .i64 a)),.d (.v (.slice none 0 0))] 61,.row 9 1]) [6,2,0] (fun⟨k2,n2,s2,l2,a2,r9⟩=>rH s k r8=(.mk k2 n2 s2 l2 a2,r9)) rfl ?A11 ?B11
    case A11=>
     refine cJ (fun h27=>?_) (fun h27=>?_)
     ·refine gc 1 ?_;refine bk ((0,0,.empty,[],[],r8)) rfl ?_ ([0,1,2,3]) ?_
      ·unfold rH;rw[if_neg (by omega)];rfl
      ·refine mo ?_ (aJ (aJ (aJ dC)))
       repeat (first|exact cH|exact yH|refine bj ?_|refine cr ?_|refine Bi ?_ ?_|refine an ?_|refine LO ?_)
     obtain⟨k2,n2,s2,l2,a2,hX2⟩:=ae.case (bU (s.size+1) s r8).1;refine gc 2 ?_;refine oc (aN KD rfl rfl rfl rfl (qG s hs (s.size+1) r8 e11 (by omega)) [0] (bj .nil) rfl rfl rfl rfl (an .nil) (fun s ob' hq=>?_) (fun s ob' hq=>?_))
     rotate_left
     ·first|exact hq.elim|cases hq.1
     obtain⟨hq1,rfl⟩:=hq;rw[hX2] at hq1;cases hq1;refine⟨_,_,_,_,_,rfl,rfl,rfl,rfl,rfl,?_⟩;refine go 3 ?_;refine bk (k2,n2,s2,l2,a2,(bU (s.size+1) s r8).2) rfl ?_ [0,1,2,3] mz;exact(by unfold rH;rw[if_pos (by omega)];exact Prod.ext hX2 rfl)
    case B11=>
     rintro⟨k2,n2,s2,l2,a2,r9⟩ hcut
     try dsimp only at hcut
     refine kc 0 [6,2,0] 2 ?_;have e12:=(vR (s:=s) (k:=k) e11).2;rw[hcut] at e12;simp only at e12;refine bz 65 6 rfl ?_;refine lp (ι:=Nat×List (ByteArray×ae)×RS) (fun⟨m,cs,r'⟩=>[]) (fun⟨m,cs,r'⟩=>[iB s r',.cells [.d (.v (.int .i64 0)),.d (.v (.string .empty)),.d (.v (.slice none 0 0)),.d (.v (.int .i64 0)),.d (.v (.int .i64 0)),.d (.v (.string .empty)),.d (.v (.slice none 0 0)),.d (.v (.slice none 0 0)),.d (.v (.int .i64 0)),.d (.v (.int .i64 0)),.d (.v (.string .empty)),.d (.v (.slice none 0 0)),.d (.v (.slice none 0 0)),.d (.v (.int .i64 0)),.d (.v (.slice none 0 0))] 61,.cells [.d (.v (.int .i64 k)),.d (.v (.string nm)),.own 3 1 (strs acc),.d (.v (.int .i64 k1)),.d (.v (.int .i64 n1)),.d (.v (.string s1)),.d (.sl 3 (bF l1)),.d (.sl 5 (aH a1)),.d (.v (.int .i64 k2)),.d (.v (.int .i64 n2)),.d (.v (.string s2)),.d (.sl 3 (bF l2)),.d (.sl 5 (aH a2)),.d (.v (.int .i64 a)),.own 4 6 (gM cs)] 61,.row 9 1,.row 65 6]) [6,2,0] (fun⟨m,cs,r'⟩=>r'.p≤s.size∧cs.length+m=s.size+2∧(r'.f=none→s.size-r'.p<m)∧oA k (s.size+2) s r9=(cs++(oA k m s r').1,(oA k m s r').2)) (fun⟨m,cs,r'⟩=>m) ((s.size+2,[],r9)) ([0,1,2,3,4]) rfl ?I12 ?M12 ?H12
     case I12=>
      exact⟨e12,by simp,fun _=>by omega,rfl⟩
     case M12=>
      refine mo ?_ (aJ (aJ (aJ dC)))
      repeat (first|exact cH|exact yH|refine bj ?_|refine cr ?_|refine qx ?_|refine Bi ?_ ?_|refine an ?_|refine .cons (.nil rfl) ?_)
     case H12=>
      rintro⟨m,cs,r'⟩ hinv
      try dsimp only at hinv
      refine kc 0 [6,2,0] 7 ?_;refine' oa (yt:=118) (d:=112) 6 ?a6 ?b6 ?_
      case a6=>
       intro hc hK;refine go 6 ?_;exact hK [_,_,_,_,_,_] rfl rfl
      case b6=>
       intro _ hK;refine go 6 ?_;exact hK [_,_,_,_,_,_] rfl
      refine go 1 ?_;refine' oa (yt:=123) (d:=120) 3 ?a7 ?b7 ?_
      case a7=>
       intro hc hK;refine go 1 ?_;refine gy ?_;refine oc (ck Oo rfl rfl (ur s r' hs hinv.1) [0] rfl (bj .nil) (an .nil) ?_);refine go 1 ?_;exact hK [_,_,_] rfl rfl
      case b7=>
       intro _ hK;refine go 3 ?_;exact hK [_,_,_] rfl
      refine go 2 ?_;refine cJ (fun h29=>?_) (fun h29=>?_)
      ·refine kc 6 [6,2,0] 0 ?_;have e13:oA k (s.size+2) s r9=(cs,r'):=(by rw[hinv.2.2.2,Ip (by rintro⟨h1,h2,h3⟩;rcases h29 with(h|h)|h;omega;exact h (ee.2 h2);exact h h3),List.append_nil]);refine gc 2 ?_;refine oc (ck yL rfl rfl (gf s ⟨#[41]⟩ r' hs hinv.1) [0] rfl (bj .nil) (an (an .nil)) ?_);refine go 9 ?_;refine eo ((dP.mk k nm acc (.mk k1 n1 s1 l1 a1) (.mk k2 n2 s2 l2 a2) a cs).d) [0] [iB s (cw s ⟨#[41]⟩ r')] ?_
       ·rw [Fg e6 hk0 c2 c1 (Prod.ext hX hr8) hcut e13];exact⟨rfl,rfl⟩
      refine kc 4 [6,2,0] 0 ?_;have hm1:=hinv.2.2.1 (ee.1 h29.1.2);have hln:=iU cs;have f1:=(bY (s:=s) (w:=⟨#[40]⟩) hinv.1).2;have f2:=(bY (s:=s) (w:=jT) f1).2;have f3:=(eE (s:=s) f2).2;have f4:=(eu (s:=s) (s.size+1) _ f3).2;obtain⟨k3,n3,s3,l3,a3,hX3⟩:=ae.case (bU (s.size+1) s (cW s (cw s jT (cw s ⟨#[40]⟩ r'))).2).1
      have hlast:gM cs++[[.v (.string (cW s (cw s jT (cw s ⟨#[40]⟩ r'))).1),.v (.int .i64 k3),.v (.int .i64 n3),.v (.string s3),.sl 3 (bF l3),.sl 5 (aH a3)]]=gM (cs++[((cW s (cw s jT (cw s ⟨#[40]⟩ r'))).1,.mk k3 n3 s3 l3 a3)]):=by rw[Kw];rfl
      refine gc 2 ?_;refine oc (ck yL rfl rfl (gf s ⟨#[40]⟩ r' hs hinv.1) [0] rfl (bj .nil) (an (an .nil)) ?_);refine go 5 ?_;refine oc (ck yL rfl rfl (gf s jT (cw s ⟨#[40]⟩ r') hs f1) [0] rfl (bj .nil) (an (an .nil)) ?_);refine ko 2 [6,2,0] 3 ?_;refine oc (ck Me rfl rfl (qU s (cw s jT (cw s ⟨#[40]⟩ r')) hs f2) [0] rfl (bj .nil) (an .nil) ?_);refine go 8 ?_;refine oc (aN KD rfl rfl rfl rfl (qG s hs (s.size+1) (cW s (cw s jT (cw s ⟨#[40]⟩ r'))).2 f3 (by omega)) [0] (bj .nil) rfl rfl rfl rfl (an .nil) (fun s ob' hq=>?_) (fun s ob' hq=>?_));rotate_left
      ·first|exact hq.elim|cases hq.1
      obtain⟨hq1,rfl⟩:=hq;rw[hX3] at hq1;cases hq1;refine⟨_,_,_,_,_,rfl,rfl,rfl,rfl,rfl,?_⟩;refine ko 4 [10,6,2,0] 3 ?_;refine oc (ck yL rfl rfl (gf s ⟨#[41]⟩ (bU (s.size+1) s (cW s (cw s jT (cw s ⟨#[40]⟩ r'))).2).2 hs f4) [0] rfl (bj .nil) (an (an .nil)) ?_);refine go 6 ?_;refine oc (gD Ph [.tmp 139] Pb ?_);refine oc (px Ph ?_);refine go 4 ?_;rw[hlast];rw[show cw s ⟨#[41]⟩ (bU (s.size+1) s (cW s (cw s jT (cw s ⟨#[40]⟩ r'))).2).2=(eR s r').2 from rfl];refine bk (m-1,cs++[((cW s (cw s jT (cw s ⟨#[40]⟩ r'))).1,.mk k3 n3 s3 l3 a3)],(eR s r').2) rfl ?_ [0,1,2,3,4] mz;exact⟨Iq hinv (by omega) ⟨ee.1 h29.1.2,h29.2⟩ (by rw[← hX3];rfl),show m-1<m by omega⟩
end
section
open Go Go.Vd Go.RowKit
attribute [local irreducible] bu bA di ak bL cU
variable {g gl:Nat→List D}
theorem yr(s:ByteArray)(hs0:s.size≤268435456):cD Tryz.prog (uG g) 119 [.v (.string s)] (· =.bZ [.sl 15 (lN (eZ s).1),.agg [.v (.int .i64 (eZ s).2.1),.v (.int .i64 (eZ s).2.2)]]):=by
 have hs:s.size≤1099511627776:=by omega
 refine bD Tryz.func119 Tryz.ntmps119 ?_;refine kc 14 [4,3] 7 ?_;refine bz 61 15 rfl ?_;refine lp (ι:=Nat×List dP×RS) (fun⟨m,acc,r'⟩=>[(5,.own 2 15 (lN acc))]) (fun⟨m,acc,r'⟩=>[.cells [.d (.v (.int .i64 0)),.d (.v (.int .i64 0))] 78,iB s r',.row 61 15]) [4,3] (fun⟨m,acc,r'⟩=>r'.p≤s.size∧acc.length+m=s.size+2∧(r'.f=none→s.size-r'.p<m)∧fE (s.size+2) s ⟨0,none⟩=(acc++(fE m s r').1,(fE m s r').2)) (fun⟨m,acc,r'⟩=>m) ((s.size+2,[],⟨0,none⟩)) ([0,1,2]) rfl ?I2 ?M2 ?H2
 case I2=>
  exact⟨Nat.zero_le _,by simp,fun _=>(show s.size-0<s.size+2 by omega),rfl⟩
 case M2=>
  refine mo ?_ (ef rfl (by exact Fit.nil rfl) (aJ (aJ dC)))
  repeat (first|exact cH|refine bj ?_|refine qx ?_)
 case H2=>
  rintro⟨m,acc,r'⟩ hinv
  try dsimp only at hinv
  refine kc 0 [5,4,3] 11 ?_;refine cJ (fun h3=>?_) (fun h3=>?_)
  ·refine kc 6 [4,3] 0 ?_;refine gz [0,1,2,3,4] mixed ?_;refine A2 5 rfl (dN wu ?_);refine aZ ?_;refine ge 2 ?_;refine ed (.bZ [.sl 15 (lN []),.agg [.v (.int .i64 (bE r'.f)),.v (.int .i64 (eG r'.f))]]) ?_;rw[HS (acc:=acc) (r:=r') (by rw[hinv.2.2.2,uL (by rintro⟨ha,_⟩;exact h3 (ee.2 ha)),List.append_nil]) h3]
  refine kc 3 [5,4,3] 3 ?_;refine oc (ck pK rfl rfl (c7 s r'.p (bE r'.f) (eG r'.f) hs hinv.1) [1] rfl (bj .nil) (an .nil) ?_);refine ko 10 [8,6,5,4,3] 4 ?_;refine' oa (yt:=28) (d:=26) 2 ?a1 ?b1 ?_
  case a1=>
   intro hc hK;refine go 2 ?_;exact hK [_,_] rfl rfl
  case b1=>
   intro _ hK;refine go 2 ?_;exact hK [_,_] rfl
  refine go 2 ?_;refine cj (fun h5=>?_) (fun h5=>?_)
  ·refine kc 0 [5,3] 14 ?_;refine ed (.bZ [.sl 15 (lN acc),.agg [.v (.int .i64 0),.v (.int .i64 0)]]) ?_;rw[yu (acc:=acc) (r:=r') (by rw[hinv.2.2.2,uL (by rintro⟨_,hb⟩;exact hb h5),List.append_nil]) (ee.1 h3)]
  refine kc 3 [5,4,3] 0 ?_;have hne:¬atEnd s r':=(by intro h;rcases h5 with h'|h';(rw[h.1] at h';cases h');exact h' h.2);have hm1:=hinv.2.2.1 (ee.1 h3);have hln:=xT acc;obtain⟨k,nm,ps,k1,n1,s1,l1,a1,k2,n2,s2,l2,a2,a,cs,hX⟩:=dP.case (eF s r').1
  have hlast:lN acc++[[.v (.int .i64 k),.v (.string nm),.sl 1 (strs ps),.v (.int .i64 k1),.v (.int .i64 n1),.v (.string s1),.sl 3 (bF l1),.sl 5 (aH a1),.v (.int .i64 k2),.v (.int .i64 n2),.v (.string s2),.sl 3 (bF l2),.sl 5 (aH a2),.v (.int .i64 a),.sl 6 (gM cs)]]=lN (acc++[dP.mk k nm ps (.mk k1 n1 s1 l1 a1) (.mk k2 n2 s2 l2 a2) a cs]):=(by rw[Dk];rfl);refine gc 2 ?_;refine oc (aN Qc rfl rfl rfl rfl (Ie s hs r' hinv.1) [1] (bj .nil) rfl rfl rfl rfl (an .nil) (fun s ob' hq=>?_) (fun s ob' hq=>?_));rotate_left
  ·first|exact hq.elim|cases hq.1
  obtain⟨hq1,rfl⟩:=hq;rw[hX] at hq1;cases hq1;refine⟨_,_,_,_,_,rfl,rfl,rfl,rfl,rfl,?_⟩;refine go 7 ?_;refine oc (gD Ll [.tmp 35] G4 ?_);refine oc (px Ll ?_);refine go 3 ?_;rw[hlast];refine bk ((m-1,acc++[dP.mk k nm ps (.mk k1 n1 s1 l1 a1) (.mk k2 n2 s2 l2 a2) a cs],(eF s r').2)) rfl ?_ ([0,1,2]) ?_
  ·exact ⟨HQ hinv ⟨ee.1 h3,hne⟩ hX,show m-1<m by omega⟩
  ·exact mz
theorem p5(s:ByteArray):cD Tryz.prog (uG g) 78 [.v (.string s)] (· =.bZ [.sl 15 (lN (fT s).1),.agg [.v (.int .i64 (fT s).2.1),.v (.int .i64 (fT s).2.2)]]):=by
 refine bD Tryz.func78 Tryz.ntmps78 ?_;refine gc 14 ?_;refine cj (fun h1=>?_) (fun h1=>?_)
 ·refine kc 0 [3] 9 ?_;refine ed (.bZ [.sl 15 (lN []),.agg [.v (.int .i64 2),.v (.int .i64 0)]]) ?_;unfold fT;rw[if_pos (by omega)]
 refine kc 2 [3,0] 3 ?_;refine oc (cv Qk rfl rfl (yr s (by omega)) (an .nil) ?_);refine go 7 ?_;refine ed (.bZ [.sl 15 (lN (eZ s).1),.agg [.v (.int .i64 (eZ s).2.1),.v (.int .i64 (eZ s).2.2)]]) ?_;unfold fT;rw[if_neg (by omega)]
end
end Go.Proofs.YtndbnldjidciiaaGreatDoor
