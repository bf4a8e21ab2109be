/-
  What is proved here: lemmas of part 2, for the theorem of the last part.
-/
import Derived.Test.YtndbnldjidciiaaGreatDoorP1
import Derived.Carry
import Derived.Lib.ConvBytes
import Derived.Laws.BytesString
import Derived.Laws.Cells
import Derived.Laws.OwnMore
import Derived.Deep.Upon
import Derived.Test.YtndbnldjidciiaaGreatDoorRows
import Derived.KernelRfl
import Derived.ProofKit
import Derived.LaidMore
import Derived.OpenShut
import Derived.Stop.Joined
import Derived.LaidEql
import Derived.RowKitTokens
set_option linter.unusedSimpArgs false
set_option linter.unusedVariables false
set_option linter.unusedSectionVars false
namespace Go.Vd
open Go Go.RowKit
theorem dq:(∀ (p:Prop) [Decidable p],(decide p=true)=p)∧(∀ (p:Prop) [Decidable p],(decide p=false)= ¬p)∧(∀ b:Bool,((!b)=true)=(b=false))∧(∀ b:Bool,((!b)=false)=(b=true))∧((!true)=false)∧((!false)=true)
 ∧(∀ a b:Int,(¬ a<b)=(b≤a))∧(∀ a b:Int,(¬ a≤b)=(b<a))∧(∀ a b:Bool,((a&&b)=true)=(a=true∧b=true))∧(∀ a b:Bool,((a||b)=true)=(a=true∨b=true))∧(∀ a b:Bool,((a&&b)=false)=(a=false∨b=false))∧(∀ a b:Bool,((a||b)=false)=(a=false∧b=false))
 ∧((false=true)=False)∧((true=false)=False)∧((¬ True)=False)∧((¬ False)=True)∧(∀ [Decidable True],decide True=true)∧(∀ [Decidable False],decide False=false)
 ∧(∀ p:Prop,(True∧p)=p)∧(∀ p:Prop,(p∧True)=p)∧(∀ p:Prop,(False∧p)=False)∧(∀ p:Prop,(p∧False)=False)∧(∀ p:Prop,(True∨p)=True)∧(∀ p:Prop,(p∨True)=True)∧(∀ p:Prop,(False∨p)=p)∧(∀ p:Prop,(p∨False)=p)
 ∧(∀ b:Bool,(true&&b)=b)∧(∀ b:Bool,(false&&b)=false)∧(∀ b:Bool,(b&&true)=b)∧(∀ b:Bool,(b&&false)=false)∧(∀ b:Bool,(true||b)=true)∧(∀ b:Bool,(false||b)=b)∧(∀ b:Bool,(b||true)=true)∧(∀ b:Bool,(b||false)=b)
 ∧(∀ n:Nat,(n:Int).toNat=n)∧(∀ n:Nat,((n:Int)+1).toNat=n+1):=by
 repeat' apply And.intro
 all_goals first
  |rfl
  |(intros;simp;done)
  |(intro a b;exact propext Int.not_lt)
  |(intro a b;exact propext Int.not_le)
  |(intros;omega)
  |(intro a b;cases a<;>cases b<;>simp)
section
variable {P:Program} {GL:Nat→List D} {n0:Nat} {Pn:py}
variable {c2:Code} {Q:Ex→St→Prop} {σ:St}
theorem sr{id:Nat}{l:List Oper}(h:bu P GL n0 Pn l l (Ex.seq (fun σ'=>bq P GL n0 Pn c2 Q σ') Q) σ):bq P GL n0 Pn (.seq (.region id l.toArray false) c2) Q σ:=wB (mr h)
theorem nx{ops:List Oper}(h:bq P GL n0 Pn c2 Q σ):bu P GL n0 Pn ops [] (Ex.seq (fun σ'=>bq P GL n0 Pn c2 Q σ') Q) σ:=vM (wx h)
variable {n:Nat} {sl sl':List (Nat×SV)} {ob:List Ob}
theorem kp(L:List Nat){c:Code}(h:bq P GL n0 Pn c Q ⟨n,sl',ob⟩)(hk:iZ sl L=some sl':=by exact rfl):bq P GL n0 Pn c Q ⟨n,sl,ob⟩:=y7 L hk h
variable {c:Operand} {c1:Code} {b:Bool}
theorem cd(h1:b=true→bq P GL n0 Pn c1 Q σ)(h2:b=false→bq P GL n0 Pn c2 Q σ)(hc:bR GL σ.sl c=some (.d (.v (.bool b))):=by exact rfl):bq P GL n0 Pn (.cond c c1 c2) Q σ:=jX hc h1 h2
theorem vS(h2:b=false→bq P GL n0 Pn c2 Q σ)(h1:b=true→bq P GL n0 Pn c1 Q σ)(hc:bR GL σ.sl c=some (.d (.v (.bool b))):=by exact rfl):bq P GL n0 Pn (.cond c c1 c2) Q σ:=jX hc h1 h2
variable {fuel:Nat} {listed:Array Bool}
theorem OL{l:List Oper}{L:List (Nat×Nat)}(d:Nat)
 (h1:b=true→bJ P GL n0 Pn l fuel listed L Q ⟨n,(d,.d (.v (.bool true)))::sl,ob⟩) (h2:b=false→bJ P GL n0 Pn l fuel listed L Q ⟨n,(d,.d (.v (.bool false)))::sl,ob⟩) (hb:gI d sl=some (.d (.v (.bool b))):=by exact rfl):bJ P GL n0 Pn l fuel listed L Q ⟨n,sl,ob⟩:=zX d hb h1 h2
theorem Fi{l:List Oper}{L:List (Nat×Nat)}(d:Nat)
 (h2:b=false→bJ P GL n0 Pn l fuel listed L Q ⟨n,(d,.d (.v (.bool false)))::sl,ob⟩) (h1:b=true→bJ P GL n0 Pn l fuel listed L Q ⟨n,(d,.d (.v (.bool true)))::sl,ob⟩) (hb:gI d sl=some (.d (.v (.bool b))):=by exact rfl):bJ P GL n0 Pn l fuel listed L Q ⟨n,sl,ob⟩:=zX d hb h1 h2
variable {o:Oper} {t:Nat} {ob':List Ob} {K:St→Prop} {f:FuncId} {args:Array Operand} {ts:Array TypeId} {svs m:List SV}
theorem ck{sl1:List (Nat×SV)}{ob1 obr obn:List Ob}{obc:List Ob}{argsc:List SV}{r r':SV}(hc:ai P f=true)(ho:o.op=.call { callee:=.value (.func f),args:=args,argTypes:=ts })(ha:C1 GL sl args.toList=some svs)(ht:er P GL f obc argsc fun out ob2=>out=.ret r∧ob2=ob')(ix:List Nat)(hra:lQ ix argsc=some m)(hfit:cb ob ix obc ix)(hfa:ia ob svs m)
 (hK:K ⟨n,(t,r')::sl1,obn⟩) (hdst:o.dst=some t:=by exact rfl) (htn:Nat.blt t n=true:=by exact rfl) (hnd:fw ix=true:=by exact rfl) (hno:fT obc=true:=by exact rfl) (hit:oO ix ob=true:=by exact rfl)
 (e1:nS (names ix ob.length (ob'.length-ix.length)) ob'=some obr:=by exact rfl) (e2:re ix ob=some ob1:=by exact rfl) (e3:iL ix ob1 obr=some obn:=by exact rfl) (e4:uv ix sl=some sl1:=by exact rfl) (e5:r.iY (names ix ob.length (ob'.length-ix.length))=some r':=by exact rfl):dh P GL n0 Pn (· ∈ix) o ⟨n,sl,ob⟩ K:=
 aJ hc ho ha hdst htn ht ix hfit hnd hno hit hra hfa (fun s ob2 hq=>by
  obtain⟨h1,rfl⟩:=hq;cases h1;exact⟨_,_,_,_,_,e1,e2,e3,e4,e5,hK⟩) (fun s ob2 hq=>by cases hq.1)
variable {d:D}
theorem cv{argsc:List D}(hc:ai P f=true)(ho:o.op=.call { callee:=.value (.func f),args:=args,argTypes:=ts })(ha:C1 GL sl args.toList=some svs)(ht:cC P GL f argsc (· =d))(hfa:ia ob svs (argsc.map .d))(hK:K ⟨n,(t,.d d)::sl,ob⟩)
 (hdst:o.dst=some t:=by exact rfl) (htn:Nat.blt t n=true:=by exact rfl):dh P GL n0 Pn (fun _=>False) o ⟨n,sl,ob⟩ K:=
 bH hc ho ha hdst htn ht hfa fun d' hd=>by cases hd;exact hK
variable {s:SV} {l:List SV}
theorem an(h:ia ob l m):ia ob (s::l) (s::m):=.cons (.refl s) h
theorem bl(h:ia ob l m)(hd:s.gV=some d:=by exact rfl):ia ob (s::l) (.d d::m):=.cons (.gV hd) h
theorem zI:ia ob [] []:=.nil
variable {k:Nat}
theorem LC(h:ia ob l m):ia ob (.d (.v (.slice none 0 0))::l) (.d (.sl k [])::m):=.cons .Lp h
variable {ρ:List Nat}
theorem cG:cb ob ρ [] []:=.nil
variable {r:List Ob} {i:Nat} {is:List Nat} {lc:List SV} {ty:TypeId}
theorem bh(hr:cb ob ρ r is)(hi:cV i ob=some (.cells l ty):=by exact rfl)(h:lQ ρ lc=some l:=by exact rfl):cb ob ρ (.cells lc ty::r) (i::is):=.cons hi (.cells h (ia.rfl _)) hr
theorem Bd(hf:ia ob l m)(hr:cb ob ρ r is)(hi:cV i ob=some (.cells l ty):=by exact rfl)(h:lQ ρ lc=some m:=by exact rfl):cb ob ρ (.cells lc ty::r) (i::is):=.cons hi (.cells h hf) hr
variable {e:TypeId}
theorem cw(hr:cb ob ρ r is)(hi:cV i ob=some (.row e k):=by exact rfl):cb ob ρ (.row e k::r) (i::is):=.cons hi .row hr
theorem qZ(hr:cb ob ρ r is)(hi:cV i ob=some (.bW e k):=by exact rfl):cb ob ρ (.row e k::r) (i::is):=.cons hi .Pa hr
theorem Il(hr:cb ob ρ r is)(hi:cV i ob=some (.bW e k):=by exact rfl):cb ob ρ (.bW e k::r) (i::is):=.cons hi .Mx hr
theorem xT{ls:List (List D)}{q:Option (Option Nat×Nat)}(hr:cb ob ρ r is)(hi:cV i ob=some (.buf e k ls q):=by exact rfl):cb ob ρ (.buf e k ls q::r) (i::is):=.cons hi .buf hr
theorem Oj(hr:cb ob ρ r is)(hi:cV i ob=some (.bW e k):=by exact rfl):cb ob ρ (.buf e k [] none::r) (i::is):=.cons hi .Nz hr
theorem Rm{o:Ob}(hr:cb ob ρ r is)(hi:cV i ob=some o:=by exact rfl):cb ob ρ (.dead::r) (i::is):=.cons hi .dead hr
theorem dC:ox ob ρ sl []:=.nil
theorem ee{s':SV}{r:List (Nat×SV)}(h:s.iY ρ=some s')(hf:Fit ob (oF t sl) s')(hr:ox ob ρ sl r):ox ob ρ sl ((t,s)::r):=.cons h hf hr
theorem aH{r:List (Nat×SV)}(hr:ox ob ρ sl r)(h:s.iY ρ=some (oF t sl):=by exact rfl):ox ob ρ sl ((t,s)::r):=.cons h (.refl _) hr
theorem mo(hob:cb ob ρ ob' ρ)(hsl:ox ob ρ sl sl')(hp:pre 0 n0 ρ=true:=by exact rfl)(hnd:fw ρ=true:=by exact rfl)(hno:fT ob'=true:=by exact rfl):pz n0 ⟨n,sl,ob⟩ ⟨n,sl',ob'⟩ ρ:=Cq hp hnd hno hob hsl
end
end Go.Vd
namespace Go.Vd
open Go Go.RowKit
section
variable {P:Program} {GL:Nat→List D} {n0:Nat} {Pn:py}
end
end Go.Vd
namespace Go.Vd
open Go Go.RowKit
section
variable {P:Program} {GL:Nat→List D} {o:Oper} {σ:St} {K:SV→List Nat→Prop}
def K8(m n:Int):Int:=IntKind.wrap .u8 (m-n)
theorem LD{T T':TypeId}{x y:Operand}{m n:Int}(ho:o.op=.binOp .sub T x y T')(hx:bR GL σ.sl x=some (.d (.v (.int .u8 m))))(hy:bR GL σ.sl y=some (.d (.v (.int .u8 n))))(hK:K (.d (.v (.int .u8 (K8 m n)))) []):ak P GL o σ K:=
 gT ho hx hy rfl (by simp) (fun w=>by simp only[binOp,Op.intArith,ne_eq,not_true_eq_false,if_false];rfl) hK
end
variable {c:Int}
theorem DL(h:48≤c∧c≤57):K8 c 48=c-48:=by
 unfold K8 IntKind.wrap;simp[IntKind.bits,IntKind.signed];omega
theorem Dx(h:0≤c∧c≤255):IntKind.wrap .i64 c=c:=by
 unfold IntKind.wrap;simp[IntKind.bits,IntKind.signed];omega
end Go.Vd
namespace Go.Vd
open Go Go.RowKit
theorem Fb(s:ByteArray):(s.data.toList.map fun c=>(c.toNat:Int)).foldl (fun r n=>r.push (UInt8.ofNat n.toNat)) ByteArray.empty=s:=by
 have h:∀(l:List UInt8) (r:ByteArray),(l.map fun c=>(c.toNat:Int)).foldl (fun r n=>r.push (UInt8.ofNat n.toNat)) r=⟨⟨r.data.toList++l⟩⟩:=by
  intro l
  induction l with
  |nil=>intro r;simp
  |cons c l ih=>
   intro r;simp only[List.map_cons,List.foldl_cons];rw[ih];simp[ByteArray.push]
 rw[h];rfl
theorem AR{P:Program}{GL:Nat→List D}{o:Oper}{σ:St}{K:SV→List Nat→Prop}{src dst e:TypeId}{x:Operand}{s:ByteArray}{i:Nat}{ls:List (List D)}(hu:P.underlying src=some (.slice e))(he:P.underlying e=some (.int .u8))(hd:P.underlying dst=some .string)(ho:o.op=.convert src dst x)
 (hx:bR GL σ.sl x=some (.own i 1 ls)) (hls:ls=nJ s) (hne:s≠ .empty) (hK:K (.d (.v (.string s))) []):ak P GL o σ K:=fun B g a w hr=>by
 subst hls;obtain⟨ad,cap,h1,hc,hd'⟩:(D.sl 1 (nJ s)).Den g.m (a.eval x):=wK (hr.fj hx);obtain⟨b,off,rfl,hd2⟩:=hd' (Ik hne);have hm:∀(j:Nat) c,s.data.toList[j]? =some c→g.m b (off+j)=some (.int .u8 c.toNat):=fun j c hj=>by
  have hj2:(nJ s)[j]? =some [.v (.int .u8 c.toNat)]:=by simp only[nJ,List.getElem?_map,hj,Option.map_some]
  obtain⟨⟨y,hy,hyd⟩,_⟩:=(hd2.get hj2).2;rw[Nat.mul_one] at hy;rw[hy];exact congrArg some hyd
 refine⟨s.data.toList.zipIdx.map fun p=>(⟨b,off+p.2,none⟩,.int .u8 p.1.toNat),.d (.v (.string s)),.string s,[],fun w' hcw=>?_,fun p hp=>?_,fun p hp=>?_,rfl,hK⟩
 ·have hl:(loadCells ⟨b,off,none⟩ (nJ s).length).run P w'=.ok ((s.data.toList.map fun c=>(c.toNat:Int)).map (Value.int .u8)).toArray w':=by
   have:=run_loadCells_list (P:=P) w' ⟨b,off,none⟩ ((s.data.toList.map fun c=>(c.toNat:Int)).map (Value.int .u8)) (fun j v hj=>by
    rw[fF];simp only[List.getElem?_map] at hj;cases hjc:s.data.toList[j]? with
    |none=>rw[hjc] at hj;cases hj
    |some c=>
     rw[hjc] at hj;simp only[Option.map_some,Option.some.injEq] at hj;subst hj;exact hcw _ (List.mem_map.2 ⟨(c,j),List.mem_zipIdx_iff_getElem?.2 hjc,rfl⟩))
   simpa[nJ] using this
  simp only[execOp,ho,h1,Sem.run_bind,run_convert_bytes_string w' src dst e _ _ _ hu he hd,run_bytesToString w' _ _ _ _ hl,Result.andThen_ok,Fb];rfl
 ·obtain ⟨⟨c,j⟩,hq,rfl⟩:=List.mem_map.1 hp;rw[List.mem_zipIdx_iff_getElem?] at hq;exact(hr.store.sat _ _ _ (hm j c hq)).1
 ·obtain ⟨⟨c,j⟩,hq,rfl⟩:=List.mem_map.1 hp;rw[List.mem_zipIdx_iff_getElem?] at hq;exact⟨rfl,.inl (hm j c hq)⟩
end Go.Vd
namespace Go.Vd
open Go Go.RowKit
end Go.Vd
namespace Go.Vd
open Go Go.RowKit
theorem dH.split{m:Mem}:∀{l r:List D} {vs:List Value},dH m (l++r) vs→dH m l (vs.take l.length)∧dH m r (vs.drop l.length)
 |[],r,vs,h=>by simpa[dH] using h
 |d::l,r,vs,h=>by
  obtain⟨x,l',e,h1,h2⟩:=h;subst e;have ih:=dH.split h2;exact⟨⟨x,_,by simp,h1,ih.1⟩,by simpa using ih.2⟩
theorem Gn{m:Mem}{k:Nat}:∀{ls:List (List D)} {xs:List Value} {r:Nat} {el:List D},(∀ x∈ls,x.length=k)→dH m ls.flatten xs→ls[r]? =some el→dH m el ((xs.drop (r*k)).take k)
 |[],_,r,el,_,_,h=>by simp at h
 |a::ls,xs,0,el,hk,hd,h=>by
  simp at h;subst h;have:=(dH.split (l:=a) (r:=ls.flatten) (by simpa using hd)).1;rw[hk a (by simp)] at this
  simpa using this
 |a::ls,xs,r+1,el,hk,hd,h=>by
  have h2:=(dH.split (l:=a) (r:=ls.flatten) (by simpa using hd)).2;rw[hk a (by simp)] at h2;have:=Gn (fun x hx=>hk x (by simp[hx])) h2 (r:=r) (by simpa using h);rw[List.drop_drop] at this
  rwa [show(r+1)*k=k+r*k by rw[Nat.add_mul];omega]
theorem vj{k:Nat}:∀{ls:List (List D)},(∀ x∈ls,x.length=k)→ls.flatten.length=ls.length*k
 |[],_=>by simp
 |a::ls,h=>by
  simp only[List.flatten_cons,List.length_append,List.length_cons];rw[h a (by simp),vj fun x hx=>h x (by simp[hx]),Nat.add_mul];omega
theorem Gm{m:Mem}{k:Nat}:∀{ls:List (List D)} {xs:List Value} {r:Nat} {ds:List D} {vs:List Value},(∀ x∈ls,x.length=k)→dH m ls.flatten xs→r<ls.length→ds.length=k→dH m ds vs→dH m (ls.set r ds).flatten (xs.take (r*k)++vs++xs.drop (r*k+k))
 |[],_,r,_,_,_,_,h,_,_=>by simp at h
 |a::ls,xs,0,ds,vs,hk,hd,_,hl,hv=>by
  have h2:=(dH.split (l:=a) (r:=ls.flatten) (by simpa using hd)).2;rw[hk a (by simp)] at h2
  simpa using hv.append h2
 |a::ls,xs,r+1,ds,vs,hk,hd,h,hl,hv=>by
  have h1:=dH.split (l:=a) (r:=ls.flatten) (by simpa using hd);rw[hk a (by simp)] at h1;have ih:=Gm (fun x hx=>hk x (by simp[hx])) h1.2 (r:=r) (ds:=ds) (vs:=vs) (by simpa using h) hl hv;have hx:=h1.1.length;have e:xs.take ((r+1)*k)++vs++xs.drop ((r+1)*k+k)=xs.take k++((xs.drop k).take (r*k)++vs++(xs.drop k).drop (r*k+k)):=by
   rw[List.drop_drop,show(r+1)*k+k=k+(r*k+k) by rw[Nat.add_mul];omega,show(r+1)*k=k+r*k by rw[Nat.add_mul];omega,List.take_add];simp only[List.append_assoc]
  rw[List.set_cons_succ,List.flatten_cons,e];exact h1.1.append ih
theorem pR{α:Type}(z:List α):∀(n i:Nat),i<n*z.length→(List.replicate n z).flatten[i]? =z[i%z.length]?
 |0,i,h=>by omega
 |n+1,i,h=>by
  rw[List.replicate_succ,List.flatten_cons,List.getElem?_append];split
  ·rename_i hi;rw[Nat.mod_eq_of_lt hi]
  ·rename_i hi;rw[pR z n _ (by rw[Nat.add_mul] at h;omega)];rw[Nat.mod_eq_sub_mod (by omega:z.length≤i)]
variable {k:Nat}
theorem uo{z:Array Value}(hz:z.size=k)(n:Nat):(madeCells z (n*k)).toList=(List.replicate n z.toList).flatten:=by
 apply List.ext_getElem?;intro i;by_cases hi:i<n*k
 ·have h0:0<k:=Nat.pos_of_ne_zero fun h=>by rw[h,Nat.mul_zero] at hi;omega
  have hm:i%z.size<z.size:=Nat.mod_lt _ (by omega);have hl:z.toList.length=k:=by simp[hz]
  rw[pR _ n i (by rw[hl];exact hi)];simp only[madeCells,Array.toList_map,Array.toList_range,List.getElem?_map,List.getElem?_range hi,Option.map_some,hl];rw[getElem!_pos z _ hm,Array.getElem?_toList,Array.getElem?_eq_getElem (by rw[← hz];exact hm)];simp only[hz]
 ·rw [List.getElem?_eq_none (by rw[Array.length_toList,size_madeCells];omega),List.getElem?_eq_none];rw[List.length_flatten,List.map_replicate,List.sum_replicate_nat];simp only[Array.length_toList,hz];omega
section
variable {P:Program} {GL:Nat→List D} {n0:Nat} {Pn:py} {o:Oper}
variable {σ:St} {T:TypeId} {x:Operand} {m:Nat}
theorem gG{K:SV→List Nat→Prop}{i:Nat}(hu:P.underlying T=some (.slice (bj P T).elem))(ho:o.op=.call { callee:=.builtin .len,args:= #[x],argTypes:= #[T] })
 (hx:bR GL σ.sl x=some (.arr i m)) (hK:K (.d (.v (.int .i64 m))) []):ak P GL o σ K:=ef fun B g a w hr=>by
 obtain⟨b,cap,_,h1⟩:=hr.fj hx;exact⟨.d (.v (.int .i64 m)),.int .i64 m,fun w'=>by simp[execOp,ho,h1,resolve,invoke,builtin,Builtin.len_,run_underlying hu,goInt],rfl,hK⟩
variable {ob:List Ob} {g:Gh} {w:World} {q cap:Nat} {b:Option Nat}
theorem si(hs:cU GL ob g w){e:Nat}{ls:List (List D)}{pq:Option (Option Nat×Nat)}(hi:ob[q]? =some (.buf e k ls pq))(hp:g.gs[q]? =some (.row b cap m)):
 m=ls.length∧(∀ x∈ls,x.length=k)∧(∃ xs,w.ownsRow 0 e k (.slice (b.map fun c=>⟨c,0,none⟩) m cap) m xs∧dH g.m ls.flatten xs∧∀u∈xs,u.oneCell'=true)∧∀c,b=some c→∀o,g.m c o=none:=⟨(hs.gW _ _ _ hi hp).1,(hs.gW _ _ _ hi hp).2.1,(hs.gW _ _ _ hi hp).2.2.1,(hs.gW _ _ _ hi hp).2.2.2.1⟩
theorem Oi(hs:cU GL ob g w){e:Nat}{ls:List (List D)}{r:Option Nat×Nat}(hi:ob[q]? =some (.buf e k ls (some r)))(hp:g.gs[q]? =some (.row b cap m)):r=(b,cap):=(hs.gW _ _ _ hi hp).2.2.2.2 r rfl
variable {e:TypeId} {ti:TI}
theorem dK{pq:Option (Option Nat×Nat)}{K:SV→List Nat→Prop}{i:Operand}{ls:List (List D)}{j:Int}{kd:IntKind}(hu:P.underlying T=some (.slice (bj P T).elem))(hT:bj P (bj P T).elem=ti)(hok:ti.ok=true)(hs:ti.size=k)(ho:o.op=.indexAddr T x i)
 (hx:bR GL σ.sl x=some (.arr q m)) (hi:bR GL σ.sl i=some (.d (.v (.int kd j)))) (hq:cV q σ.ob=some (.buf e k ls pq)) (h01:0≤j∧j<m) (hK:K (.bp q (j.toNat*k)) []):ak P GL o σ K:=ef fun B g a w hr=>by
 obtain⟨h0,h1⟩:=h01;obtain⟨b,cap,hb,hv⟩:=hr.fj hx;obtain⟨hm,_,⟨xs,hown,_⟩,_⟩:=si hr.store (bQ hq) hb;cases b with
 |none=>
  exfalso
  rcases hown.2 with⟨_,h2⟩|⟨g0,c0,cur,h2,_⟩
  ·omega
  ·cases h2
 |some b=>
  have h2:a.eval i=.int kd j:=hr.fj hi;rw[← hT] at hok;obtain⟨inf,d,hi',hd',hs',_⟩:=sP hok;refine⟨.bp q (j.toNat*k),.pointer (some ⟨b,j.toNat*k,none⟩),fun w'=>?_,⟨b,cap,m,hb,rfl⟩,hK⟩;rw[hT,hs] at hs';simp only[Option.map_some] at hv;simp[execOp,ho,hv,h2,Instr.indexAt,run_underlying hu,asIntOf,h0,h1,sizeOf,typeInfo,hi',←hs',fF]
variable {n t off r:Nat} {sl:List (Nat×SV)} {K:St→Prop} {ty:TypeId}
theorem kQ{pq:Option (Option Nat×Nat)}{T:Nat→Prop}{ls:List (List D)}{el:List D}(hT:bj P ty=ti)(hok:ti.ok=true)(hag:ti.agg=true)(ho:o.op=.load ty x)(hd:o.dst=some t)(ht:Nat.blt t n=true)
 (hx:bR GL sl x=some (.bp q off)) (hi:cV q ob=some (.buf e k ls pq)) (hk:ti.size=k) (hoff:off=r*k) (he:ls[r]? =some el) (h:K ⟨n,(t,.d (.agg el))::sl,ob⟩):dh P GL n0 Pn T o ⟨n,sl,ob⟩ K:=
 tn hd ht fun B g a w hr=>by
  subst hT;obtain⟨b,cap,m,hb,hv⟩:=hr.fj hx;obtain⟨hm,hl,⟨xs,hown,hdx,_⟩,_⟩:=si hr.store (bQ hi) hb;have hel:=Gn hl hdx he;have hr0:=(List.getElem?_eq_some_iff.1 he).1;have hlen:((xs.drop (r*k)).take k).length=(bj P ty).size:=by rw[hel.length,hk];exact hl el (List.mem_of_getElem? he)
  have hcell:=(qF (b:=b) hown).2;have hrun:=iD hok (w:=w) (b:=b) (off:=off) hlen (fun j y hj=>by
   rw[List.getElem?_take] at hj;split at hj
   ·rw [List.getElem?_drop] at hj;rw[hoff];exact hcell _ y hj
   ·cases hj) (fun hn=>by rw[hag] at hn;cases hn)
  rw[hag] at hrun;exact⟨.d (.agg el),.agg ⟨(xs.drop (r*k)).take k⟩,by simp only[execOp,ho,hv,Instr.loadAt,Instr.sureAddr,Sem.run_bind,Sem.run_pure,hrun,Result.andThen_ok,if_true],⟨_,rfl,hel⟩,h⟩
variable {ob':List Ob}
theorem fK{pq:Option (Option Nat×Nat)}{y:Operand}{s:SV}{cs:List SV}{ds:List D}{ls:List (List D)}(hT:bj P ty=ti)(hok:ti.ok=true)(ho:o.op=.store ty x y)(hd:o.dst=none)
 (hx:bR GL sl x=some (.bp q off)) (hy:bR GL sl y=some s) (hi:cV q ob=some (.buf e k ls pq)) (hk:ti.size=k) (hc:jN ti.agg s=some cs) (hcd:tQ cs=some ds) (hsz:Nat.beq cs.length ti.size=true) (hone:gN cs=true) (hno:gB q ob=true) (hoff:off=r*k∧r<ls.length)
 (hob:gS q (.buf e k (ls.set r ds) pq) ob=some ob') (h:K ⟨n,sl,ob'⟩):dh P GL n0 Pn (fun j=>j=q) o ⟨n,sl,ob⟩ K:=fun B hB g a w hr next Q hK hP=>by
 subst hT;obtain⟨hoff,hr0⟩:=hoff;obtain⟨b,cap,m,hb,hpx⟩:=hr.fj hx;have hi':=bQ hi;obtain⟨hm,hl,⟨xs,hown,hdx,h1x⟩,hmn⟩:=si hr.store hi' hb;rcases hown.2 with⟨h2,_⟩|⟨b1,cap1,cur,e1,_,hh,hle,hcm,hcs,htk⟩
 ·cases h2
 simp only[Option.map_some,Value.slice.injEq,Option.some.injEq,Addr.mk.injEq] at e1;obtain⟨⟨rfl,_,_⟩,_,rfl⟩:=e1;obtain⟨ti,d,hinf,hdd,hsi,_⟩:=sP hok;have hcd0:=ju hc (hr.fj hy);have hcd1:=bB.gV _ hcd0 hcd;have hcl:=hcd0.length;have hsz':cs.length=(bj P ty).size:=by simpa using hsz
 have hnl:(a.eval y).cells.toList.length=k:=by omega
 have hdl:ds.length=k:=by have:=hcd1.length;omega
 have hin:off+k≤m*k:=by rw[hoff,hm];have:=Nat.mul_le_mul_right k (show r+1≤ls.length by omega);rw[Nat.add_mul] at this;omega
 have hin2:m*k≤cap*k:=Nat.mul_le_mul_right k hle;have hst:=run_storeCells_at (P:=P) b off e (a.eval y).cells.toList 0 cur w hh (by omega) (jH hone hcd0);simp only[Nat.add_zero] at hst;have hrun:(execOp a.eval o).run P w=.ok .skip (w.setRow b (cur.toList.take off++(a.eval y).cells.toList++cur.toList.drop (off+(a.eval y).cells.toList.length)).toArray):=by
  have hsz2:(a.eval y).cells.size=ti.size:=by simpa using(show(a.eval y).cells.toList.length=ti.size by omega)
  simp only[execOp,ho,hpx,Instr.storeAt,Instr.sureAddr,storeVar,sizeOf,typeInfo,Sem.run_bind,Sem.run_pure,Result.andThen_ok,run_program,hinf,hsz2];simp only[ne_eq,not_true_eq_false,if_false];rw[hst];simp
 rw[hnl] at hrun;unfold Oper.wp;rw[hrun];show next (a.put o.dst _) _
 rw[hd];have hcurl:cur.toList.length=cap*k:=by simpa using hcs
 have hxl:=hown.1;have hx1:xs.take off=cur.toList.take off:=by rw[← htk,List.take_take,Nat.min_eq_left (by omega)]
 have hx2:xs.drop (off+k)=(cur.toList.drop (off+k)).take (m*k-(off+k)):=by rw[← htk,List.drop_take]
 have hnew:(w.setRow b (cur.toList.take off++(a.eval y).cells.toList++cur.toList.drop (off+k)).toArray).ownsRow 0 e k (.slice ((some b).map fun c=>⟨c,0,none⟩) m cap) m (xs.take off++(a.eval y).cells.toList++xs.drop (off+k)):=by
  refine⟨?_,.inr ⟨b,cap,_,rfl,Nat.zero_le _,setRow_heap w b _ _ _ _ hh,hle,hcm,?_,?_⟩⟩
  ·simp only[List.length_append,List.length_take,List.length_drop];omega
  ·simp only[List.size_toArray,List.length_append,List.length_take,List.length_drop];omega
  ·rw [hx1,hx2];show List.take (m*k) (cur.toList.take off++(a.eval y).cells.toList++cur.toList.drop (off+k))=_;have hpl:(cur.toList.take off++(a.eval y).cells.toList).length=off+k:=by simp only[List.length_append,List.length_take];omega
   rw[List.take_append,hpl,List.take_of_length_le (by omega)]
 have hset:=eR hob;obtain⟨h1,h2⟩:=hr.K1 (w':=w.setRow b (cur.toList.take off++(a.eval y).cells.toList++cur.toList.drop (off+k)).toArray) (o':=.buf e k (ls.set r ds) pq) hi' hb rfl ⟨rfl,rfl,rfl,by simp,fun c _ hc=>setRow_other w _ _ _ hc⟩
  ⟨by
   rw[List.length_set];exact hm,fun x hx=>by
   rcases List.mem_or_eq_of_mem_set hx with h3|h3
   ·exact hl x h3
   ·rw [h3];exact hdl,⟨_,hnew,by rw[hoff];exact Gm hl hdx hr0 hdl hcd1,fun u hu=>by
   simp only[List.mem_append] at hu;rcases hu with(hu|hu)|hu
   ·exact h1x u (List.mem_of_mem_take hu)
   ·exact jH hone hcd0 u hu
   ·exact h1x u (List.mem_of_mem_drop hu)⟩,hmn,(hr.store.gW _ _ _ hi' hb).2.2.2.2⟩ (.inl rfl) (oP hno) (fun k f dn cur e=>by cases e) (hmn b rfl)
 rw[← hset.1] at h1;exact hK _ _ _ _ h1 h2 h
theorem wL{j:Nat}{T:Nat→Prop}{size bytes:Nat}{c:Nat}(TS:iW P ty e size bytes)(hT:bj P e=ti)(ho:o.op=.makeSlice ty x x)
 (hd:o.dst=some t) (ht:Nat.blt t n=true) (hx:bR GL sl x=some (.d (.v (.int .i64 (c:Nat))))) (hone:ti.zero.all (·.oneCell')=true) (hl:ob.length=j) (hb:bytes*c≤281474976710656∧c≤maxLen) (hob:hZ ob [.buf e size (List.replicate c (ti.zero.map .v)) none]=some ob')
 (h:K ⟨n,(t,.arr j c)::sl,ob'⟩):dh P GL n0 Pn T o ⟨n,sl,ob⟩ K:=fun B hB g a w hr next Q hK hP=>by
 subst hl hT;obtain⟨hb2,hb3⟩:=hb;rw[fh hob] at h;have hinfo:=TS.info;have hzero:=TS.zero;cases hi:P.info? e with
 |none=>simp[hi] at hinfo
 |some i=>
 rw[hi] at hinfo hzero;simp only[Option.map_some,Option.some.injEq,Prod.mk.injEq,Option.bind_some] at hinfo hzero;cases hz:i.zero with
 |none=>simp[hz] at hzero
 |some z=>
 rw[hz] at hzero;simp only[Option.map_some,Option.some.injEq] at hzero;obtain⟨q1,q2⟩:=hinfo;have hze:(bj P e).zero=z.cells.toList:=by simp[bj,hi,hz]
 rw[hze] at h hone;have hxe:a.eval x=.int .i64 (c:Nat):=hr.fj hx;obtain⟨w',hrun,hown,hgr⟩:=run_make_full (P:=P) w 0 ty e i z size TS.under hi hz q1 .i64 .i64 c (by rw[q2];exact hb2) hb3 (Nat.zero_le _);have hbytes:(i.bytes:Int)*(c:Int)≤281474976710656:=by
  have h:((i.bytes*c:Nat):Int)≤281474976710656:=by rw[q2];omega
  rwa [Int.natCast_mul] at h
 have hrun1:=run_make (P:=P) w ty e i z TS.under hi hz .i64 .i64 (c:Int) (c:Int) (by omega) (Int.le_refl _) hbytes (by simp[maxLen] at hb3;omega);simp only[Int.toNat_natCast] at hrun1;rw[hrun1] at hrun;cases hrun;have hrun2:(execOp a.eval o).run P w=.ok (.value (.slice (some ⟨w.heap.size,0,none⟩) c c)) (w.alloc (.cells (madeCells z.cells (c*i.size)) e)):=by
  simp only[execOp,ho,hxe,Sem.run_bind,hrun1,Result.andThen_ok,Sem.run_pure]
 unfold Oper.wp;rw[hrun2];show next (a.put o.dst _) _
 rw[hd];have hm0:∀o,g.m w.heap.size o=none:=fun o=>by
  cases hx:g.m w.heap.size o with
  |none=>rfl
  |some x=>have:=hr.store.ji hx;omega
 have hone2:∀u∈z.cells.toList,u.oneCell'=true:=fun u hu=>List.all_eq_true.1 hone u hu
 have hflat:((List.replicate c (z.cells.toList.map D.v)).flatten)=((List.replicate c z.cells.toList).flatten).map D.v:=by
  rw[List.map_flatten,List.map_replicate]
 have hdv:∀l:List Value,dH g.m (l.map D.v) l:=fun l=>by
  induction l with
  |nil=>rfl
  |cons x r ih=>exact⟨x,r,rfl,rfl,ih⟩
 rw[uo hzero] at hown;obtain⟨h1,h2⟩:=hr.Ax (w':=w.alloc (.cells (madeCells z.cells (c*i.size)) e)) ((Fr.refl _ w).alloc _) (fL.refl _) (fun b o x h1 h2=>by rw[h2] at h1;cases h1) (o':=.buf e size (List.replicate c (z.cells.toList.map .v)) none) (pl:=.row (some w.heap.size) c c)
  ⟨by simp,fun x hx=>by rw[(List.mem_replicate.1 hx).2];simpa using hzero,⟨_,hown,by rw[hflat];exact hdv _,fun u hu=>by
   obtain⟨l,hl,hu⟩:=List.mem_flatten.1 hu;rw[(List.mem_replicate.1 hl).2] at hu;exact hone2 u hu⟩,(fun c hc o=>by cases hc;exact hm0 o),fun r e=>by cases e⟩ (fun b hb=>by simp only[cI,dT,Option.some.injEq] at hb;omega) (fun i f dn cur e=>by cases e)
 refine hK _ _ _ _ (h1.q9 (s:=.arr ob.length c) ht ⟨some w.heap.size,c,?_,rfl⟩) ⟨h2.1,fun i b o _=>h2.2 i b o (fun x=>x)⟩ h;show(g.gs++[_])[ob.length]? =_;have hl2:ob.length=g.gs.length:=hr.store.len;rw[hl2];simp
end
end Go.Vd
namespace Go.Vd
open Go Go.RowKit
section
variable {P:Program} {GL:Nat→List D} {n0:Nat} {Pn:py}
variable {B:Bs} {n i:Nat} {sl sl':List (Nat×SV)} {ob ob1:List Ob} {g:Gh} {a:Act} {w:World}
theorem cD.Gc(h:cD GL B ⟨n,sl,ob⟩ g a w){o:Ob}{pl:Pl}{q:Option (Nat×List (List D))}{ds:List D}(ho:ob[i]? =some o)(hnm:∀f,o≠ .fJ f)(hpl:g.gs[i]? =some pl)
 {m':Mem} (hmle:fL g.m m') (hF:Fz i q ds g ⟨m',g.gs⟩) (hsat:∀c off x,m' c off=some x→w.cell? ⟨c,off,none⟩=some x∧x.oneCell'=true) (hnew:∀c off,g.m c off=none→(cI o pl c→False)→m' c off=none)
 (hsl:rW i q ds sl=some sl') (hob:rX i q ds ob=some ob1):cD GL B ⟨n,sl',ob1.set i .dead⟩ ⟨m',g.gs⟩ a w:=by
 have hget:=tz hob;have hil:=(List.getElem?_eq_some_iff.1 ho).1;have hlen:=h.store.len;have hneb:∀(j:Nat) oj pj c,j≠i→ob[j]? =some oj→g.gs[j]? =some pj→cI oj pj c→cI o pl c→False:=fun j oj pj c hj h1 h2 h3 e=>
  hj (h.store.oq j i oj o pj _ c h1 ho h2 hpl h3 e)
 refine⟨h.defers,h.size,fun t=>tx hF hsl (h.c7 t),?_,?_⟩
 ·refine h.store.step (p:=fun j=>j=i) hmle (fun _ _ h=>h) (fun _ _ _ h=>h) hsat (by simp[hget.1,hlen]) (fun j o1 hj h1=>?_) (fun j k f dn cur h1=>?_) (fun j k f dn cur hj h1 hk=>?_)
   (fun j o1 q c hj h1 h2 h3=>⟨rfl,fun off hn=>?_⟩) (fun j o1 hj h1=>?_) (fun j o1 q c hj h1 h2 h3=>?_) (fun i j oi oj pi pj b hi hj _ _ _ _ _ _=>hi.trans hj.symm)
  ·rw [List.getElem?_set_ne (Ne.symm hj)] at h1;obtain⟨o,e1,e2⟩:=hget.2 j o1 h1;exact⟨o,e1,(Ob.pw hF e2).1⟩
  ·by_cases hj:j=i
   ·subst hj;rw[List.getElem?_set_self (by rw[hget.1];exact hil)] at h1;cases h1
   ·rw [List.getElem?_set_ne (Ne.symm hj)] at h1;obtain⟨o0,e1,e2⟩:=hget.2 j _ h1;have e3:=(Ob.pw hF e2).2.1 _ _ _ _ rfl;subst e3;have e4:=h.store.eC j k f dn cur e1;have hk:k≠i:=fun e=>by subst e;rw[ho] at e4;cases e4;exact hnm f rfl
    rw[List.getElem?_set_ne (Ne.symm hk)];have hkl:=(List.getElem?_eq_some_iff.1 e4).1;obtain⟨o5,e5,e6⟩:=hget.2 k ob1[k] (by simp[hget.1,hkl]);rw[e4] at e5;cases e5;rw[List.getElem?_eq_getElem (by rw[hget.1];exact hkl),(Ob.pw hF e6).2.2 f rfl]
  ·rw [List.getElem?_set_ne (Ne.symm hj)] at h1;obtain⟨o0,e1,e2⟩:=hget.2 j _ h1;have e3:=(Ob.pw hF e2).2.1 _ _ _ _ rfl;subst e3 hk;have e4:=h.store.eC j k f dn cur e1;rw[ho] at e4;cases e4;exact hnm f rfl
  ·exact hnew c off hn (hneb j o1 q c hj h1 h2 h3)
  ·subst hj;rw[List.getElem?_set_self (by rw[hget.1];exact hil)] at h1;cases h1;exact⟨_,hpl,trivial⟩
  ·subst hj;rw[List.getElem?_set_self (by rw[hget.1];exact hil)] at h1;cases h1;cases h3
 ·refine h.fH.step (X:=fun c=>cI o pl c) (Fr.refl _ w) (fun c e=>h.fH.own i _ _ c ho hpl e) hmle (fun c off x hx hn=>?_) (fun j o1 p c h1 h2 h3=>?_) (fun _ _ h=>h)
  ·refine .inl (Classical.byContradiction fun hc=>?_);have:=hnew c off hn hc;simp only at hx;rw[this] at hx;cases hx
  ·by_cases hj:j=i
   ·subst hj;rw[List.getElem?_set_self (by rw[hget.1];exact hil)] at h1;cases h1;cases h3
   ·rw [List.getElem?_set_ne (Ne.symm hj)] at h1;obtain⟨o0,e1,e2⟩:=hget.2 j o1 h1;refine .inl (h.fH.own j o0 p c e1 h2 ?_);cases o0<;>simp only[Ob.fz,Option.bind_eq_some_iff,Option.some.injEq] at e2
    case cells l ty=>obtain⟨l',_,rfl⟩:=e2;cases p<;>exact h3
    all_goals (subst e2;exact h3)
theorem o8{m:Mem}{k b:Nat}:∀{ls:List (List D)} {xs:List Value} {off:Nat},(∀ x∈ls,x.length=k)→dH m ls.flatten xs→(∀ i x,xs[i]? =some x→m b (off+i)=some x)→ew m k b off ls
 |[],_,_,_,_,_=>trivial
 |a::ls,xs,off,hk,hd,hm=>by
  have h1:=dH.split (l:=a) (r:=ls.flatten) (by simpa using hd);have ha:=hk a (by simp);rw[ha] at h1;refine⟨⟨ha,eV.tq h1.1 fun i x hx=>?_⟩,o8 (fun x hx=>hk x (by simp[hx])) h1.2 fun i x hx=>?_⟩
  ·rw [List.getElem?_take] at hx;split at hx
   ·exact hm i x hx
   ·cases hx
  ·rw [List.getElem?_drop] at hx;have:=hm _ x hx
   rwa [show off+k+i=off+(k+i) by omega]
variable {e k:Nat}
theorem cD.LB(h:cD GL B ⟨n,sl,ob⟩ g a w){ls:List (List D)}{pq:Option (Option Nat×Nat)}(ho:ob[i]? =some (.buf e k ls pq))
 (hsl:rW i (some (k,ls)) [] sl=some sl') (hob:rX i (some (k,ls)) [] ob=some ob1):∃g',cD GL B ⟨n,sl',ob1.set i .dead⟩ g' a w:=by
 obtain⟨pl,hpl⟩:=h.store.place ho;have hok:=h.store.gW _ _ _ ho hpl;cases pl with
 |loc b=>exact hok.elim
 |row b c m=>
  obtain⟨hm,hl,⟨xs,hown,hdx,h1x⟩,hmn⟩:=si h.store ho hpl;cases b with
  |none=>
   have hm0:m=0:=by
    rcases hown.2 with⟨_,h2⟩|⟨g0,c0,cur,h2,_⟩
    ·exact h2
    ·cases h2
   have hls:ls=[]:=List.length_eq_zero_iff.1 (by omega);refine⟨⟨g.m,g.gs⟩,h.Gc (q:=some (k,ls)) (ds:=[]) ho (fun f e=>by cases e) hpl (fL.refl _) ⟨fL.refl _,fun _ _ h=>h,fun b hb=>trivial,fun r n y hr hd=>?_⟩ h.store.sat (fun _ _ h _=>h) hsl hob⟩;cases hr;obtain⟨b',cap,hb,e⟩:=hd;rw[hpl] at hb;cases hb;exact⟨none,c,by rw[e,hls,hm0];rfl,by simp[hls],fun h=>absurd hls h⟩
  |some b=>
   have hrow:=qF (b:=b) hown;have hmle:fL g.m (eT g.m b xs):=fL.set fun off x hx=>by rw[hmn b rfl] at hx;cases hx
   refine⟨⟨eT g.m b xs,g.gs⟩,h.Gc (q:=some (k,ls)) (ds:=[]) ho (fun f e=>by cases e) hpl hmle ⟨hmle,fun _ _ h=>h,fun b hb=>trivial,fun r n y hr hd=>?_⟩ (fun c' off x hx=>?_) (fun c' off hn hc=>?_) hsl hob⟩
   ·cases hr;obtain⟨b',cap,hb,e⟩:=hd;rw[hpl] at hb;cases hb;refine⟨some ⟨b,0,none⟩,c,by rw[e,hm];rfl,by rw[← hm];exact hrow.1,fun _=>⟨b,0,rfl,?_⟩⟩;refine o8 hl (dH.mono hmle _ hdx) fun i x hx=>?_
    show eT _ _ _ _ _=_;unfold eT;rw[if_pos rfl,Nat.zero_add];exact hx
   ·simp only[eT] at hx;by_cases hcb:c'=b
    ·subst hcb;rw[if_pos rfl] at hx;exact⟨hrow.2 off x hx,h1x x (List.mem_of_getElem? hx)⟩
    ·rw [if_neg hcb] at hx;exact h.store.sat c' off x hx
   ·unfold eT;rw[if_neg (fun e=>hc (by rw[e];rfl))];exact hn
variable {ops l:List Oper} {Q:Ex→St→Prop}
theorem pY{ob':List Ob}(i:Nat){ls:List (List D)}{pq:Option (Option Nat×Nat)}(ho:cV i ob=some (.buf e k ls pq))(hsl:rW i (some (k,ls)) [] sl=some sl')(hob:rX i (some (k,ls)) [] ob=some ob1)(hob':gS i .dead ob1=some ob')
 (h:bu P GL n0 Pn ops l Q ⟨n,sl',ob'⟩):bu P GL n0 Pn ops l Q ⟨n,sl,ob⟩:=fun B hB a w ⟨g,hr⟩=>by
 obtain⟨g',hr'⟩:=hr.LB (bQ ho) hsl hob;rw[← (eR hob').1] at hr';exact h B hB a w ⟨g',hr'⟩
def Cw(r:Option Nat×Nat)(m:Nat):D:=.v (.slice (r.1.map fun b=>⟨b,0,none⟩) m r.2)
variable {t m:Nat}
theorem cD.QN(h:cD GL B ⟨n,sl,ob⟩ g a w){ls:List (List D)}{pq:Option (Option Nat×Nat)}(ho:ob[i]? =some (.buf e k ls pq))(ht:gI t sl=some (.arr i m))(htn:Nat.blt t n=true):
 ∃r,cD GL B ⟨n,(t,.d (Cw r m))::sl,ob.set i (.buf e k ls (some r))⟩ g a w:=by
 have hd:=h.c7 t;have hv:(SV.arr i m).Den g (a.tmps.getD t undef):=by rw[← ft ht];exact hd
 obtain⟨b,cap,hb,hval⟩:=hv;have hok:=h.store.gW _ _ _ ho hb;have hil:=(List.getElem?_eq_some_iff.1 ho).1;refine⟨(b,cap),h.defers,h.size,fun t'=>?_,?_,?_⟩
 ·rw [eL];split
  ·rename_i e;subst e;exact hval
  ·exact h.c7 t'
 ·refine ⟨by simpa using h.store.len,fun j o p h1 h2=>?_,fun j q f dn cur h1=>?_,fun i1 j1 oi oj pi pj c h1 h2 h3 h4 h5 h6=>?_,h.store.sat,h.store.EH⟩
  ·by_cases hj:j=i
   ·subst hj;rw[List.getElem?_set_self hil] at h1;cases h1;rw[hb] at h2;cases h2;exact⟨hok.1,hok.2.1,hok.2.2.1,hok.2.2.2.1,fun r e=>by cases e;rfl⟩
   ·rw [List.getElem?_set_ne (Ne.symm hj)] at h1;exact h.store.gW j o p h1 h2
  ·have hj:j≠i:=fun e=>by subst e;rw[List.getElem?_set_self hil] at h1;cases h1
   rw[List.getElem?_set_ne (Ne.symm hj)] at h1;have h2:=h.store.eC j q f dn cur h1;have hq:q≠i:=fun e=>by subst e;rw[ho] at h2;cases h2
   rw[List.getElem?_set_ne (Ne.symm hq)];exact h2
  ·have key:∀(j:Nat) o p c,(ob.set i (.buf e k ls (some (b,cap))))[j]? =some o→g.gs[j]? =some p→cI o p c→∃o0,ob[j]? =some o0∧cI o0 p c:=fun j o p c h1 h2 h3=>by
    by_cases hj:j=i
    ·subst hj;rw[List.getElem?_set_self hil] at h1;cases h1;exact⟨_,ho,by cases p<;>exact h3⟩
    ·rw [List.getElem?_set_ne (Ne.symm hj)] at h1;exact⟨o,h1,h3⟩
   obtain⟨o1,a1,a2⟩:=key i1 oi pi c h1 h3 h5;obtain⟨o2,b1,b2⟩:=key j1 oj pj c h2 h4 h6;exact h.store.oq i1 j1 o1 o2 pi pj c a1 b1 h3 h4 a2 b2
 ·refine ⟨h.fH.fr,h.fH.mem,h.fH.new,fun j o p c h1 h2 h3=>?_,h.fH.at'⟩;by_cases hj:j=i
  ·subst hj;rw[List.getElem?_set_self hil] at h1;cases h1;exact h.fH.own j _ p c ho h2 (by cases p<;>exact h3)
  ·rw [List.getElem?_set_ne (Ne.symm hj)] at h1;exact h.fH.own j o p c h1 h2 h3
variable {r:Option Nat×Nat}
theorem cD.Nf(h:cD GL B ⟨n,sl,ob⟩ g a w){ls:List (List D)}(ho:ob[i]? =some (.buf e k ls (some r)))(ht:gI t sl=some (.d (Cw r m)))(hm:m=ls.length):
 cD GL B ⟨n,(t,.arr i m)::sl,ob⟩ g a w:=by
 obtain⟨p,hp⟩:=h.store.place ho;have hok:=h.store.gW _ _ _ ho hp;cases p with
 |loc b=>exact hok.elim
 |row b cap n'=>
  have hr:=Oi h.store ho hp;subst hr;have hn:n'=ls.length:=hok.1;refine⟨h.defers,h.size,fun t'=>?_,h.store,h.fH⟩;rw[eL];split
  ·rename_i e;subst e;have hd:=h.c7 t;have hv:a.tmps.getD t undef=.slice (b.map fun b=>⟨b,0,none⟩) m cap:=by
    have:(SV.d (Cw (b,cap) m)).Den g (a.tmps.getD t undef):=by rw[← ft ht];exact hd
    exact this
   exact⟨b,cap,by rw[hm,←hn];exact hp,hv⟩
  ·exact h.c7 t'
theorem Ca(i t:Nat){ls:List (List D)}{pq:Option (Option Nat×Nat)}(ho:cV i ob=some (.buf e k ls pq))(ht:gI t sl=some (.arr i m))(htn:Nat.blt t n=true)
 (h:∀r ob',gS i (.buf e k ls (some r)) ob=some ob'→bu P GL n0 Pn ops l Q ⟨n,(t,.d (Cw r m))::sl,ob'⟩):bu P GL n0 Pn ops l Q ⟨n,sl,ob⟩:=fun B hB a w ⟨g,hr⟩=>by
 obtain⟨r,hr'⟩:=hr.QN (bQ ho) ht htn;have hil:=(List.getElem?_eq_some_iff.1 (bQ ho)).1;have hset:∀(j:Nat) (y:Ob) (l:List Ob),j<l.length→gS j y l=some (l.set j y):=by
  intro j
  induction j with
  |zero=>intro y l hl;cases l with
   |nil=>simp at hl
   |cons a r=>rfl
  |succ j ih=>intro y l hl;cases l with
   |nil=>simp at hl
   |cons a r=>simp[gS,ih y r (by simpa using hl)]
 exact h r _ (hset i _ ob hil) B hB a w ⟨g,hr'⟩
theorem oL(i t:Nat){ls:List (List D)}(ho:cV i ob=some (.buf e k ls (some r)))(ht:gI t sl=some (.d (Cw r m)))(hm:m=ls.length)
 (h:bu P GL n0 Pn ops l Q ⟨n,(t,.arr i m)::sl,ob⟩):bu P GL n0 Pn ops l Q ⟨n,sl,ob⟩:=fun B hB a w ⟨g,hr⟩=>h B hB a w ⟨g,hr.Nf (bQ ho) ht hm⟩
end
end Go.Vd
namespace Go.Vd
open Go Go.RowKit
section
variable {GL:Nat→List D} {B:Bs} {σ:St} {g:Gh} {a:Act} {w:World}
variable {i n:Nat} {e:TypeId} {sl':List (Nat×SV)} {ob':List Ob}
theorem cD.P9(h:cD GL B σ g a w){w':World}{o:Ob}{b:Option Nat}{cap:Nat}{k:Nat}{ls ls':List (List D)}{pq:Option (Option Nat×Nat)}(ho:σ.ob[i]? =some o)(hor:o=.buf e k ls pq∨o=.bW e k)(hpl:g.gs[i]? =some (.row b cap n))(hf:Fr (fun c=>b=some c∧o=.buf e k ls pq) w w')
 {m':Mem} (hm:fL g.m m') {c cap' n':Nat} (hc:(b=some c∧o=.buf e k ls pq)∨w.heap.size≤c)
 (hnew:∀d off x,m' d off=some x→g.m d off=none→d=c) (hsat:∀off x,m' c off=some x→w'.cell? ⟨c,off,none⟩=some x∧x.oneCell'=true)
 (hold:∀d off x,b=some d→g.m d off=some x→w'.cell? ⟨d,off,none⟩=some x)
 (hok:eQ ⟨m',g.gs.set i (.row (some c) cap' n')⟩ w' (.buf e k ls' none) (.row (some c) cap' n'))
 (hsl:Bb i σ.sl=some sl') (hob:Bc i σ.ob=some ob'):
 cD GL B ⟨σ.n,sl',ob'.set i (.buf e k ls' none)⟩ ⟨m',g.gs.set i (.row (some c) cap' n')⟩ a w'∧tH (fun j=>j=i) σ.ob g w ⟨m',g.gs.set i (.row (some c) cap' n')⟩ w':=by
 have hlen:=h.store.len;have hi:=(List.getElem?_eq_some_iff.1 ho).1;have hob2:=qR hob;have hself:(g.gs.set i (.row (some c) cap' n'))[i]? =some (.row (some c) cap' n'):=List.getElem?_set_self (by omega);have hgs:∀(j:Nat) q,j≠i→g.gs[j]? =some q→(g.gs.set i (.row (some c) cap' n'))[j]? =some q:=fun j q hj hq=>by rw[List.getElem?_set_ne (Ne.symm hj)];exact hq
 have hat:∀(j d:Nat),g.gs[j]? =some (.loc d)→(g.gs.set i (.row (some c) cap' n'))[j]? =some (.loc d):=fun j d hd=>hgs j _ (fun e=>by subst e;rw[hpl] at hd;cases hd) hd
 have hkl:MX (fun j=>Nat.beq j i) g ⟨m',g.gs.set i (.row (some c) cap' n')⟩:=⟨hm,fun j q hq hj=>hgs j q (fun e=>by subst e;simp at hj) hq,hat⟩;have hbr:∀d,b=some d∧o=.buf e k ls pq→cI o (.row b cap n) d:=fun d hd=>by rw[hd.2,hd.1];rfl
 have hne:∀(j:Nat) oj pj d,j≠i→σ.ob[j]? =some oj→g.gs[j]? =some pj→cI oj pj d→¬(b=some d∧o=.buf e k ls pq)∧d≠c:=fun j oj pj d hj h1 h2 h3=>by
  have h4:¬(b=some d∧o=.buf e k ls pq):=fun hd=>hj (h.store.oq j i oj o pj _ d h1 ho h2 hpl h3 (hbr d hd))
  refine⟨h4,fun e=>?_⟩;subst e;rcases hc with hc|hc
  ·exact h4 hc
  ·have:=h.store.lt h1 h2 h3;omega
 refine⟨⟨h.defers,h.size,fun t=>?_,?_,?_⟩,hm,fun j d oj hj h1 h2 h3=>⟨hat j d h2,hf.block d (h.store.lt h1 h2 (eN h3)) (hne j oj _ d hj h1 h2 (eN h3)).1⟩⟩
 ·show (oF t sl').Den _ _;rw[tv hsl];exact SV.Den.kill hkl _ (h.c7 t)
 ·refine h.store.step (p:=fun j=>j=i) hm hat hgs (fun d off x hx=>?_) (by simp[hob2.1,hlen]) (fun j o1 hj h1=>?_) (fun j q f dn cur h1=>?_) (fun j q f dn cur hj h1 hk=>?_)
   (fun j o1 q d hj h1 h2 h3=>⟨hf.block d (h.store.lt h1 h2 h3) (hne j o1 q d hj h1 h2 h3).1,fun off hn=>?_⟩) (fun j o1 hj h1=>?_) (fun j o1 q d hj h1 h2 h3=>?_) (fun i j oi oj pi pj b hi hj _ _ _ _ _ _=>hi.trans hj.symm)
  ·by_cases hdc:d=c
   ·subst hdc;exact hsat off x hx
   ·cases hg:g.m d off with
    |none=>exact absurd (hnew d off x hx hg) hdc
    |some y=>
     have e1:=hm d off y hg;simp only at hx;rw[e1] at hx;cases hx;have hs:=h.store.sat d off x hg;refine⟨?_,hs.2⟩;by_cases hbd:b=some d∧o=.buf e k ls pq
     ·exact hold d off x hbd.1 hg
     ·rw [World.cell?_of_block (w:=w) (hf.block d (h.store.ji hg) hbd)];exact hs.1
  ·rw [List.getElem?_set_ne (Ne.symm hj)] at h1;obtain⟨o2,h2,h3⟩:=hob2.2 j o1 h1;exact⟨o2,h2,iT.kO hkl h3⟩
  ·by_cases hj:j=i
   ·subst hj;rw[List.getElem?_set_self (by rw[hob2.1];exact hi)] at h1;cases h1
   ·rw [List.getElem?_set_ne (Ne.symm hj)] at h1;obtain⟨o2,h2,h3⟩:=hob2.2 j _ h1;have h4:o2=.jJ q f dn cur:=by
     cases o2<;>simp only[Ob.kO,Option.bind_eq_some_iff,Option.some.injEq] at h3
     case cells=>obtain⟨_,_,h3⟩:=h3;cases h3
     all_goals (cases h3;try rfl)
    subst h4;have h5:=h.store.eC j q f dn cur h2;have hq:q≠i:=fun e=>by subst e;rw[ho] at h5;cases h5;rcases hor with hor|hor<;>cases hor
    rw[List.getElem?_set_ne (Ne.symm hq)];have h6:q<ob'.length:=by rw[hob2.1];exact(List.getElem?_eq_some_iff.1 h5).1
    obtain⟨o3,h7,h8⟩:=hob2.2 q ob'[q] (by simp[h6]);rw[h5] at h7;cases h7;simp[Ob.kO] at h8;rw[List.getElem?_eq_getElem h6,←h8]
  ·rw [List.getElem?_set_ne (Ne.symm hj)] at h1;obtain⟨o2,h2,h3⟩:=hob2.2 j _ h1;have h4:o2=.jJ q f dn cur:=by
    cases o2<;>simp only[Ob.kO,Option.bind_eq_some_iff,Option.some.injEq] at h3
    case cells=>obtain⟨_,_,h3⟩:=h3;cases h3
    all_goals (cases h3;try rfl)
   have hk:q=i:=hk;subst h4 hk;have h5:=h.store.eC j _ f dn cur h2;rw[ho] at h5;cases h5;rcases hor with hor|hor<;>cases hor
  ·cases hx:m' d off with
   |none=>exact hx
   |some x=>exact absurd (hnew d off x hx hn) (hne j o1 q d hj h1 h2 h3).2
  ·subst hj;rw[List.getElem?_set_self (by rw[hob2.1];exact hi)] at h1;cases h1;exact⟨_,hself,hok⟩
  ·subst hj;rw[List.getElem?_set_self (by rw[hob2.1];exact hi)] at h1;cases h1;simp only at h2;rw[hself] at h2;cases h2;simp only[cI,dT,Option.some.injEq] at h3;subst h3;rcases hc with hc|hc
   ·exact .inl ⟨_,o,_,rfl,ho,hpl,hbr _ hc⟩
   ·exact .inr hc
 ·have hX:∀d,b=some d∧o=.buf e k ls pq→B.X d∨B.w.heap.size≤d:=fun d hd=>h.fH.own i o _ d ho hpl (hbr d hd)
  refine h.fH.step hf hX hm (fun d off x hx hn=>by
   have:=hnew d off x hx hn;subst this;exact hc) (fun j o1 p d h1 h2 h3=>?_) hat
  by_cases hj:j=i
  ·subst hj;rw[List.getElem?_set_self (by rw[hob2.1];exact hi)] at h1;cases h1;simp only at h2;rw[hself] at h2;cases h2;simp only[cI,dT,Option.some.injEq] at h3;subst h3;rcases hc with hc|hc
   ·exact .inl (hX _ hc)
   ·exact .inr hc
  ·rw [List.getElem?_set_ne (Ne.symm hj)] at h1;simp only at h2;rw[List.getElem?_set_ne (Ne.symm hj)] at h2;obtain⟨o2,h4,h5⟩:=hob2.2 j o1 h1;refine .inl (h.fH.own j o2 p d h4 h2 ?_);rcases(iT.kO hkl h5).b0 h3 (fun _ _=>trivial) with h6|⟨e',k',rfl⟩
   ·exact h6
   ·simp [Ob.kO] at h5;subst h5;simp[cI,dT] at h3
end
section
variable {P:Program} {GL:Nat→List D} {n0:Nat} {Pn:py}
theorem uO{m:Mem}{k b:Nat}:∀{news:List (List D)} {off:Nat},ew m k b off news→∃nv,nv.length=news.length*k∧dH m news.flatten nv∧(∀ i x,nv[i]? =some x→m b (off+i)=some x)∧∀e∈news,e.length=k
 |[],off,_=>⟨[],by simp,rfl,by simp,by simp⟩
 |e::r,off,⟨⟨h0,h1⟩,h2⟩=>by
  obtain⟨vs,hv,hc⟩:=h1.GO;obtain⟨nv,h3,h4,h5,h6⟩:=uO h2;have hl:=hv.length;refine⟨vs++nv,by simp[h3,hl,h0,Nat.add_mul];omega,by simpa using hv.append h4,fun i x hx=>?_,fun a ha=>by
   rcases List.mem_cons.1 ha with rfl|ha
   ·exact h0
   ·exact h6 a ha⟩
  rw[List.getElem?_append] at hx;split at hx
  ·exact hc i x hx
  ·have:=h5 _ x hx
   rwa [show off+k+(i-vs.length)=off+i by omega] at this
variable {o:Oper} {n t i m size bytes:Nat} {sl sl':List (Nat×SV)} {ob ob1 ob':List Ob} {K:St→Prop} {ty e:TypeId} {s x:Operand} {sx:SV}
theorem wQ{ls news:List (List D)}{pq:Option (Option Nat×Nat)}{or:Ob}(TS:iW P ty e size bytes)(ho:o.op=.call { callee:=.builtin .append,args:= #[s,x],argTypes:= #[ty,ty] })
 (hd:o.dst=some t) (ht:Nat.blt t n=true) (hs:(bR GL sl s=some (.arr i m)∧or=.buf e size ls pq)∨(bR GL sl s=some (.d (.v (.slice none 0 0)))∧ls=[]∧or=.bW e size)) (hi:cV i ob=some or) (hx:bR GL sl x=some sx) (hxD:sx.gV=some (.sl size news))
 (hsz:0<size) (hne:news≠[]) (h63:ls.length+news.length≤maxLen∧(ls.length+news.length)*bytes≤140737488355328) (hsl:Bb i sl=some sl') (hob:Bc i ob=some ob1) (hob':gS i (.buf e size (ls++news) none) ob1=some ob')
 (h:K ⟨n,(t,.arr i (ls++news).length)::sl',ob'⟩):dh P GL n0 Pn (fun j=>j=i) o ⟨n,sl,ob⟩ K:=fun B hB g a w hr next Q hK hP=>by
 have hi':=bQ hi;rw[(eR hob').1] at h;have hrow:∃b cap xs,g.gs[i]? =some (.row b cap ls.length)∧a.eval s=.slice (b.map fun b=>⟨b,0,none⟩) ls.length cap∧w.ownsRow 0 e size (a.eval s) ls.length xs∧dH g.m ls.flatten xs∧(∀ u∈xs,u.oneCell'=true)∧(∀ c,b=some c→∀o,g.m c o=none)∧(∀ x∈ls,x.length=size):=by
  rcases hs with⟨hs,rfl⟩|⟨hs,rfl,rfl⟩
  ·obtain ⟨b,cap,h1,h2⟩:=hr.fj hs;obtain⟨hm,hl,⟨xs,hown,hdx,h1x⟩,hmn⟩:=si hr.store hi' h1;subst hm;exact⟨b,cap,xs,h1,h2,by rw[h2];exact hown,hdx,h1x,hmn,hl⟩
  ·have hv:a.eval s=.slice none 0 0:=hr.fj hs;obtain⟨p,hp⟩:=hr.store.place hi';have hok:=hr.store.gW _ _ _ hi' hp;simp only[eQ] at hok;subst hok;exact⟨none,0,[],hp,hv,by rw[hv];exact⟨by simp,.inl ⟨rfl,rfl⟩⟩,rfl,(by simp),(fun c hc=>by cases hc),(by simp)⟩
 obtain⟨b,cap,xs,hpl,hval,hown,hdx,h1x,hmn,hll⟩:=hrow;obtain⟨ax,capx,hvx,hlx,hdx0⟩:=SV.Den.gV _ (hr.fj hx) hxD;obtain⟨bx,offx,rfl,hdx2⟩:=hdx0 hne;obtain⟨nv,hnl,hnd,hnv,hnk⟩:=uO hdx2;have hm:0<news.length:=List.length_pos_iff.2 hne;have hncell:∀j u,nv[j]? =some u→w.cell? ((⟨bx,offx,none⟩:Addr).add j)=some u:=fun j u hu=>by
  rw[fF];exact(hr.store.sat _ _ _ (hnv j u hu)).1
 have hnone:∀u∈nv,u.oneCell'=true:=fun u hu=>by
  obtain⟨j,hj⟩:=List.getElem?_of_mem hu;exact(hr.store.sat _ _ _ (hnv j u hj)).2
 obtain⟨v',w',hrun,hrow',hfr0,k,hk1,hk2,hk3,c',rfl⟩:=FN (P:=P) (ty:=o.type) TS hsz hown (a:=⟨bx,offx,none⟩) (c:=capx) hnl hm hncell hnone h63.1 h63.2;have hrun2:(execOp a.eval o).run P w=.ok (.value (.slice (some ⟨k,0,none⟩) (ls.length+news.length) c')) w':=by
  unfold execOp;simp only[ho,resolve,invoke,builtin,Sem.run_bind,Sem.run_pure,Result.andThen_ok,List.map_toArray,List.map_cons,List.map_nil,hvx,hrun]
 unfold Oper.wp;rw[hrun2];show next (a.put o.dst _) _
 rw[hd];have hob2:(a.eval s).ownBlock=b:=by rw[hval];cases b<;>rfl
 rw[hob2] at hk2;have hnk0:∀off,g.m k off=none:=fun off=>by
  rcases hk2 with h5|h5
  ·exact hmn k h5 off
  ·cases hx:g.m k off with
   |none=>rfl
   |some y=>have:=hr.store.ji hx;omega
 have hbo:∀d,b=some d→or=.buf e size ls pq:=fun d hd=>by
  rcases hs with⟨_,h6⟩|⟨_,_,rfl⟩
  ·exact h6
  ·have hok:=hr.store.gW _ _ _ hi' hpl;simp only[eQ,Pl.row.injEq] at hok;rw[hok.1] at hd;cases hd
 have hor:or=.buf e size ls pq∨or=.bW e size:=by
  rcases hs with⟨_,h6⟩|⟨_,_,h6⟩
  ·exact .inl h6
  ·exact .inr h6
 have hfr2:Fr (fun c=>b=some c∧or=.buf e size ls pq) w w':=hfr0.mono fun c _ hc=>by
  have h8:b=some c:=by rw[← hob2];exact hc.1
  exact⟨h8,hbo c h8⟩
 have hcor:(b=some k∧or=.buf e size ls pq)∨w.heap.size≤k:=by
  rcases hk2 with h5|h5
  ·exact .inl ⟨h5,hbo k h5⟩
  ·exact .inr (by omega)
 obtain⟨h1,h2⟩:=hr.P9 (w':=w') (m':=g.m) (cap':=c') (n':=ls.length+news.length) (ls':=ls++news) hi' hor hpl hfr2 (fL.refl _) hcor (fun d off y h1 h2=>by rw[h2] at h1;cases h1) (fun off y hy=>by rw[hnk0] at hy;cases hy) (fun d off y hd hy=>by rw[hmn d hd] at hy;cases hy)
  ⟨by simp,fun y hy=>by
   rcases List.mem_append.1 hy with hy|hy
   ·exact hll y hy
   ·exact hnk y hy,⟨xs++nv,hrow',by rw[List.flatten_append];exact hdx.append hnd,fun u hu=>by
   rcases List.mem_append.1 hu with hu|hu
   ·exact h1x u hu
   ·exact hnone u hu⟩,(fun c hc off=>by cases hc;exact hnk0 off),fun r e=>by cases e⟩ hsl hob
 refine hK _ _ _ _ (h1.q9 (s:=.arr i (ls++news).length) ht ⟨some k,c',?_,by rw[List.length_append];rfl⟩) h2 h;show(g.gs.set i _)[i]? =_;rw[List.getElem?_set_self (List.getElem?_eq_some_iff.1 hpl).1,List.length_append]
theorem nG{ls news:List (List D)}{pq:Option (Option Nat×Nat)}(TS:iW P ty e size bytes)(ho:o.op=.call { callee:=.builtin .append,args:= #[s,x],argTypes:= #[ty,ty] })
 (hd:o.dst=some t) (ht:Nat.blt t n=true) (hs:bR GL sl s=some (.arr i m)) (hi:cV i ob=some (.buf e size ls pq)) (hx:bR GL sl x=some sx) (hxD:sx.gV=some (.sl size news))
 (hsz:0<size) (hne:news≠[]) (h63:ls.length+news.length≤maxLen∧(ls.length+news.length)*bytes≤140737488355328) (hsl:Bb i sl=some sl') (hob:Bc i ob=some ob1) (hob':gS i (.buf e size (ls++news) none) ob1=some ob')
 (h:K ⟨n,(t,.arr i (ls++news).length)::sl',ob'⟩):dh P GL n0 Pn (fun j=>j=i) o ⟨n,sl,ob⟩ K:=wQ TS ho hd ht (.inl ⟨hs,rfl⟩) hi hx hxD hsz hne h63 hsl hob hob' h
end
end Go.Vd
namespace Go.Vd
open Go Go.RowKit
variable {cap:Nat}
theorem Bu{m:Mem}{k:Nat}{ls:List (List D)}{ad:Option Addr}(l h:Nat)(hlh:l≤h)(hh:h≤ls.length)(hcap:ls.length≤cap)(hden:ls≠[]→∃b off,ad=some ⟨b,off,none⟩∧ew m k b off ls):
 (D.sl k ((ls.drop l).take (h-l))).Den m (.slice (if cap=l then ad else ad.map (·.add (l*k))) (h-l) (cap-l)):=by
 have hlen:((ls.drop l).take (h-l)).length=h-l:=by rw[List.length_take,List.length_drop];omega
 refine⟨_,cap-l,by rw[hlen],by omega,fun hne=>?_⟩;have hl:l<h:=by
  rcases Nat.lt_or_ge l h with h1|h1
  ·exact h1
  ·exact absurd (List.eq_nil_of_length_eq_zero (by omega)) hne
 obtain⟨b,off,rfl,hd⟩:=hden (by intro e;rw[e] at hh;simp at hh;omega);rw[if_neg (by omega)];refine⟨b,off+l*k,by rw[Option.map_some,fF],(hd.drop _).take _⟩
section
variable {P:Program} {GL:Nat→List D} {o:Oper} {σ:St} {K:SV→List Nat→Prop} {T:TypeId} {x lo hi:Operand} {k:Nat} {ls ls':List (List D)} {l h:Int} {k1 k2:IntKind} {s:SV} {ti:TI}
theorem jE(hu:P.underlying T=some (.slice (bj P T).elem))(hT:bj P (bj P T).elem=ti)(hok:ti.ok=true)(hs:ti.size=k)
 (ho:o.op=.slice T x (some lo) none none) (hx:bR GL σ.sl x=some s) (hxD:s.gV=some (.sl k ls)) (hl:bR GL σ.sl lo=some (.d (.v (.int k1 l)))) (hb:0≤l∧l≤ls.length)
 (hls:ls.drop l.toNat=ls') (hK:K (.d (.sl k ls')) []):ak P GL o σ K:=ef fun B g a w hr=>by
 obtain⟨ad,cap,e1,hcap,hden⟩:=SV.Den.gV _ (hr.fj hx) hxD;have e2:a.eval lo=.int k1 l:=hr.fj hl;rw[← hT] at hok hs;obtain⟨inf,d,hi',hd',hs',_⟩:=sP hok;rw[hs] at hs';have hp:=Bu l.toNat ls.length (by omega) (Nat.le_refl _) hcap hden;rw[List.take_of_length_le (by rw[List.length_drop];omega),hls] at hp;refine⟨.d (.sl k ls'),_,fun w'=>?_,hp,hK⟩;have h3:=jk (P:=P) (kd:=k1) (i:=l) (y:=ls.length) (c:=.sliceB) (by omega) (by omega) w';simp only[execOp,ho,e1,e2,Option.map_some,Option.map_none,Sem.run_bind];simp[Instr.sliceAt,Instr.slice,run_underlying hu,Instr.sliceBounds,h3,sizeOf,typeInfo,hi',←hs']
theorem fC(hu:P.underlying T=some (.slice (bj P T).elem))(hT:bj P (bj P T).elem=ti)(hok:ti.ok=true)(hs:ti.size=k)
 (ho:o.op=.slice T x none (some hi) none) (hx:bR GL σ.sl x=some s) (hxD:s.gV=some (.sl k ls)) (hh:bR GL σ.sl hi=some (.d (.v (.int k2 h)))) (hb:0≤h∧h≤ls.length)
 (hls:ls.take h.toNat=ls') (hK:K (.d (.sl k ls')) []):ak P GL o σ K:=ef fun B g a w hr=>by
 obtain⟨ad,cap,e1,hcap,hden⟩:=SV.Den.gV _ (hr.fj hx) hxD;have e3:a.eval hi=.int k2 h:=hr.fj hh;rw[← hT] at hok hs;obtain⟨inf,d,hi',hd',hs',_⟩:=sP hok;rw[hs] at hs';have hp:=Bu 0 h.toNat (by omega) (by omega) hcap hden;rw[List.drop_zero,Nat.sub_zero,Nat.zero_mul,hls] at hp;refine⟨.d (.sl k ls'),_,fun w'=>?_,hp,hK⟩;have h2:=jk (P:=P) (kd:=k2) (i:=h) (y:=cap) (c:=.sliceAcap) (by omega) (by omega) w';simp only[execOp,ho,e1,e3,Option.map_some,Option.map_none,Sem.run_bind];simp[Instr.sliceAt,Instr.slice,run_underlying hu,Instr.sliceBounds,h2,sizeOf,typeInfo,hi',←hs']
variable {w:World} {ty e:TypeId} {size bytes n:Nat}
theorem IY{ty':TypeId}{base a:Option Addr}{cap':Nat}(TS:iW P ty e size bytes)(hle:n≤cap):(Builtin.append_ #[ty,ty] ty' #[.slice base n cap,.slice a 0 cap']).run P w=.ok (.slice base n cap) w:=by
 obtain⟨i,hi,hi2⟩:=Option.map_eq_some_iff.1 TS.info;refine run_append_nothing w ty ty ty' e i TS.under hi base n cap hle _ ?_;cases a with
 |none=>exact Src.ofNil w TS.under cap'
 |some a=>exact Src.ofSlice w TS.under a 0 cap' [] (by simp) (by simp) (by simp)
end
variable {n i:Nat} {sl sl':List (Nat×SV)} {ob ob1:List Ob} {w:World} {e:TypeId}
theorem cD.QD{P:Program}{GL:Nat→List D}{B:Bs}{g:Gh}{a:Act}(h:cD GL B ⟨n,sl,ob⟩ g a w){o:Ob}{k:Nat}(ho:ob[i]? =some o)(hor:o=.row e k∨o=.bW e k)
 (hsl:Bb i sl=some sl') (hob:Bc i ob=some ob1):cD GL B ⟨n,sl',ob1.set i (.row e k)⟩ g a w:=by
 have hkl:MX (fun j=>Nat.beq j i) g g:=⟨fL.refl _,fun _ _ h _=>h,fun _ _ h=>h⟩;have hob2:=qR hob;have hi:=(List.getElem?_eq_some_iff.1 ho).1;have hlen:=h.store.len;have hself:(ob1.set i (.row e k))[i]? =some (.row e k):=List.getElem?_set_self (by omega);have hrow:∀p,g.gs[i]? =some p→iT g g o (.row e k):=fun p hp=>by rcases hor with rfl|rfl<;>exact⟨rfl,rfl⟩
 have hle:∀(j:Nat) o',(ob1.set i (.row e k))[j]? =some o'→∃o,ob[j]? =some o∧iT g g o o':=fun j o' hj=>by
  by_cases hji:j=i
  ·subst hji;rw[hself] at hj;cases hj;obtain⟨p,hp⟩:=h.store.place ho;exact⟨o,ho,hrow p hp⟩
  ·rw [List.getElem?_set_ne (Ne.symm hji)] at hj;obtain⟨o2,h2,h3⟩:=hob2.2 j o' hj;exact⟨o2,h2,iT.kO hkl h3⟩
 refine⟨h.defers,h.size,fun t=>?_,?_,?_⟩
 ·show (oF t sl').Den _ _;rw[tv hsl];exact SV.Den.kill hkl _ (h.c7 t)
 ·refine h.store.step (p:=fun _=>False) (fL.refl _) (fun _ _ h=>h) (fun _ _ _ h=>h) h.store.sat (by rw[List.length_set,hob2.1];exact hlen) (fun j o' _ hj=>hle j o' hj) (fun j q f dn cur h1=>?_) (fun _ _ _ _ _ _ _ h=>h)
   (fun _ _ _ _ _ _ _ _=>⟨rfl,fun _ h=>h⟩) (fun _ _ h=>h.elim) (fun _ _ _ _ h=>h.elim) (fun _ _ _ _ _ _ _ h=>h.elim)
  by_cases hj:j=i
  ·subst hj;rw[hself] at h1;cases h1
  ·rw [List.getElem?_set_ne (Ne.symm hj)] at h1;obtain⟨o2,h2,h3⟩:=hob2.2 j _ h1;have h4:o2=.jJ q f dn cur:=by
    cases o2<;>simp only[Ob.kO,Option.bind_eq_some_iff,Option.some.injEq] at h3
    case cells=>obtain⟨_,_,h3⟩:=h3;cases h3
    all_goals (cases h3;try rfl)
   subst h4;have h5:=h.store.eC j q f dn cur h2;have hq:q≠i:=fun e=>by subst e;rw[ho] at h5;cases h5;rcases hor with hor|hor<;>cases hor
   rw[List.getElem?_set_ne (Ne.symm hq)];have h6:q<ob1.length:=by rw[hob2.1];exact(List.getElem?_eq_some_iff.1 h5).1
   obtain⟨o3,h7,h8⟩:=hob2.2 q ob1[q] (by simp[h6]);rw[h5] at h7;cases h7;simp[Ob.kO] at h8;rw[List.getElem?_eq_getElem h6,←h8]
 ·refine ⟨h.fH.fr,h.fH.mem,h.fH.new,fun j o' p b h1 h2 h3=>?_,h.fH.at'⟩;obtain⟨o2,h4,h5⟩:=hle j o' h1;rcases h5.b0 h3 (fun _ _=>trivial) with h6|⟨e2,k2,rfl⟩
  ·exact h.fH.own j o2 p b h4 h2 h6
  ·have hok:=h.store.gW j _ p h4 h2;simp only[eQ] at hok;subst hok;cases o'<;>first|exact False.elim h5|(simp[cI,dT] at h3)
variable {n0 t size bytes:Nat} {Pn:py} {ob':List Ob} {ty:TypeId} {sx:SV}
theorem gf{P:Program}{GL:Nat→List D}{o:Oper}{K:St→Prop}{s x:Operand}{ls news:List (List D)}{or:Ob}(TS:iW P ty e size bytes)(ho:o.op=.call { callee:=.builtin .append,args:= #[s,x],argTypes:= #[ty,ty] })
 (hd:o.dst=some t) (ht:Nat.blt t n=true) (hs:bR GL sl s=some (.own i size ls)∨(bR GL sl s=some (.d (.v (.slice none 0 0)))∧ls=[]∧or=.bW e size)) (hx:bR GL sl x=some sx) (hxD:sx.gV=some (.sl size news)) (hi:cV i ob=some or) (hor:or=.row e size∨or=.bW e size)
 (hsz:0<size) (h63:ls.length+news.length≤maxLen∧(ls.length+news.length)*bytes≤140737488355328) (hsl:Bb i sl=some sl') (hob:Bc i ob=some ob1) (hob':gS i (.row e size) ob1=some ob')
 (h:K ⟨n,(t,.own i size (ls++news))::sl',ob'⟩):dh P GL n0 Pn (fun j=>j=i) o ⟨n,sl,ob⟩ K:=by
 by_cases hne:news=[]
 ·subst hne;rw[List.append_nil] at h;intro B hB g a w hr next Q hK hP
  have hi':=bQ hi;have hval:∃b cap,g.gs[i]? =some (.row b cap ls.length)∧a.eval s=.slice (b.map fun b=>⟨b,0,none⟩) ls.length cap∧ls.length≤cap∧(ls≠[]→∃c,b=some c∧ew g.m size c 0 ls):=by
   rcases hs with hs|⟨hs,rfl,rfl⟩
   ·obtain ⟨b,cap,h1,h2,h3,h4⟩:=hr.fj hs;exact⟨b,cap,h1,h2,h3,h4⟩
   ·have hv:a.eval s=.slice none 0 0:=hr.fj hs;obtain⟨p,hp⟩:=hr.store.place hi';have hok:=hr.store.gW _ _ _ hi' hp;simp only[eQ] at hok;subst hok;exact⟨none,0,hp,hv,Nat.le_refl _,fun h=>absurd rfl h⟩
  obtain⟨b,cap,hpl,hv,hc,hden⟩:=hval;obtain⟨ax,capx,hvx,_,_⟩:=SV.Den.gV _ (hr.fj hx) hxD;have hrun:(execOp a.eval o).run P w=.ok (.value (.slice (b.map fun b=>⟨b,0,none⟩) ls.length cap)) w:=by
   unfold execOp;simp only[ho,resolve,invoke,builtin,Sem.run_bind,Sem.run_pure,Result.andThen_ok,List.map_toArray,List.map_cons,List.map_nil,hv,hvx,List.length_nil,IY TS hc]
  unfold Oper.wp;rw[hrun];show next (a.put o.dst _) _
  rw[hd];have h1:=hr.QD (P:=P) hi' hor hsl hob;rw[(eR hob').1] at h;exact hK _ _ _ _ (h1.q9 (s:=.own i size ls) ht ⟨b,cap,hpl,rfl,hc,hden⟩) (tH.refl _ _ _ _) h
 ·exact oN TS ho hd ht hs hi hor (fun B g a w hr=>SV.Den.gV _ (hr.fj hx) hxD) hsz hne h63.1 h63.2 hsl hob hob' h
theorem iI{P:Program}{GL:Nat→List D}{o:Oper}{k:Nat}{ob2:List Ob}{K:St→Prop}{s x:Operand}{news:List (List D)}(TS:iW P ty e size bytes)(ho:o.op=.call { callee:=.builtin .append,args:= #[s,x],argTypes:= #[ty,ty] })
 (hd:o.dst=some t) (ht:Nat.blt t n=true) (hs:bR GL sl s=some (.d (.v (.slice none 0 0)))) (hx:bR GL sl x=some sx) (hxD:sx.gV=some (.sl size news)) (hl:ob.length=k) (hob0:hZ ob [.bW e size]=some ob1) (hi:cV k ob1=some (.bW e size))
 (hsz:0<size) (h63:news.length≤maxLen∧news.length*bytes≤140737488355328) (hsl:Bb k sl=some sl') (hob:Bc k ob1=some ob2) (hob':gS k (.row e size) ob2=some ob')
 (h:K ⟨n,(t,.own k size news)::sl',ob'⟩) {T:Nat→Prop}:dh P GL n0 Pn T o ⟨n,sl,ob⟩ K:=
 zj (T':=fun j=>j=k) e size hob0 (fun i hi hx=>by omega) (gf (ls:=[]) TS ho hd ht (.inr ⟨hs,rfl,rfl⟩) hx hxD hi (.inr rfl) hsz (by simpa using h63) hsl hob hob' h)
end Go.Vd
namespace Go.Vd
open Go Go.RowKit
section
variable {P:Program} {GL:Nat→List D} {n0:Nat} {Pn:py}
variable {o:Oper} {n t:Nat} {sl:List (Nat×SV)} {ob:List Ob} {K:St→Prop}
theorem tp{i m e k:Nat}{sl':List (Nat×SV)}{ob1 ob':List Ob}{T:TypeId}{x hi:Operand}{ls:List (List D)}{pq:Option (Option Nat×Nat)}{h:Int}{k2:IntKind}{ti:TI}(hu:P.underlying T=some (.slice (bj P T).elem))(hT:bj P (bj P T).elem=ti)(hok:ti.ok=true)(hs:ti.size=k)
 (ho:o.op=.slice T x none (some hi) none) (hd:o.dst=some t) (ht:Nat.blt t n=true) (hx:bR GL sl x=some (.arr i m)) (hh:bR GL sl hi=some (.d (.v (.int k2 h)))) (hi':cV i ob=some (.buf e k ls pq)) (hb:0≤h∧h≤m) (hne:0<m)
 (hsl:Bb i sl=some sl') (hob:Bc i ob=some ob1) (hob':gS i (.buf e k (ls.take h.toNat) none) ob1=some ob')
 (hK0:K ⟨n,(t,.arr i h.toNat)::sl',ob'⟩):dh P GL n0 Pn (fun j=>j=i) o ⟨n,sl,ob⟩ K:=fun B hB g a w hr next Q hK hP=>by
 have hi2:=bQ hi';rw[(eR hob').1] at hK0;obtain⟨b,cap,hpl,hv⟩:=hr.fj hx;obtain⟨hm,hl,⟨xs,hown,hdx,h1x⟩,hmn⟩:=si hr.store hi2 hpl;have hown0:=hown;rcases hown.2 with⟨h2,h3⟩|⟨b1,cap1,cur,e1,hb0,hhp,hle,hcm,hcs,htk⟩
 ·omega
 cases b with
 |none=>simp at e1
 |some b=>
 simp only[Option.map_some,Value.slice.injEq,Option.some.injEq,Addr.mk.injEq] at e1;obtain⟨⟨rfl,_,_⟩,_,rfl⟩:=e1;simp only[Option.map_some] at hv;have e3:a.eval hi=.int k2 h:=hr.fj hh;rw[← hT] at hok hs;obtain⟨inf,d,hinf,hdd,hs',_⟩:=sP hok;rw[hs] at hs';have h2:=jk (P:=P) (kd:=k2) (i:=h) (y:=cap) (c:=.sliceAcap) (by omega) (by omega) w;have hrun:(execOp a.eval o).run P w=.ok (.value (.slice (some ⟨b,0,none⟩) h.toNat cap)) w:=by
  simp only[execOp,ho,hv,e3,Option.map_some,Option.map_none,Sem.run_bind];have hc0:¬cap=0:=by omega
  simp[Instr.sliceAt,Instr.slice,run_underlying hu,Instr.sliceBounds,h2,sizeOf,typeInfo,hinf,←hs',hc0,fF]
 unfold Oper.wp;rw[hrun];show next (a.put o.dst _) _
 rw[hd];have hth:(ls.take h.toNat).length=h.toNat:=by rw[List.length_take];omega
 have hdt:dH g.m (ls.take h.toNat).flatten (xs.take (h.toNat*k)):=by
  have h5:ls.flatten=(ls.take h.toNat).flatten++(ls.drop h.toNat).flatten:=by rw[← List.flatten_append,List.take_append_drop]
  have h6:=vj (k:=k) (ls:=ls.take h.toNat) fun x hx=>hl x (List.mem_of_mem_take hx)
  rw[hth] at h6;rw[h5] at hdx;have h7:=(dH.split hdx).1;rw[h6] at h7;exact h7
 have hmk:h.toNat*k≤m*k:=Nat.mul_le_mul_right k (by omega);obtain⟨h1,h2⟩:=hr.P9 (w':=w) (m':=g.m) (c:=b) (cap':=cap) (n':=h.toNat) (ls':=ls.take h.toNat) hi2 (.inl rfl) hpl (Fr.refl _ _) (fL.refl _) (.inl ⟨rfl,rfl⟩) (fun d off y h1 h2=>by rw[h2] at h1;cases h1) (fun off y hy=>hr.store.sat _ _ _ hy) (fun d off y hd hy=>(hr.store.sat _ _ _ hy).1)
  ⟨hth.symm,fun y hy=>hl y (List.mem_of_mem_take hy),⟨xs.take (h.toNat*k),⟨by rw[List.length_take,hown0.1];omega,.inr ⟨b,cap,cur,rfl,hb0,hhp,by omega,hcm,hcs,by rw[← htk,List.take_take,Nat.min_eq_left hmk]⟩⟩,hdt,fun u hu=>h1x u (List.mem_of_mem_take hu)⟩,fun c hc off=>by cases hc;exact hmn b rfl off,fun r e=>by cases e⟩ hsl hob
 refine hK _ _ _ _ (h1.q9 (s:=.arr i h.toNat) ht ⟨some b,cap,?_,rfl⟩) h2 hK0;show(g.gs.set i _)[i]? =_;rw[List.getElem?_set_self (List.getElem?_eq_some_iff.1 hpl).1]
theorem pZ{T:Nat→Prop}(hd:o.dst=some t)(ht:Nat.blt t n=true)(h:ak P GL o ⟨n,sl,ob⟩ fun s _=>K ⟨n,(t,s)::sl,ob⟩):dh P GL n0 Pn T o ⟨n,sl,ob⟩ K:=
 tn hd ht fun B g a w hr=>by
  obtain⟨Hc,s,y,L,h1,h2,_,h4,h5⟩:=h B g a w hr;exact⟨s,y,h1 w h2,h4,h5⟩
end
end Go.Vd
namespace Go.Vd
open Go Go.RowKit
section
variable {P:Program} {GL:Nat→List D} {n0:Nat} {Pn:py}
variable {o:Oper} {n t k:Nat} {sl:List (Nat×SV)} {ob ob':List Ob} {K:St→Prop} {T:Nat→Prop} {ty:TypeId}
theorem Cc(ho:o.op=.makeMap ty none)(hd:o.dst=some t)(ht:Nat.blt t n=true)(hl:ob.length=k)(hob:hZ ob [.cY fun _=>none]=some ob')
 (h:K ⟨n,(t,.map k)::sl,ob'⟩):dh P GL n0 Pn T o ⟨n,sl,ob⟩ K:=fun B hB g a w hr next Q hK hP=>by
 subst hl;rw[fh hob] at h;have hrun:(execOp a.eval o).run P w=.ok (.value (.map (some w.heap.size))) (w.alloc (.map #[] 0)):=by
  simp only[execOp,ho,Option.map_none,Sem.run_bind,Sem.run_pure,run_makeMap,Result.andThen_ok]
 have hmn:∀o,g.m w.heap.size o=none:=fun o=>by
  cases hx:g.m w.heap.size o with
  |none=>rfl
  |some x=>have:=hr.store.ji hx;omega
 obtain⟨h1,h2⟩:=hr.Ax ((Fr.refl _ w).alloc (.map #[] 0)) (fL.refl _) (fun b o x h1 h2=>by rw[h2] at h1;cases h1) (o':=.cY fun _=>none) (pl:=.loc w.heap.size) ⟨⟨_,nu.made w,fun s=>rfl⟩,hmn⟩ (fun b hb=>by simp only[cI,dT,Option.some.injEq] at hb;omega) (fun i f dn cur e=>by cases e);unfold Oper.wp;rw[hrun];show next (a.put o.dst _) _
 rw[hd];exact hK _ _ _ _ (h1.q9 (s:=.map ob.length) ht ⟨w.heap.size,by rw[hr.store.len];simp,rfl⟩) ⟨h2.1,fun i b o _=>h2.2 i b o (fun x=>x)⟩ h
variable {e:TypeId} {x y:Operand} {i:Nat} {f:ByteArray→Option D} {s:ByteArray}
theorem wM{k:TypeId}(hm:Fy P ty k e)(ho:o.op=.lookup ty x y false)(hd:o.dst=some t)(ht:Nat.blt t n=true)
 (hx:bR GL sl x=some (.map i)) (hy:bR GL sl y=some (.d (.v (.string s)))) (hi:cV i ob=some (.cY f)) (h:K ⟨n,(t,.d ((f s).getD (.v (.pointer none))))::sl,ob⟩):dh P GL n0 Pn T o ⟨n,sl,ob⟩ K:=
 tn hd ht fun B g a w hr=>by
  obtain⟨b,hb,hbe⟩:=hr.fj hx;have hye:a.eval y=.string s:=hr.fj hy;obtain⟨⟨M,hmap,hden⟩,_⟩:=hr.store.gW _ _ _ (bQ hi) hb;have hrun:=hmap.lookup hm.under hm.key hm.zero s;refine⟨_,(M s).getD (.pointer none),by simp only[execOp,ho,hbe,hye,Sem.run_bind,hrun,Result.andThen_ok,Sem.run_pure],?_,h⟩;have h1:=hden s;show D.Den g.m _ _;cases hf:f s with
  |none=>rw[hf] at h1;simp only at h1;rw[h1];rfl
  |some d=>
   rw[hf] at h1;obtain⟨v,h2,h3⟩:=h1;rw[h2];exact h3
def sJ(f:ByteArray→Option D)(s:ByteArray)(d:D):ByteArray→Option D:=fun t=>if t=s then some d else f t
theorem rP{k:TypeId}{z:Operand}{d:D}(hm:Fy P ty k e)(ho:o.op=.mapUpdate ty x y z)(hd:o.dst=none)
 (hx:bR GL sl x=some (.map i)) (hy:bR GL sl y=some (.d (.v (.string s)))) (hz:bR GL sl z=some (.d d)) (hi:cV i ob=some (.cY f)) (hno:gB i ob=true) (hob:gS i (.cY (sJ f s d)) ob=some ob') (h:K ⟨n,sl,ob'⟩):dh P GL n0 Pn (fun j=>j=i) o ⟨n,sl,ob⟩ K:=fun B hB g a w hr next Q hK hP=>by
 obtain⟨b,hb,hbe⟩:=hr.fj hx;have hye:a.eval y=.string s:=hr.fj hy;have hze:d.Den g.m (a.eval z):=hr.fj hz;obtain⟨⟨M,hmap,hden⟩,hmn⟩:=hr.store.gW _ _ _ (bQ hi) hb;obtain⟨w',hrun,hm',hfr⟩:=hmap.update hm.under hm.key s (a.eval z);have hrun2:(execOp a.eval o).run P w=.ok .skip w':=by simp only[execOp,ho,hbe,hye,Sem.run_bind,hrun,Result.andThen_ok,Sem.run_pure]
 unfold Oper.wp;rw[hrun2];show next (a.put o.dst _) _
 rw[hd];have hden':xZ g.m (sJ f s d) (IB M s (a.eval z)):=fun t=>by
  unfold sJ IB;by_cases ht:t=s
  ·rw [if_pos ht,if_pos ht];exact⟨_,rfl,hze⟩
  ·rw [if_neg ht,if_neg ht];exact hden t
 obtain⟨h1,h2⟩:=hr.K1 (o':=.cY (sJ f s d)) (bQ hi) hb rfl hfr ⟨⟨_,hm',hden'⟩,hmn⟩ (.inl rfl) (oP hno) (fun k f dn cur h=>by cases h) hmn;rw[← (eR hob).1] at h1;exact hK _ _ _ _ h1 h2 h
theorem Aw{sl':List (Nat×SV)}{ob1 ob2:List Ob}{s:SV}{ti:TI}{cs:List SV}{ds:List D}(hT:bj P ty=ti)(ho:o.op=.box ty x)(hd:o.dst=some t)(ht:Nat.blt t n=true)(hx:bR GL sl x=some s)(hm:jN ti.agg s=some cs)(hl:ob.length=k)
 (hcs:tQ cs=some ds) (hone:gN cs=true) (hob:hZ ob [.cells cs ty]=some ob1) (hsl:rW k none ds ((t,.b0 k 0)::sl)=some sl') (hob2:rX k none ds ob1=some ob2) (hob3:gS k .dead ob2=some ob') (h:K ⟨n,sl',ob'⟩):dh P GL n0 Pn T o ⟨n,sl,ob⟩ K:=fun B hB g a w hr next Q hK hP=>by
 subst hT hl;have hrun:(execOp a.eval o).run P w=.ok (.value (.pointer (some ⟨w.heap.size,0,none⟩))) (w.alloc (.cells ⟨(a.eval x).cells.toList⟩ ty)):=by
  simp[execOp,ho,Instr.box,newVar,newRow]
 unfold Oper.wp;rw[hrun];show next (a.put o.dst _) _
 rw[hd];obtain⟨h1,h2⟩:=p5 (ty:=ty) hr (cs:=cs) (vs:=(a.eval x).cells.toList) (ju hm (hr.fj hx));have h3:=h1.q9 (s:=.b0 ob.length 0) ht (AX hr.store.len);rw[fh hob] at hob2;obtain⟨m',h4,h5⟩:=h3.CO (i:=ob.length) (cs:=cs) (ty:=ty) (by simp) hcs hone hsl hob2;rw[← (eR hob3).1] at h5;exact hK _ _ _ _ h5 ⟨h2.1.trans h4,fun i b o _=>h2.2 i b o (fun x=>x)⟩ h
end
end Go.Vd
namespace Go.Vd
open Go Go.RowKit
structure pH where
 gW:List Ob
 iG:List Pl
def pH.own(x:pH)(b:Nat):Prop:= ∃(i:Nat) (o:Ob) (p:Pl),x.gW[i]? =some o∧x.iG[i]? =some p∧cI o p b
structure pH.ok (x:pH) (m:Mem) (w:World):Prop where
 len:x.gW.length=x.iG.length
 no:fT x.gW=true
 gW:∀(i:Nat) o p,x.gW[i]? =some o→x.iG[i]? =some p→eQ ⟨m,x.iG⟩ w o p
 oq:∀(i j:Nat) oi oj pi pj b,x.gW[i]? =some oi→x.gW[j]? =some oj→x.iG[i]? =some pi→x.iG[j]? =some pj→cI oi pi b→cI oj pj b→i=j
theorem pH.ok.lt{x:pH}{m:Mem}{w:World}(h:x.ok m w){b:Nat}(hb:x.own b):b<w.heap.size:=by
 obtain⟨i,o,p,h1,h2,h3⟩:=hb;exact(h.gW i o p h1 h2).lt h3
theorem pH.ok.qa{x:pH}{m m':Mem}{w w':World}(hm:fL m m')(hb:∀b,x.own b→w'.heap[b]? =w.heap[b]?)(hn:∀b,x.own b→∀i,m b i=none→m' b i=none)(h:x.ok m w):x.ok m' w':=
 ⟨h.len,h.no,fun i o p ho hp=>eQ.qa (g:=⟨m,x.iG⟩) (g':=⟨m',x.iG⟩) (iT.refl (g:=⟨m,x.iG⟩) (g':=⟨m',x.iG⟩) ⟨hm,fun _ _ h=>h⟩ o) (fun _ _ h=>h) (fun b hb'=>by
  rcases hb' with hb'|⟨i',f,dn,cur,rfl,_⟩
  ·exact hb b ⟨i,o,p,ho,hp,hb'⟩
  ·exact absurd ho (eZ h.no i i' f dn cur)) (fun b hb'=>hn b ⟨i,o,p,ho,hp,hb'⟩) (h.gW i o p ho hp),h.oq⟩
variable {g:Gh} {w:World}
theorem pH.Ci{GL:Nat→List D}{gW:List Ob}(h:cU GL gW g w)(hno:fT gW=true):(pH.mk gW g.gs).ok g.m w:=
 ⟨h.len,hno,fun i o p h1 h2=>h.gW i o p h1 h2,h.oq⟩
def dF(l:List pH):Ob:=.iF (fun b=> ∃x,x∈l∧x.own b) (fun m w=>(∀ x,x∈l→x.ok m w)∧∀(i j:Nat) x y b,l[i]? =some x→l[j]? =some y→x.own b→y.own b→i=j)
variable {l:List pH} {p:Pl}
theorem eA{b:Nat}:cI (dF l) p b↔ ∃x,x∈l∧x.own b:=G6
theorem zc(h:eQ g w (dF l) p):(∀ x,x∈l→x.ok g.m w)∧∀(i j:Nat) x y b,l[i]? =some x→l[j]? =some y→x.own b→y.own b→i=j:=by
 unfold dF at h;cases p<;>exact h.1
theorem wE(h1:∀x,x∈l→x.ok g.m w)(h2:∀(i j:Nat) x y b,l[i]? =some x→l[j]? =some y→x.own b→y.own b→i=j):eQ g w (dF l) p:=by
 have h3:((∀ x,x∈l→x.ok g.m w)∧∀(i j:Nat) x y b,l[i]? =some x→l[j]? =some y→x.own b→y.own b→i=j)∧(∀ b,(∃ x,x∈l∧x.own b)→b<w.heap.size)∧∀m m' (w w':World),fL m m'→(∀ b,(∃ x,x∈l∧x.own b)→w'.heap[b]? =w.heap[b]?)→(∀ b,(∃ x,x∈l∧x.own b)→∀i,m b i=none→m' b i=none)→((∀ x,x∈l→x.ok m w)∧∀(i j:Nat) x y b,l[i]? =some x→l[j]? =some y→x.own b→y.own b→i=j)→((∀ x,x∈l→x.ok m' w')∧∀(i j:Nat) x y b,l[i]? =some x→l[j]? =some y→x.own b→y.own b→i=j):=
  ⟨⟨h1,h2⟩,fun b ⟨x,hx,hb⟩=>(h1 x hx).lt hb,fun m m' w w' hm hb hn h=>⟨fun x hx=>pH.ok.qa hm (fun b hb'=>hb b ⟨x,hx,hb'⟩) (fun b hb'=>hn b ⟨x,hx,hb'⟩) (h.1 x hx),h.2⟩⟩
 unfold dF;cases p<;>exact h3
section
variable {P:Program} {GL:Nat→List D} {n0:Nat} {Pn:py}
variable {Q:Ex→St→Prop} {n:Nat} {sl:List (Nat×SV)} {ob:List Ob}
theorem DY{c:Code}{ob':List Ob}(hob:hZ ob [dF []]=some ob')(h:bq P GL n0 Pn c Q ⟨n,sl,ob'⟩):bq P GL n0 Pn c Q ⟨n,sl,ob⟩:=fun B hB a w ⟨g,hr⟩=>by
 rw[fh hob] at h;obtain⟨h1,_⟩:=hr.Ax (w':=w) (Fr.refl _ w) (fL.refl _) (fun b o x h1 h2=>by rw[h2] at h1;cases h1) (o':=dF []) (pl:=.row none 0 0) (wE (fun x hx=>by cases hx) (fun i j x y b hi=>by simp at hi)) (fun b hb=>by
  obtain⟨x,hx,_⟩:=eA.1 hb;cases hx) (fun i f dn cur e=>by cases e)
 exact h B hB a w ⟨_,h1⟩
def zP:List Nat→List Ob→Option (List Ob)
 |[],l=>some l
 |i::ix,l=>(gS i .dead l).bind fun l'=>zP ix l'
theorem zN:∀{ix:List Nat} {l l':List Ob},zP ix l=some l'→l'.length=l.length∧(∀ j,j∈ix→l'[j]? =some .dead)∧∀j,j∉ix→l'[j]? =l[j]?
 |[],l,l',h=>by simp[zP] at h;subst h;simp
 |i::ix,l,l',h=>by
  simp only[zP,Option.bind_eq_some_iff] at h;obtain⟨l1,h1,h2⟩:=h;obtain⟨e1,e2⟩:=eR h1;obtain⟨a1,a2,a3⟩:=zN h2;subst e1;refine⟨by rw[a1,List.length_set],fun j hj=>?_,fun j hj=>?_⟩
  ·by_cases hji:j∈ix
   ·exact a2 j hji
   ·rcases List.mem_cons.1 hj with rfl|h3
    ·rw [a3 j hji,List.getElem?_set_self e2]
    ·exact absurd h3 hji
  ·have h3:j≠i∧j∉ix:=⟨fun e=>hj (e▸List.mem_cons_self),fun e=>hj (List.mem_cons_of_mem _ e)⟩;rw[a3 j h3.2,List.getElem?_set_ne (Ne.symm h3.1)]
variable {ob1:List Ob} {pi:Nat} {eC:List pH} {ix:List Nat}
theorem cD.Ji{B:Bs}{a:Act}(hr:cD GL B ⟨n,sl,ob⟩ g a w){obc:List Ob}(hp:cV pi ob=some (dF eC))(hfit:cb ob ix obc ix)(hnd:ix.Nodup)(hno:fT obc=true)(hno2:fT ob=true)(hpi:pi∉ix)(hob:zP ix ob=some ob1):
 cD GL B ⟨n,sl,ob1.set pi (dF (eC++[⟨obc,ix.map fun i=>g.gs.getD i (.loc 0)⟩]))⟩ g a w:=by
 have hsub:=hr.store.sub hfit hnd (fun j i f dn cur hj=>absurd hj (eZ hno j i f dn cur));have hp':=bQ hp;have hpil:=(List.getElem?_eq_some_iff.1 hp').1;obtain⟨d1,d2,d3⟩:=zN hob;obtain⟨ppl,hppl⟩:=hr.store.place hp';have hpool:=zc (hr.store.gW _ _ _ hp' hppl);have hit:=pH.Ci hsub.1 hno;generalize hpls:(ix.map fun i=>g.gs.getD i (.loc 0))=iG at hsub hit ⊢;have hnew:∀b,(pH.mk obc iG).own b→∃(i:Nat) (o:Ob) (p:Pl),i∈ix∧ob[i]? =some o∧g.gs[i]? =some p∧cI o p b:=fun b ⟨i,o,p,h1,h2,h3⟩=>by
  obtain⟨i',k,o',p',e1,e2,e3,e4⟩:=hsub.2.2 b ⟨i,o,p,h1,h2,h3⟩;exact⟨i',o',p',List.mem_of_getElem? e1,e2,e3,e4⟩
 have hold:∀x∈eC,∀b,x.own b→¬(pH.mk obc iG).own b:=fun x hx b hb hb2=>by
  obtain⟨i,o,p,h1,h2,h3,h4⟩:=hnew b hb2;have:=hr.store.oq pi i _ o ppl p b hp' h2 hppl h3 (eA.2 ⟨x,hx,hb⟩) h4;subst this;exact hpi h1
 have hlen:=hr.store.len;have hself:(ob1.set pi (dF (eC++[⟨obc,iG⟩])))[pi]? =some (dF (eC++[⟨obc,iG⟩])):=List.getElem?_set_self (by rw[d1];exact hpil);have hother:∀j,j≠pi→j∉ix→(ob1.set pi (dF (eC++[⟨obc,iG⟩])))[j]? =ob[j]? :=fun j h1 h2=>by rw[List.getElem?_set_ne (Ne.symm h1),d3 j h2]
 have hdead:∀j,j∈ix→(ob1.set pi (dF (eC++[⟨obc,iG⟩])))[j]? =some .dead:=fun j h1=>by
  have h2:pi≠j:=fun e=>hpi (by rw[e];exact h1)
  rw[List.getElem?_set_ne h2,d2 j h1]
 have hpoolok:eQ g w (dF (eC++[⟨obc,iG⟩])) ppl:=by
  refine wE (fun x hx=>?_) fun i j x y b hi hj hxb hyb=>?_
  ·rcases List.mem_append.1 hx with hx|hx
   ·exact hpool.1 x hx
   ·simp only[List.mem_singleton] at hx;subst hx;exact hit
  ·rw [List.getElem?_append] at hi hj;have hlast:∀(k:Nat) z,¬k<eC.length→[pH.mk obc iG][k-eC.length]? =some z→k=eC.length∧z=⟨obc,iG⟩:=fun k z h1 h2=>by
    have h3:=(List.getElem?_eq_some_iff.1 h2).1;simp only[List.length_singleton] at h3;have h4:k-eC.length=0:=by omega
    rw[h4] at h2;simp at h2;exact⟨by omega,h2.symm⟩
   split at hi
   ·split at hj
    ·exact hpool.2 i j x y b hi hj hxb hyb
    ·rename_i h6;obtain⟨_,rfl⟩:=hlast _ _ h6 hj;exact absurd hyb (hold x (List.mem_of_getElem? hi) b hxb)
   ·rename_i h5;obtain⟨h7,rfl⟩:=hlast _ _ h5 hi;split at hj
    ·exact absurd hxb (hold y (List.mem_of_getElem? hj) b hyb)
    ·rename_i h6;obtain⟨h8,_⟩:=hlast _ _ h6 hj;omega
 refine⟨hr.defers,hr.size,hr.c7,?_,?_⟩
 ·refine hr.store.step (p:=fun j=>j=pi∨j∈ix) (fL.refl _) (fun _ _ h=>h) (fun _ _ _ h=>h) hr.store.sat (by show(ob1.set pi _).length=_;rw[List.length_set,d1];exact hlen) (fun j o1 hj h1=>?_) (fun j k f dn cur h1=>?_) (fun j k f dn cur hj h1=>?_)
   (fun j o1 q c hj h1 h2 h3=>⟨rfl,fun _ h=>h⟩) (fun j o1 hj h1=>?_) (fun j o1 q c hj h1 h2 h3=>?_) (fun i j oi oj qi qj b hi hj h1 h2 h3 h4 h5 h6=>?_)
  ·simp only[not_or] at hj;have h2:(ob1.set pi (dF (eC++[⟨obc,iG⟩])))[j]? =some o1:=h1;rw[hother j hj.1 hj.2] at h2;exact⟨o1,h2,iT.refl (KV.refl g) o1⟩
  ·by_cases h9:j=pi
   ·subst h9;rw[hself] at h1;cases h1
   ·by_cases h8:j∈ix
    ·rw [hdead j h8] at h1;cases h1
    ·rw [hother j h9 h8] at h1;exact absurd h1 (eZ hno2 j k f dn cur)
  ·simp only[not_or] at hj;have h2:(ob1.set pi (dF (eC++[⟨obc,iG⟩])))[j]? =some (.jJ k f dn cur):=h1;rw[hother j hj.1 hj.2] at h2;exact absurd h2 (eZ hno2 j k f dn cur)
  ·have h2:(ob1.set pi (dF (eC++[⟨obc,iG⟩])))[j]? =some o1:=h1;rcases hj with rfl|hj
   ·rw [hself] at h2;cases h2;exact⟨ppl,hppl,hpoolok⟩
   ·rw [hdead j hj] at h2;cases h2;obtain⟨k,hk,e⟩:=List.mem_iff_getElem.1 hj;obtain⟨i',o,a1,a2,_⟩:=hfit.get.2 k (obc[k]'(by rw[hfit.get.1];exact hk)) (by simp[hfit.get.1,hk]);rw[List.getElem?_eq_getElem hk,e] at a1;cases a1;obtain⟨q,hq⟩:=hr.store.place a2;exact⟨q,hq,by cases q<;>trivial⟩
  ·have h4:(ob1.set pi (dF (eC++[⟨obc,iG⟩])))[j]? =some o1:=h1;rcases hj with rfl|hj
   ·rw [hself] at h4;cases h4;obtain⟨x,hx,hb⟩:=eA.1 h3;rcases List.mem_append.1 hx with hx|hx
    ·exact .inl ⟨j,_,q,.inl rfl,hp',h2,eA.2 ⟨x,hx,hb⟩⟩
    ·simp only[List.mem_singleton] at hx;subst hx;obtain⟨i,o,p,e1,e2,e3,e4⟩:=hnew c hb;exact .inl ⟨i,o,p,.inr e1,e2,e3,e4⟩
   ·rw [hdead j hj] at h4;cases h4;cases q<;>exact absurd h3 (by simp[cI,dT])
  ·have h7:(ob1.set pi (dF (eC++[⟨obc,iG⟩])))[i]? =some oi:=h1;have h8:(ob1.set pi (dF (eC++[⟨obc,iG⟩])))[j]? =some oj:=h2;rcases hi with rfl|hi
   ·rcases hj with rfl|hj
    ·rfl
    ·rw [hdead j hj] at h8;cases h8;cases qj<;>exact absurd h6 (by simp[cI,dT])
   ·rw [hdead i hi] at h7;cases h7;cases qi<;>exact absurd h5 (by simp[cI,dT])
 ·refine ⟨hr.fH.fr,hr.fH.mem,hr.fH.new,fun j o1 q c h1 h2 h3=>?_,hr.fH.at'⟩;have h4:(ob1.set pi (dF (eC++[⟨obc,iG⟩])))[j]? =some o1:=h1;by_cases h9:j=pi
  ·subst h9;rw[hself] at h4;cases h4;obtain⟨x,hx,hb⟩:=eA.1 h3;rcases List.mem_append.1 hx with hx|hx
   ·exact hr.fH.own j _ q c hp' h2 (eA.2 ⟨x,hx,hb⟩)
   ·simp only[List.mem_singleton] at hx;subst hx;obtain⟨i,o,p,e1,e2,e3,e4⟩:=hnew c hb;exact hr.fH.own i o p c e2 e3 e4
  ·by_cases h8:j∈ix
   ·rw [hdead j h8] at h4;cases h4;cases q<;>exact absurd h3 (by simp[cI,dT])
   ·rw [hother j h9 h8] at h4;exact hr.fH.own j o1 q c h4 h2 h3
variable {t:Nat} {obF:pH→List Ob}
theorem FU{ops l:List Oper}{i1 i2 k1 k2:Nat}(obc:List Ob)(hp:cV pi ob=some (dF eC))(hfit:cb ob ix obc ix)(hnd:fw ix=true)(hno:fT obc=true)(hno2:fT ob=true)(hpi:(ix.contains pi)=false)(hob:zP ix ob=some ob1)(hobF:∀x,gS pi (dF (eC++[x])) ob1=some (obF x))
 (hsl:oF t sl=.agg [.b0 i1 0,.b0 i2 0]) (hk1:ix[k1]? =some i1) (hk2:ix[k2]? =some i2)
 (h:∀(iG:List Pl) (b1 b2:Nat),iG.length=obc.length→iG[k1]? =some (.loc b1)→iG[k2]? =some (.loc b2)→bu P GL n0 Pn ops l Q ⟨n,(t,.d (.agg [.v (.pointer (some ⟨b1,0,none⟩)),.v (.pointer (some ⟨b2,0,none⟩))]))::sl,obF ⟨obc,iG⟩⟩):bu P GL n0 Pn ops l Q ⟨n,sl,ob⟩:=fun B hB a w ⟨g,hr⟩=>by
 have hpi':pi∉ix:=fun h=>by rw[List.contains_iff_mem.2 h] at hpi;cases hpi
 have h1:=hr.Ji hp hfit (jm hnd) hno hno2 hpi' hob;rw[← (eR (hobF _)).1] at h1;have h2:=hr.c7 t;have h3:(SV.agg [.b0 i1 0,.b0 i2 0]).Den g (a.tmps.getD t undef):=by rw[← hsl];exact h2
 obtain⟨vs,e1,x1,l1,e2,⟨b1,hb1,e3⟩,x2,l2,e4,⟨b2,hb2,e5⟩,e6⟩:=h3;have hl:∀(k i b:Nat),ix[k]? =some i→g.gs[i]? =some (.loc b)→(ix.map fun i=>g.gs.getD i (.loc 0))[k]? =some (.loc b):=fun k i b h1 h2=>by
  rw[List.getElem?_map,h1];simp[List.getD_eq_getElem?_getD,h2]
 have h4:=h1.known (t:=t) (s:=.d (.agg [.v (.pointer (some ⟨b1,0,none⟩)),.v (.pointer (some ⟨b2,0,none⟩))])) (by
  subst e2 e4 e6 e3 e5;exact⟨_,e1,_,_,rfl,rfl,_,_,rfl,rfl,rfl⟩)
 exact h _ b1 b2 (by rw[List.length_map,hfit.get.1]) (hl _ _ _ hk1 hb1) (hl _ _ _ hk2 hb2) B hB a w ⟨g,h4⟩
variable {ρ is:List Nat} {r:List Ob} {i:Nat} {f:ByteArray→Option D}
theorem iS(hr:cb ob ρ r is)(hi:cV i ob=some (.cY f):=by exact rfl):cb ob ρ (.cY f::r) (i::is):=.cons hi .cY hr
theorem Qa{f':ByteArray→Option D}(he:f=f')(hr:cb ob ρ r is)(hi:cV i ob=some (.cY f'):=by exact rfl):cb ob ρ (.cY f::r) (i::is):=by subst he;exact .cons hi .cY hr
theorem Ff{o:Nat→Prop}{k:Mem→World→Prop}(hr:cb ob ρ r is)(hi:cV i ob=some (.iF o k):=by exact rfl):cb ob ρ (.iF o k::r) (i::is):=.cons hi .iF hr
theorem Jw{o:Oper}{K:St→Prop}{f:FuncId}{args:Array Operand}{ts:Array TypeId}{argsc svs:List SV}{Q:Out→List Ob→Prop}(hc:ai P f=true)(ho:o.op=.call { callee:=.value (.func f),args:=args,argTypes:=ts })
 (ha:C1 GL sl args.toList=some svs) (hdst:o.dst=some t) (htn:Nat.blt t n=true) {k:Nat} {x:pH} (hp:cV pi ob=some (dF eC)) (hk:eC[k]? =some x) (hno:fT ob=true) (ht:er P GL f x.gW argsc Q)
 (hfa:∀(m:Mem) (gs:List Pl) (vs:List Value),bB ⟨m,gs⟩ svs vs→bB ⟨m,x.iG⟩ argsc vs) (hobF:∀y,gS pi (dF (eC.set k y)) ob=some (obF y))
 (hQ:∀s ob',Q (.ret s) ob'→∃d,s=.d d) (hpan:∀s ob',Q (.pG s) ob'→False)
 (hret:∀d ob' pls',Q (.ret (.d d)) ob'→(∀ (j b:Nat),j<x.gW.length→x.iG[j]? =some (.loc b)→pls'[j]? =some (.loc b))→K ⟨n,(t,.d d)::sl,obF ⟨ob',pls'⟩⟩):dh P GL n0 Pn (fun j=>j=pi) o ⟨n,sl,ob⟩ K:=fun B hB g a w hr next Q' hK hP=>by
 obtain⟨vs,hrun,hd⟩:=rO hc ho ha B g a w hr;have hp':=bQ hp;have hpil:=(List.getElem?_eq_some_iff.1 hp').1;obtain⟨ppl,hppl⟩:=hr.store.place hp';have hpool:=zc (hr.store.gW _ _ _ hp' hppl);have hkl:=(List.getElem?_eq_some_iff.1 hk).1;have hxm:=List.mem_of_getElem? hk;have hx:=hpool.1 x hxm;have hst0:cU GL x.gW ⟨g.m,x.iG⟩ w:=⟨hx.len,hx.gW,fun j i f dn cur hj=>absurd hj (eZ hx.no j i f dn cur),hx.oq,hr.store.sat,hr.store.EH⟩;unfold Oper.wp;rw[hrun,Oper.upon_enter];refine(ht _ w vs hst0 (hfa g.m g.gs vs hd)).mono fun e w' he=>?_
 obtain⟨g',ob',hs,hst,hle,hno',he⟩:=he;cases e with
 |outgrown=>exact he.elim
 |panicked c=>obtain⟨v,s,_,_,h3⟩:=he;exact(hpan _ _ h3).elim
 |returned v=>
  obtain⟨s,hs1,hq⟩:=he;obtain⟨d,rfl⟩:=hQ _ _ hq;have hX:∀b,di x.gW ⟨g.m,x.iG⟩ b→x.own b:=fun b ⟨i,o,p,h1,h2,h3⟩=>⟨i,o,p,h1,h2,h3⟩
  have hfr:Fr (di x.gW ⟨g.m,x.iG⟩) w w':=hst.fr;have hmem:fL g.m g'.m:=hst.mem;have hnewm:∀b i v,g'.m b i=some v→g.m b i=none→di x.gW ⟨g.m,x.iG⟩ b∨w.heap.size≤b:=hst.new;have hstay:∀b,b<w.heap.size→¬x.own b→w'.heap[b]? =w.heap[b]? ∧∀i,g.m b i=none→g'.m b i=none:=fun b h1 h2=>by
   refine⟨hfr.block b h1 fun h=>h2 (hX b h),fun i hi=>?_⟩;cases hv:g'.m b i with
   |none=>rfl
   |some v=>
    rcases hnewm b i v hv hi with h3|h3
    ·exact absurd (hX b h3) h2
    ·omega
  have hneb:∀(j:Nat) oj pj b,j≠pi→ob[j]? =some oj→g.gs[j]? =some pj→cI oj pj b→¬x.own b:=fun j oj pj b hj h1 h2 h3 h4=>
   hj (hr.store.oq j pi oj _ pj ppl b h1 hp' h2 hppl h3 (eA.2 ⟨x,hxm,h4⟩))
  have hitem:(pH.mk ob' g'.gs).ok g'.m w':=pH.Ci hs hno';have hown':∀b,(pH.mk ob' g'.gs).own b→x.own b∨w.heap.size≤b:=fun b ⟨i,o,p,h1,h2,h3⟩=>by
   rcases hst.own i o p b h1 h2 h3 with h4|h4
   ·exact .inl (hX b h4)
   ·exact .inr h4
  have hothers:∀(j:Nat) y b,j≠k→eC[j]? =some y→y.own b→¬x.own b∧b<w.heap.size:=fun j y b hj h1 h2=>
   ⟨fun h3=>hj (hpool.2 j k y x b h1 hk h2 h3),(hpool.1 y (List.mem_of_getElem? h1)).lt h2⟩
  have hobset:=(eR (hobF ⟨ob',g'.gs⟩)).1;have hself:(ob.set pi (dF (eC.set k ⟨ob',g'.gs⟩)))[pi]? =some (dF (eC.set k ⟨ob',g'.gs⟩)):=List.getElem?_set_self hpil;have hother:∀j,j≠pi→(ob.set pi (dF (eC.set k ⟨ob',g'.gs⟩)))[j]? =ob[j]? :=fun j hj=>List.getElem?_set_ne (Ne.symm hj)
  have hgle:KV g ⟨g'.m,g.gs⟩:=⟨hmem,fun _ _ h=>h⟩;have hsetget:∀(j:Nat) y,(eC.set k ⟨ob',g'.gs⟩)[j]? =some y→(j=k∧y=⟨ob',g'.gs⟩)∨(j≠k∧eC[j]? =some y):=fun j y h1=>by
   by_cases hj:j=k
   ·subst hj;rw[List.getElem?_set_self hkl] at h1;cases h1;exact .inl ⟨rfl,rfl⟩
   ·rw [List.getElem?_set_ne (Ne.symm hj)] at h1;exact .inr ⟨hj,h1⟩
  have hpoolok:eQ ⟨g'.m,g.gs⟩ w' (dF (eC.set k ⟨ob',g'.gs⟩)) ppl:=by
   refine wE (fun y hy=>?_) fun i j y z b hi hj hyb hzb=>?_
   ·obtain ⟨j,hj⟩:=List.mem_iff_getElem?.1 hy;rcases hsetget j y hj with⟨_,rfl⟩|⟨h1,h2⟩
    ·exact hitem
    ·exact pH.ok.qa hmem (fun b hb=>(hstay b (hothers j y b h1 h2 hb).2 (hothers j y b h1 h2 hb).1).1) (fun b hb=>(hstay b (hothers j y b h1 h2 hb).2 (hothers j y b h1 h2 hb).1).2) (hpool.1 y (List.mem_of_getElem? h2))
   ·have hcross:∀(j:Nat) z b,j≠k→eC[j]? =some z→z.own b→¬(pH.mk ob' g'.gs).own b:=fun j z b h1 h2 h3 h4=>by
     have h5:=hothers j z b h1 h2 h3;rcases hown' b h4 with h6|h6
     ·exact h5.1 h6
     ·omega
    rcases hsetget i y hi with⟨h1,rfl⟩|⟨h1,h2⟩
    ·rcases hsetget j z hj with⟨h3,rfl⟩|⟨h3,h4⟩
     ·omega
     ·exact absurd hyb (hcross j z b h3 h4 hzb)
    ·rcases hsetget j z hj with⟨h3,rfl⟩|⟨h3,h4⟩
     ·exact absurd hzb (hcross i y b h1 h2 hyb)
     ·exact hpool.2 i j y z b h2 h4 hyb hzb
  have hrel:cD GL B ⟨n,sl,ob.set pi (dF (eC.set k ⟨ob',g'.gs⟩))⟩ ⟨g'.m,g.gs⟩ a w':=by
   refine⟨hr.defers,hr.size,fun t=>SV.Den.mono hgle _ (hr.c7 t),?_,?_⟩
   ·refine hr.store.step (p:=fun j=>j=pi) hmem (fun _ _ h=>h) (fun _ _ _ h=>h) hs.sat (by show(ob.set pi _).length=_;rw[List.length_set];exact hr.store.len) (fun j o1 hj h1=>?_) (fun j i f dn cur h1=>?_) (fun j i f dn cur hj h1=>?_)
     (fun j o1 q c hj h1 h2 h3=>?_) (fun j o1 hj h1=>?_) (fun j o1 q c hj h1 h2 h3=>?_) (fun i j oi oj qi qj b hi hj _ _ _ _ _ _=>hi.trans hj.symm)
    ·have h2:(ob.set pi (dF (eC.set k ⟨ob',g'.gs⟩)))[j]? =some o1:=h1;rw[hother j hj] at h2;exact⟨o1,h2,iT.refl hgle o1⟩
    ·by_cases h9:j=pi
     ·subst h9;rw[hself] at h1;cases h1
     ·rw [hother j h9] at h1;exact absurd h1 (eZ hno j i f dn cur)
    ·have h2:(ob.set pi (dF (eC.set k ⟨ob',g'.gs⟩)))[j]? =some (.jJ i f dn cur):=h1;rw[hother j hj] at h2;exact absurd h2 (eZ hno j i f dn cur)
    ·exact hstay c (hr.store.lt h1 h2 h3) (hneb j o1 q c hj h1 h2 h3)
    ·subst hj;have h2:(ob.set j (dF (eC.set k ⟨ob',g'.gs⟩)))[j]? =some o1:=h1;rw[hself] at h2;cases h2;exact⟨ppl,hppl,hpoolok⟩
    ·subst hj;have h4:(ob.set j (dF (eC.set k ⟨ob',g'.gs⟩)))[j]? =some o1:=h1;rw[hself] at h4;cases h4;obtain⟨y,hy,hb⟩:=eA.1 h3;obtain⟨i,hi⟩:=List.mem_iff_getElem?.1 hy;rcases hsetget i y hi with⟨_,rfl⟩|⟨h5,h6⟩
     ·rcases hown' c hb with h7|h7
      ·exact .inl ⟨j,_,q,rfl,hp',h2,eA.2 ⟨x,hxm,h7⟩⟩
      ·exact .inr h7
     ·exact .inl ⟨j,_,q,rfl,hp',h2,eA.2 ⟨y,List.mem_of_getElem? h6,hb⟩⟩
   ·refine hr.fH.step hfr (fun b hb=>hr.fH.own pi _ ppl b hp' hppl (eA.2 ⟨x,hxm,hX b hb⟩)) hmem hnewm (fun j o1 q c h1 h2 h3=>?_) (fun _ _ h=>h);have h4:(ob.set pi (dF (eC.set k ⟨ob',g'.gs⟩)))[j]? =some o1:=h1;by_cases h9:j=pi
    ·subst h9;rw[hself] at h4;cases h4;obtain⟨y,hy,hb⟩:=eA.1 h3;obtain⟨i,hi⟩:=List.mem_iff_getElem?.1 hy;rcases hsetget i y hi with⟨_,rfl⟩|⟨h5,h6⟩
     ·rcases hown' c hb with h7|h7
      ·exact .inl (hr.fH.own j _ ppl c hp' hppl (eA.2 ⟨x,hxm,h7⟩))
      ·exact .inr h7
     ·exact .inl (hr.fH.own j _ ppl c hp' hppl (eA.2 ⟨y,List.mem_of_getElem? h6,hb⟩))
    ·rw [hother j h9] at h4;exact .inl (hr.fH.own j o1 q c h4 h2 h3)
  have hkeep:tH (fun j=>j=pi) ob g w ⟨g'.m,g.gs⟩ w':=⟨hmem,fun j c oj hj h1 h2 h3=>⟨h2,(hstay c (hr.store.lt h1 h2 (eN h3)) (hneb j oj _ c hj h1 h2 (eN h3))).1⟩⟩;have hK2:=hret d ob' g'.gs hq (fun j b h1 h2=>hst.at' j b h1 h2);rw[hobset] at hK2;show next (a.put o.dst _) _
  rw[hdst];exact hK _ _ _ _ (hrel.q9 (s:=.d d) htn hs1) hkeep hK2
end
end Go.Vd
namespace Go.Vd
open Go Go.RowKit
variable {e:TypeId} {size bytes:Nat}
theorem IX{P:Program}{t:TypeId}(T:iW P t e size bytes)(w:World):(Instr.buildSlice t 0 #[]).run P w=.ok (.slice (some ⟨w.heap.size,0,none⟩) 0 0) (w.alloc (.cells #[] e)):=by
 have hinfo:=T.info;have hzero:=T.zero;cases hi:P.info? e with
 |none=>simp[hi] at hinfo
 |some ie=>
  rw[hi] at hinfo hzero;simp only[Option.map_some,Option.some.injEq,Prod.mk.injEq,Option.bind_some] at hinfo hzero;cases hz:ie.zero with
  |none=>simp[hz] at hzero
  |some z=>
   simp[Instr.buildSlice,run_underlying T.under,newRow,zeroValue,typeInfo,Go.sizeOf,hi,hz,Result.andThen,Instr.fill]
   congr 2
   apply Array.ext';simp
section
variable {P:Program} {GL:Nat→List D} {n0:Nat} {Pn:py}
variable {o:Oper} {n t k:Nat} {sl:List (Nat×SV)} {ob:List Ob} {K:St→Prop} {T:Nat→Prop} {ty:TypeId}
theorem Ll{ob':List Ob}(TS:iW P ty e size bytes)(ho:o.op=.buildSlice ty 0 #[])
 (hd:o.dst=some t) (ht:Nat.blt t n=true) (hl:ob.length=k) (hob:hZ ob [.row e size]=some ob')
 (h:K ⟨n,(t,.own k size [])::sl,ob'⟩):dh P GL n0 Pn T o ⟨n,sl,ob⟩ K:=fun B hB g a w hr next Q hK hP=>by
 subst hl;rw[fh hob] at h;have hrun:(execOp a.eval o).run P w=.ok (.value (.slice (some ⟨w.heap.size,0,none⟩) 0 0)) (w.alloc (.cells #[] e)):=by
  have h0:=IX TS w;simp only[execOp,ho,Sem.run_bind];have h1:(#[]:Array (Nat×Operand)).map (fun x=>(x.1,a.eval x.2))= #[]:=by simp
  rw[h1,h0];rfl
 unfold Oper.wp;rw[hrun];show next (a.put o.dst _) _
 rw[hd];have hm0:∀o,g.m w.heap.size o=none:=fun o=>by
  cases hx:g.m w.heap.size o with
  |none=>rfl
  |some x=>have:=hr.store.ji hx;omega
 have hrow:(w.alloc (.cells #[] e)).ownsRow 0 e size (.slice (some ⟨w.heap.size,0,none⟩) 0 0) 0 []:=
  ⟨by simp,.inr ⟨w.heap.size,0,#[],rfl,Nat.zero_le _,heap_alloc_new w _,Nat.le_refl _,Nat.zero_le _,by simp,by simp⟩⟩
 obtain⟨h1,h2⟩:=hr.Ax (w':=w.alloc (.cells #[] e)) ((Fr.refl _ w).alloc _) (fL.refl _) (fun b o x h1 h2=>by rw[h2] at h1;cases h1) (o':=.row e size) (pl:=.row (some w.heap.size) 0 0) ⟨⟨[],hrow⟩,fun c hc o _=>by cases hc;exact hm0 o⟩ (fun b hb=>by simp only[cI,dT,Option.some.injEq] at hb;omega) (fun i f dn cur e=>by cases e);refine hK _ _ _ _ (h1.q9 (s:=.own ob.length size []) ht ⟨some w.heap.size,0,?_,rfl,Nat.le_refl _,fun hn=>absurd rfl hn⟩) ⟨h2.1,fun i b o _=>h2.2 i b o (fun x=>x)⟩ h;show(g.gs++[_])[ob.length]? =_;have hl2:ob.length=g.gs.length:=hr.store.len;rw[hl2];simp
end
section
variable {P:Program} {GL:Nat→List D} {n0:Nat} {Pn:py}
theorem Al{T:TypeId}(hp:P.underlying T=some (.slice e))(a:Option Addr)(l c:Nat)(w:World):(Op.equal T (.slice a l c) (.slice none 0 0)).run P w=.ok a.isNone w:=by
 have h:∀d:Nat,(Op.equalIn (d+1) T (.slice a l c) (.slice none 0 0)).run P w=.ok a.isNone w:=fun d=>by
  cases a<;>simp[Op.equalIn,run_underlying hp]
 simp[Op.equal,Op.maxDepth,h 9999]
variable {o:Oper} {n t k:Nat} {sl:List (Nat×SV)} {ob:List Ob} {K:St→Prop} {T:Nat→Prop} {ty:TypeId}
theorem Jt{T':TypeId}{ls:List (List D)}{x:Operand}{sx:SV}(hp:P.underlying ty=some (.slice e))(ho:o.op=.binOp .eql ty x (.const (.slice none 0 0)) T')(hd:o.dst=some t)(ht:Nat.blt t n=true)
 (hx:bR GL sl x=some sx) (hxD:sx.gV=some (.sl k ls)) (h:∀b:Bool,(b=true→ls=[])→K ⟨n,(t,.d (.v (.bool b)))::sl,ob⟩):dh P GL n0 Pn T o ⟨n,sl,ob⟩ K:=
 tn hd ht fun B g a w hr=>by
  obtain⟨q,cap,hq,_,hne⟩:=SV.Den.gV _ (hr.fj hx) hxD;refine⟨.d (.v (.bool q.isNone)),.bool q.isNone,?_,rfl,h q.isNone fun hb=>?_⟩
  ·have he:=Al hp q ls.length cap w;have hc:a.eval (.const (.slice none 0 0))=.slice none 0 0:=rfl;simp only[execOp,ho,Sem.run_bind,hq,hc,gj (P:=P) (show(Value.slice q ls.length cap).oneCell'=true from rfl) (show ¬(Value.slice q ls.length cap=.nilIface∧Value.slice none 0 0=.nilIface) by simp)];simp only[Result.andThen_ok,binOp,Sem.run_bind,he,Sem.run_pure]
  ·refine Classical.byContradiction fun hn=>?_
   obtain⟨b,off,e1,_⟩:=hne hn;rw[e1] at hb;cases hb
end
end Go.Vd
namespace Go.Vd
open Go Go.RowKit
def KG(P:Program)(ye:TypeId→Option TI):Prop:= ∀t ti,ye t=some ti→bj P t=ti
def Pv:BinOp→Int→Int→Option Bool
 | .eql,m,n=>some (decide (m=n))
 | .neq,m,n=>some (!decide (m=n))
 | .lss,m,n=>some (decide (m<n))
 | .leq,m,n=>some (decide (m≤n))
 | .gtr,m,n=>some (decide (n<m))
 | .geq,m,n=>some (decide (n≤m))
 |_,_,_=>none
def QM:IntKind→IntKind→Bool
 | .i64,.i64=>true
 | .u8,.u8=>true
 |_,_=>false
theorem ND:∀{k k':IntKind},QM k k'=true→k=k':=by
 intro k k' h;cases k<;>cases k'<;>first|rfl|cases h
def Pu:BinOp→ByteArray→ByteArray→Option Bool
 | .eql,s,t=>some (decide (s=t))
 | .neq,s,t=>some (!decide (s=t))
 |_,_,_=>none
def NY(GL:Nat→List D)(ye:TypeId→Option TI)(sl:List (Nat×SV))(ob:List Ob):Op→Option SV
 | .move x=>bR GL sl x
 | .assign x=>bR GL sl x
 | .nilCheck x=>match bR GL sl x with
  |some (.b0 i off)=>some (.b0 i off)
  |some (.d (.cp l))=>some (.d (.cp l))
  |_=>none
 | .fieldAddr T x f=>(ye T).bind fun ti=>match gR f ti.lZ with
  |some ((o1,sz,_)::_)=>cond (Nat.beq sz 0) none (match bR GL sl x with
   |some (.b0 i off)=>some (.b0 i (off+o1))
   |some (.d (.cp l))=>(gR o1 l).bind fun l'=>some (.d (.cp l'))
   |_=>none)
  |_=>none
 | .load T x=>(ye T).bind fun ti=>cond ti.ok (match bR GL sl x with
  |some (.b0 i off)=>match cV i ob with
   |some (.cells l _)=>(gR off l).bind fun l1=>(nM ti.size l1).bind fun cs=>od ti.agg cs
   |_=>none
  |some (.d (.cp l))=>(nM ti.size l).bind fun ds=>(Cs ds).bind fun cs=>od ti.agg cs
  |_=>none) none
 | .extract x i=>match bR GL sl x with
  |some (.bY l)=>cV i l
  |some (.d (.bY l))=>(cV i l).bind fun s=>some (.d s)
  |_=>none
 | .binOp op _ x y _=>match bR GL sl x,bR GL sl y with
  |some (.d (.v (.int k m))),some (.d (.v (.int k' n)))=>cond (QM k k') ((Pv op m n).bind fun b=>some (.d (.v (.bool b)))) none
  |some (.d (.v (.string s))),some (.d (.v (.string t)))=>(Pu op s t).bind fun b=>some (.d (.v (.bool b)))
  |_,_=>none
 | .unOp .not _ x=>match bR GL sl x with
  |some (.d (.v (.bool b)))=>some (.d (.v (.bool (!b))))
  |_=>none
 | .build T ps=>(ye T).bind fun ti=>cond ti.KS (cond ti.NK ((EW GL sl ps.toList).bind fun es=>(ph ti.zero).bind fun z0=>(xE ti.lZ z0 es).bind fun cs=>some (.agg cs)) none) none
 |_=>none
section
variable {P:Program} {GL:Nat→List D} {n0:Nat} {Pn:py}
end
end Go.Vd
namespace Go.Vd
open Go Go.RowKit
structure Ro where
 ti:List (Nat×TI)
 us:List Nat
 ut:List Nat
def Ql:List (Nat×TI)→Nat→Option TI
 |[],_=>none
 |(k,x)::r,t=>cond (Nat.beq k t) (some x) (Ql r t)
class jO (P:Program) where
 ye:Ro
 ti:∀p∈ye.ti,bj P p.1=p.2
 us:∀t∈ye.us,P.underlying t=some (.slice (bj P t).elem)
 ut:∀t∈ye.ut,P.underlying t=some .string
theorem FX:∀{l:List (Nat×TI)} {t:Nat} {x:TI},Ql l t=some x→(t,x)∈l
 |[],t,x,h=>by cases h
 |(k,y)::r,t,x,h=>by
  unfold Ql at h;cases hb:Nat.beq k t<;>rw[hb] at h
  ·exact List.mem_cons_of_mem _ (FX h)
  ·have e:k=t:=by simpa using hb
   simp only[cond_true,Option.some.injEq] at h;subst e h;exact List.mem_cons_self
def Ng(P:Program)[T:jO P]:TypeId→Option TI:=Ql T.ye.ti
theorem rF(P:Program)[T:jO P]:KG P (Ng P):=fun t x h=>T.ti _ (FX h)
def QL(P:Program)[T:jO P](GL:Nat→List D)(sl:List (Nat×SV)):Op→Option SV
 | .call c=>match c.callee,c.args.toList,c.argTypes.toList with
  | .builtin .len,[x],[t]=>match bR GL sl x with
   |some (.d (.sl _ ls))=>cond (n6 T.ye.us t) (some (.d (.v (.int .i64 ls.length)))) none
   |some (.own _ _ ls)=>cond (n6 T.ye.us t) (some (.d (.v (.int .i64 ls.length)))) none
   |some (.d (.v (.string s)))=>cond (n6 T.ye.ut t) (some (.d (.v (.int .i64 s.size)))) none
   |_=>none
  |_,_,_=>none
 |_=>none
def Qo(P:Program)[T:jO P](GL:Nat→List D)(sl:List (Nat×SV))(ob:List Ob):Op→Option (SV×List Nat)
 | .load t x=>(NY GL (Ng P) sl ob (.load t x)).bind fun s=>match bR GL sl x with
  |some (.b0 i _)=>some (s,[i])
  |_=>some (s,[])
 | .call c=>(QL P GL sl (.call c)).bind fun s=>some (s,[])
 |op=>(NY GL (Ng P) sl ob op).bind fun s=>some (s,[])
section
variable {P:Program} [T:jO P] {GL:Nat→List D} {n0:Nat} {Pn:py}
theorem xy{l:List Nat}{t:Nat}(h:n6 l t=true):t∈l:=n5.1 h
variable {ye:TypeId→Option TI} {o:Oper} {n:Nat} {sl:List (Nat×SV)} {ob:List Ob} {s:SV}
theorem Gg(ht:KG P ye){K:SV→List Nat→Prop}{t:TypeId}{x:Operand}(ho:o.op=.load t x)(h:NY GL ye sl ob (.load t x)=some s)
 (hK:K s (match bR GL sl x with|some (.b0 i _)=>[i]|_=>[])):ak P GL o ⟨n,sl,ob⟩ K:=by
 simp only[NY] at h;obtain⟨ti,h1,h⟩:=Option.bind_eq_some_iff.1 h;cases hz:ti.ok<;>rw[hz] at h
 ·cases h
 ·simp only[cond_true] at h;split at h
  ·rename_i i off he;rw[he] at hK;split at h
   ·rename_i l ty hi;obtain⟨l1,h2,h⟩:=Option.bind_eq_some_iff.1 h;obtain⟨cs,h3,h4⟩:=Option.bind_eq_some_iff.1 h;exact Du (ht _ _ h1) hK ho he hi hz h2 h3 h4
   ·cases h
  ·rename_i l he;rw[he] at hK;obtain⟨ds,h2,h⟩:=Option.bind_eq_some_iff.1 h;obtain⟨cs,h3,h4⟩:=Option.bind_eq_some_iff.1 h;exact JF (ht _ _ h1) hK ho he hz h2 h3 h4
  ·cases h
theorem LL(ht:KG P ye){K:SV→List Nat→Prop}(hl:∀t x,o.op≠ .load t x)(h:NY GL ye sl ob o.op=some s)(hK:K s []):ak P GL o ⟨n,sl,ob⟩ K:=by
 generalize ho:o.op=op at h;cases op<;>simp only[NY,reduceCtorEq] at h
 case move x=>exact mv hK ho h
 case assign x=>exact Qb hK ho h
 case nilCheck x=>
  split at h
  ·rename_i i off he;cases h;exact QK hK ho he
  ·rename_i l he;cases h;exact Lr hK ho he
  ·cases h
 case fieldAddr T x f=>
  obtain⟨ti,h1,h⟩:=Option.bind_eq_some_iff.1 h;split at h
  ·rename_i o1 sz ag r hf;cases hz:Nat.beq sz 0<;>rw[hz] at h
   ·simp only[cond_false] at h;split at h
    ·rename_i i off he;cases h;exact OJ (ht _ _ h1) hK ho he hf hz
    ·rename_i l he;obtain⟨l',h2,h3⟩:=Option.bind_eq_some_iff.1 h;cases h3;exact KT (ht _ _ h1) hK ho he hf hz h2
    ·cases h
   ·cases h
  ·cases h
 case load T x=>exact absurd ho (hl T x)
 case extract x i=>
  split at h
  ·rename_i l he;exact QO hK ho he h
  ·rename_i l he;obtain⟨s',h2,h3⟩:=Option.bind_eq_some_iff.1 h;cases h3;exact OK hK ho he h2
  ·cases h
 case binOp op T x y T'=>
  split at h
  ·rename_i k m k' n' hx hy;cases hk:QM k k'<;>rw[hk] at h
   ·cases h
   obtain rfl:=ND hk;simp only[cond_true] at h;obtain⟨b,h2,h3⟩:=Option.bind_eq_some_iff.1 h;cases h3;cases op<;>simp only[Pv,Option.some.injEq,reduceCtorEq] at h2
   all_goals subst h2
   case eql=>exact Pk hK ho hx hy
   case neq=>exact Rj hK ho hx hy
   case lss=>exact RF hK ho hx hy
   case leq=>exact RG hK ho hx hy
   case gtr=>exact RH hK ho hx hy
   case geq=>exact RJ hK ho hx hy
  ·rename_i s' t' hx hy;obtain⟨b,h2,h3⟩:=Option.bind_eq_some_iff.1 h;cases h3;cases op<;>simp only[Pu,Option.some.injEq,reduceCtorEq] at h2
   all_goals subst h2
   case eql=>exact seq1 hK ho hx hy
   case neq=>exact QC hK ho hx hy
  ·cases h
 case unOp op T x=>
  cases op<;>simp only[NY,reduceCtorEq] at h;split at h
  ·rename_i b he;cases h;exact Pp hK ho he
  ·cases h
 case build T ps=>
  obtain⟨ti,h1,h⟩:=Option.bind_eq_some_iff.1 h;cases hz:ti.KS<;>rw[hz] at h
  ·cases h
  ·cases hf:ti.NK<;>rw[hf] at h
   ·cases h
   ·simp only[cond_true] at h;obtain⟨es,h2,h⟩:=Option.bind_eq_some_iff.1 h;obtain⟨z0,h3,h⟩:=Option.bind_eq_some_iff.1 h;obtain⟨cs,h4,h5⟩:=Option.bind_eq_some_iff.1 h;cases h5;exact Rb (ht _ _ h1) hK ho hz hf hf h2 h3 h4
theorem NC{K:SV→List Nat→Prop}{op:Op}(ho:o.op=op)(h:QL P GL sl op=some s)(hK:K s []):ak P GL o ⟨n,sl,ob⟩ K:=by
 unfold QL at h;split at h
 ·rename_i c;obtain⟨c1,⟨a⟩,⟨ts⟩⟩:=c;simp only at h;split at h
  ·rename_i x t;split at h
   ·rename_i he;cases hi:n6 T.ye.us t<;>rw[hi] at h
    ·cases h
    ·cases h;exact Pd (T.us _ (xy hi)) hK ho he
   ·rename_i he;cases hi:n6 T.ye.us t<;>rw[hi] at h
    ·cases h
    ·cases h;exact RE (T.us _ (xy hi)) hK ho he
   ·rename_i he;cases hi:n6 T.ye.ut t<;>rw[hi] at h
    ·cases h
    ·cases h;exact RC (T.ut _ (xy hi)) hK ho he
   ·cases h
  ·cases h
 ·cases h
theorem Kb{K:SV→List Nat→Prop}{L:List Nat}(h:Qo P GL sl ob o.op=some (s,L))(hK:K s L):ak P GL o ⟨n,sl,ob⟩ K:=by
 unfold Qo at h;split at h
 ·rename_i t x ho;obtain⟨s',h1,h2⟩:=Option.bind_eq_some_iff.1 h;split at h2
  ·rename_i i off he;cases h2;exact Gg (rF P) ho h1 (by rw[he];exact hK)
  ·rename_i he;cases h2;refine Gg (rF P) ho h1 ?_;split
   ·rename_i i off he2;exact absurd he2 (he i off)
   ·exact hK
 ·rename_i c ho;obtain⟨s',h1,h2⟩:=Option.bind_eq_some_iff.1 h;cases h2;exact NC ho h1 hK
 ·rename_i h3 h4;obtain⟨s',h1,h2⟩:=Option.bind_eq_some_iff.1 h;cases h2;exact LL (rF P) h3 h1 hK
end
inductive Fm where
 |s (c:Code)
 |b (id:Nat)
 |q (K:St→Prop)
inductive Tg where
 |c (c:Code)
 |o (ops l:List Oper)
 |e (e:Ex)
def den(P:Program)(GL:Nat→List D)(n0:Nat)(Pn:py)(Q:Ex→St→Prop):List Fm→Ex→St→Prop
 |[]=>Q
 | .s c::K=>Ex.seq (fun σ=>bq P GL n0 Pn c (den P GL n0 Pn Q K) σ) (den P GL n0 Pn Q K)
 | .b id::K=>Ex.inBlock id (den P GL n0 Pn Q K)
 | .q R::K=>Ex.seq (fun σ=>R σ) (den P GL n0 Pn Q K)
def Tg.ok(P:Program)(GL:Nat→List D)(n0:Nat)(Pn:py)(K:List Fm)(Q:Ex→St→Prop)(σ:St):Tg→Prop
 | .c x=>bq P GL n0 Pn x (den P GL n0 Pn Q K) σ
 | .o x y=>bu P GL n0 Pn x y (den P GL n0 Pn Q K) σ
 | .e x=>den P GL n0 Pn Q K x σ
inductive Rz where
 |ok (t:Tg) (K:List Fm) (sl:List (Nat×SV)) (ob:List Ob)
 |no
def Lx(ops:List Oper)(sl:List (Nat×SV))(o:Oper):Option Bool:=match o.guard with
 |none=>some true
 |some (j,want)=>(gQ ops j).bind fun d=>match gI d sl with
  |some (.d (.v (.bool true)))=>some want
  |some (.d (.v (.bool false)))=>some (!want)
  |some (.d (.v (.tuple _)))=>some false
  |_=>none
def QI(P:Program)[T:jO P](GL:Nat→List D)(n m:Nat)(sl:List (Nat×SV))(ob:List Ob)(op:Op)(dst:Option Nat):Option (Nat×List (Nat×SV)×List Ob):=match op with
 | .alloc t=>match dst with
  |some d=>(Ng P t).bind fun ti=>cond (Nat.blt d n) (cond ti.KS ((ph ti.zero).bind fun cs=>(hZ ob [.cells cs t]).bind fun ob'=>some (m+1,(d,.b0 m 0)::sl,ob')) none) none
  |none=>none
 | .box t x=>match dst with
  |some d=>(Ng P t).bind fun ti=>cond (Nat.blt d n) ((bR GL sl x).bind fun s=>(jN ti.agg s).bind fun cs=>(hZ ob [.cells cs t]).bind fun ob'=>some (m+1,(d,.b0 m 0)::sl,ob')) none
  |none=>none
 | .store t x y=>match dst with
  |none=>match bR GL sl x with
   |some (.b0 i off)=>match cV i ob with
    |some (.cells l ty0)=>(Ng P t).bind fun ti=>cond ti.ok ((bR GL sl y).bind fun s=>(jN ti.agg s).bind fun cs=>cond (Nat.beq cs.length ti.size) (cond (gN cs) ((wv off cs l).bind fun l'=>(gS i (.cells l' ty0) ob).bind fun ob'=>some (m,sl,ob')) none) none) none
    |_=>none
   |_=>none
  |some _=>none
 |op=>match dst with
  |some d=>cond (Nat.blt d n) (match Qo P GL sl ob op with
   |some (s,_)=>some (m,(d,s)::sl,ob)
   |none=>none) none
  |none=>none
def run(P:Program)[T:jO P](GL:Nat→List D)(n:Nat):Nat→Tg→List Fm→Nat→List (Nat×SV)→List Ob→Rz
 |0,t,K,_,sl,ob=>.ok t K sl ob
 |N+1,.c c,K,m,sl,ob=>match c with
  | .seq a b=>run P GL n N (.c a) (.s b::K) m sl ob
  | .region _ ⟨l⟩ dr=>match dr with
   |false=>run P GL n N (.o l l) K m sl ob
   |true=>.no
  | .skip=>run P GL n N (.e .normal) K m sl ob
  | .ret=>run P GL n N (.e .ret) K m sl ob
  | .exit id=>run P GL n N (.e (.exit id)) K m sl ob
  | .block id c=>run P GL n N (.c c) (.b id::K) m sl ob
  |_=>.no
 |N+1,.o ops l,K,m,sl,ob=>match l with
  |[]=>run P GL n N (.e .normal) K m sl ob
  |o::r=>match Lx ops sl o with
   |some true=>match QI P GL n m sl ob o.op o.dst with
    |some (m',sl',ob')=>run P GL n N (.o ops r) K m' sl' ob'
    |none=>.no
   |some false=>match o.dst with
    |some d=>cond (Nat.blt d n) (run P GL n N (.o ops r) K m ((d,.d (.v undef))::sl) ob) .no
    |none=>.no
   |none=>.no
 |N+1,.e e,K,m,sl,ob=>match K with
  | .s c::K=>match e with
   | .normal=>run P GL n N (.c c) K m sl ob
   |e=>run P GL n N (.e e) K m sl ob
  | .b id::K=>match e with
   | .normal=>run P GL n N (.e .normal) K m sl ob
   | .exit j=>cond (Nat.beq j id) (run P GL n N (.e .normal) K m sl ob) (run P GL n N (.e (.exit j)) K m sl ob)
   |e=>run P GL n N (.e e) K m sl ob
  | .q _::K=>match e with
   | .normal=>.no
   |e=>run P GL n N (.e e) K m sl ob
  |[]=>.no
section
variable {P:Program} [T:jO P] {GL:Nat→List D} {n0:Nat} {Pn:py} {Q:Ex→St→Prop}
variable {ops rest:List Oper} {o:Oper} {n:Nat} {sl:List (Nat×SV)} {ob:List Ob}
theorem F9(h:Lx ops sl o=some true)(hr:bu P GL n0 Pn ops ({ o with guard:=none }::rest) Q ⟨n,sl,ob⟩):bu P GL n0 Pn ops (o::rest) Q ⟨n,sl,ob⟩:=by
 unfold Lx at h;split at h
 ·rename_i hg;have:({ o with guard:=none }:Oper)=o:=by cases o;simp only at hg;subst hg;rfl
  rwa [this] at hr
 ·rename_i j want hg;obtain⟨d,h1,h2⟩:=Option.bind_eq_some_iff.1 h;split at h2
  ·rename_i hs;simp only[Option.some.injEq] at h2;subst h2;exact nE hg h1 hs hr
  ·rename_i hs;simp only[Option.some.injEq] at h2;exact nE hg h1 (by rw[hs];cases want<;>first|rfl|cases h2) hr
  ·cases h2
  ·cases h2
variable {d:Nat}
theorem DC{t j:Nat}{want:Bool}{x:Array Value}(hg:o.guard=some (j,want))(hd:gQ ops j=some d)(hb:gI d sl=some (.d (.v (.tuple x))))(hdst:o.dst=some t)(ht:Nat.blt t n=true)
 (h:bu P GL n0 Pn ops rest Q ⟨n,(t,.d (.v undef))::sl,ob⟩):bu P GL n0 Pn ops (o::rest) Q ⟨n,sl,ob⟩:=fun B hB a w ⟨g,hr⟩=>by
 have hbv:a.tmps.getD d undef=.tuple x:=by have:=hr.c7 d;rw[ft hb] at this;exact this
 unfold wpList;rw[oy hg hd hbv,if_neg (by simp),hdst];exact h B hB _ w ⟨g,hr.put ht rfl⟩
theorem NI(h:Lx ops sl o=some false)(hd:o.dst=some d)(hb:Nat.blt d n=true)(hr:bu P GL n0 Pn ops rest Q ⟨n,(d,.d (.v undef))::sl,ob⟩):bu P GL n0 Pn ops (o::rest) Q ⟨n,sl,ob⟩:=by
 unfold Lx at h;split at h
 ·cases h
 ·rename_i j want hg;obtain⟨d',h1,h2⟩:=Option.bind_eq_some_iff.1 h;split at h2
  ·rename_i hs;simp only[Option.some.injEq] at h2;subst h2;exact oM hg h1 hs hd hb hr
  ·rename_i hs;simp only[Option.some.injEq] at h2;exact oM hg h1 (by rw[hs];cases want<;>first|rfl|cases h2) hd hb hr
  ·rename_i hs;exact DC hg h1 hs hd hb hr
  ·cases h2
variable {m:Nat} {sl':List (Nat×SV)} {ob':List Ob}
theorem Nv{m':Nat}(hm:ob.length=m)(hg:o.guard=none)(h:QI P GL n m sl ob o.op o.dst=some (m',sl',ob'))(hr:ob'.length=m'→bu P GL n0 Pn ops rest Q ⟨n,sl',ob'⟩):bu P GL n0 Pn ops (o::rest) Q ⟨n,sl,ob⟩:=by
 unfold QI at h;split at h
 ·rename_i t ho;split at h
  ·rename_i d hd;obtain⟨ti,h1,h⟩:=Option.bind_eq_some_iff.1 h;cases hb:Nat.blt d n<;>rw[hb] at h
   ·cases h
   cases hz:ti.KS<;>rw[hz] at h
   ·cases h
   simp only[cond_true] at h;obtain⟨cs,h2,h⟩:=Option.bind_eq_some_iff.1 h;obtain⟨ob1,h3,h⟩:=Option.bind_eq_some_iff.1 h;cases h;exact oc (T:=fun _=>False) (Qd (rF P _ _ h1) (hr (by rw[fh h3];simp[hm])) ho hd hz hb h2 h3 hm) hg
  ·cases h
 ·rename_i t x ho;split at h
  ·rename_i d hd;obtain⟨ti,h1,h⟩:=Option.bind_eq_some_iff.1 h;cases hb:Nat.blt d n<;>rw[hb] at h
   ·cases h
   simp only[cond_true] at h;obtain⟨s,h2,h⟩:=Option.bind_eq_some_iff.1 h;obtain⟨cs,h3,h⟩:=Option.bind_eq_some_iff.1 h;obtain⟨ob1,h4,h⟩:=Option.bind_eq_some_iff.1 h;cases h;exact oc (T:=fun _=>False) (bx (rF P _ _ h1) (hr (by rw[fh h4];simp[hm])) ho hd h2 hb h3 h4 hm) hg
  ·cases h
 ·rename_i t x y ho;split at h
  ·rename_i hd;split at h
   ·rename_i i off he;split at h
    ·rename_i l ty0 hi;obtain⟨ti,h1,h⟩:=Option.bind_eq_some_iff.1 h;cases hz:ti.ok<;>rw[hz] at h
     ·cases h
     simp only[cond_true] at h;obtain⟨s,h2,h⟩:=Option.bind_eq_some_iff.1 h;obtain⟨cs,h3,h⟩:=Option.bind_eq_some_iff.1 h;cases hs:Nat.beq cs.length ti.size<;>rw[hs] at h
     ·cases h
     cases ha:gN cs<;>rw[ha] at h
     ·cases h
     simp only[cond_true] at h;obtain⟨l',h4,h⟩:=Option.bind_eq_some_iff.1 h;obtain⟨ob1,h5,h⟩:=Option.bind_eq_some_iff.1 h;cases h;exact oc (dP (rF P _ _ h1) (hr (by rw[(eR h5).1,List.length_set];exact hm)) ho hd he h2 hi hz h3 hs ha h4 h5) hg
    ·cases h
   ·cases h
  ·cases h
 ·split at h
  ·rename_i d hd;cases hb:Nat.blt d n<;>rw[hb] at h
   ·cases h
   simp only[cond_true] at h;split at h
   ·rename_i s L hs;cases h;exact nF hg hd hb (Kb hs (hr hm))
   ·cases h
  ·cases h
theorem eM{n:Nat}:∀{N:Nat} {t t':Tg} {K K':List Fm} {m:Nat} {sl sl':List (Nat×SV)} {ob ob':List Ob},ob.length=m→run P GL n N t K m sl ob=.ok t' K' sl' ob'→t'.ok P GL n0 Pn K' Q ⟨n,sl',ob'⟩→t.ok P GL n0 Pn K Q ⟨n,sl,ob⟩
 |0,t,t',K,K',m,sl,sl',ob,ob',hm,he,h=>by cases he;exact h
 |N+1,.c c,t',K,K',m,sl,sl',ob,ob',hm,he,h=>by
  show bq P GL n0 Pn c (den P GL n0 Pn Q K) _;unfold run at he;split at he
  ·exact wB (eM hm he h)
  ·rename_i id l dr;split at he
   ·exact mr (eM hm he h)
   ·cases he
  ·exact GX (eM hm he h)
  ·exact BA (eM hm he h)
  ·exact GY (eM hm he h)
  ·exact rM (eM hm he h)
  ·cases he
 |N+1,.o ops l,t',K,K',m,sl,sl',ob,ob',hm,he,h=>by
  show bu P GL n0 Pn ops l (den P GL n0 Pn Q K) _;unfold run at he;split at he
  ·exact vM (eM hm he h)
  ·rename_i o r;split at he
   ·rename_i hg;split at he
    ·rename_i m1 sl1 ob1 hop;exact F9 hg (Nv (o:={ o with guard:=none }) hm rfl hop fun hm'=>eM hm' he h)
    ·cases he
   ·rename_i hg;split at he
    ·rename_i d hd;cases hb:Nat.blt d n<;>rw[hb] at he
     ·cases he
     ·exact NI hg hd hb (eM hm he h)
    ·cases he
   ·cases he
 |N+1,.e e,t',K,K',m,sl,sl',ob,ob',hm,he,h=>by
  show den P GL n0 Pn Q K e _;cases K with
  |nil=>simp only[run,reduceCtorEq] at he
  |cons f K=>
   cases f with
   |s c=>cases e<;>exact(eM (N:=N) hm he h:Tg.ok _ _ _ _ _ _ _ _)
   |b id=>
    cases e with
    |exit j=>
     change cond (Nat.beq j id) _ _=_ at he
     cases hb:Nat.beq j id<;>rw[hb] at he
     ·have h1:=eM (N:=N) hm he h;exact Hl (Q:=den P GL n0 Pn Q K) hb h1
     ·have e:j=id:=by simpa using hb
      subst e;have h1:=eM (N:=N) hm he h;exact JN (Q:=den P GL n0 Pn Q K) h1
    |normal=>exact(eM (N:=N) hm he h:Tg.ok _ _ _ _ _ _ _ _)
    |goto l=>exact(eM (N:=N) hm he h:Tg.ok _ _ _ _ _ _ _ _)
    |ret=>exact(eM (N:=N) hm he h:Tg.ok _ _ _ _ _ _ _ _)
   |q R=>
    cases e with
    |normal=>cases he
    |exit j=>exact(eM (N:=N) hm he h:Tg.ok _ _ _ _ _ _ _ _)
    |goto l=>exact(eM (N:=N) hm he h:Tg.ok _ _ _ _ _ _ _ _)
    |ret=>exact(eM (N:=N) hm he h:Tg.ok _ _ _ _ _ _ _ _)
theorem gy{Q:Ex→St→Prop}(h:bu P GL n0 Pn ops ({ o with guard:=none }::rest) Q ⟨n,sl,ob⟩)(hg:Lx ops sl o=some true:=by exact rfl):bu P GL n0 Pn ops (o::rest) Q ⟨n,sl,ob⟩:=F9 hg h
variable {c:Code} {t:Tg} {K K':List Fm}
theorem gc(N:Nat)(h:t.ok P GL n0 Pn K' Q ⟨n,sl',ob'⟩)(hm:ob.length=m:=by simp only[List.length_cons,List.length_nil,Nat.reduceAdd];rfl)(he:run P GL n N (.c c) K m sl ob=.ok t K' sl' ob':=by exact rfl):bq P GL n0 Pn c (den P GL n0 Pn Q K) ⟨n,sl,ob⟩:=eM (t:=.c c) hm he h
variable {l:List Oper}
theorem go(N:Nat)(h:t.ok P GL n0 Pn K' Q ⟨n,sl',ob'⟩)(hm:ob.length=m:=by simp only[List.length_cons,List.length_nil,Nat.reduceAdd];rfl)(he:run P GL n N (.o ops l) K m sl ob=.ok t K' sl' ob':=by exact rfl):bu P GL n0 Pn ops l (den P GL n0 Pn Q K) ⟨n,sl,ob⟩:=eM (t:=.o ops l) hm he h
variable {e:Ex}
theorem ge(N:Nat)(h:t.ok P GL n0 Pn K' Q ⟨n,sl',ob'⟩)(hm:ob.length=m:=by simp only[List.length_cons,List.length_nil,Nat.reduceAdd];rfl)(he:run P GL n N (.e e) K m sl ob=.ok t K' sl' ob':=by exact rfl):den P GL n0 Pn Q K e ⟨n,sl,ob⟩:=eM (t:=.e e) hm he h
variable {K0:List Fm} {m1:Nat} {sl1 sl2:List (Nat×SV)} {ob1:List Ob}
theorem gk(N:Nat)(L:List Nat)(M:Nat){t0:Tg}(h:t.ok P GL n0 Pn K' Q ⟨n,sl',ob'⟩)(hm:ob.length=m)(h1:run P GL n N t0 K0 m sl ob=.ok (.c c) K sl1 ob1)(h2:iZ sl1 L=some sl2)(hm1:ob1.length=m1)(h3:run P GL n M (.c c) K m1 sl2 ob1=.ok t K' sl' ob'):t0.ok P GL n0 Pn K0 Q ⟨n,sl,ob⟩:=
 eM hm h1 (show bq _ _ _ _ _ _ _ from y7 L h2 (eM (t:=.c c) hm1 h3 h))
theorem kc(N:Nat)(L:List Nat)(M:Nat){c0:Code}(h:t.ok P GL n0 Pn K' Q ⟨n,sl',ob'⟩)(hm:ob.length=m:=by simp only[List.length_cons,List.length_nil,Nat.reduceAdd];rfl)(h1:run P GL n N (.c c0) K0 m sl ob=.ok (.c c) K sl1 ob1:=by exact rfl)(h2:iZ sl1 L=some sl2:=by exact rfl)(hm1:ob1.length=m1:=by simp only[List.length_cons,List.length_nil,Nat.reduceAdd];rfl)(h3:run P GL n M (.c c) K m1 sl2 ob1=.ok t K' sl' ob':=by exact rfl):bq P GL n0 Pn c0 (den P GL n0 Pn Q K0) ⟨n,sl,ob⟩:=gk (t0:=.c c0) N L M h hm h1 h2 hm1 h3
theorem ko(N:Nat)(L:List Nat)(M:Nat)(h:t.ok P GL n0 Pn K' Q ⟨n,sl',ob'⟩)(hm:ob.length=m:=by simp only[List.length_cons,List.length_nil,Nat.reduceAdd];rfl)(h1:run P GL n N (.o ops l) K0 m sl ob=.ok (.c c) K sl1 ob1:=by exact rfl)(h2:iZ sl1 L=some sl2:=by exact rfl)(hm1:ob1.length=m1:=by simp only[List.length_cons,List.length_nil,Nat.reduceAdd];rfl)(h3:run P GL n M (.c c) K m1 sl2 ob1=.ok t K' sl' ob':=by exact rfl):bu P GL n0 Pn ops l (den P GL n0 Pn Q K0) ⟨n,sl,ob⟩:=gk (t0:=.o ops l) N L M h hm h1 h2 hm1 h3
theorem ke(N:Nat)(L:List Nat)(M:Nat)(h:t.ok P GL n0 Pn K' Q ⟨n,sl',ob'⟩)(hm:ob.length=m:=by simp only[List.length_cons,List.length_nil,Nat.reduceAdd];rfl)(h1:run P GL n N (.e e) K0 m sl ob=.ok (.c c) K sl1 ob1:=by exact rfl)(h2:iZ sl1 L=some sl2:=by exact rfl)(hm1:ob1.length=m1:=by simp only[List.length_cons,List.length_nil,Nat.reduceAdd];rfl)(h3:run P GL n M (.c c) K m1 sl2 ob1=.ok t K' sl' ob':=by exact rfl):den P GL n0 Pn Q K0 e ⟨n,sl,ob⟩:=gk (t0:=.e e) N L M h hm h1 h2 hm1 h3
end
end Go.Vd
namespace Go.Vd
open Go Go.RowKit
section
variable {P:Program} {GL:Nat→List D} {n0:Nat} {Pn:py}
variable {f:FuncId} {fn:Func} {c:Code} {ob:List Ob} {n:Nat} {rs:List ResultVar} {sl:List (Nat×SV)}
theorem bS{args:List SV}{Q:Out→List Ob→Prop}(hf:P.funcs[f]? =some fn)(hnt:fn.ntmps=n)(k:Nat)(h:bq P GL k (Mv k Q) c (den P GL k (Mv k Q) (fin P GL k rs Q) []) ⟨n,sl,ob⟩)
 (hb:fn.body=some c:=by exact rfl) (hrs:fn.results.toList=rs:=by exact rfl) (hn:Nat.ble args.length n=true:=by exact rfl) (hsl:nB 0 args=some sl:=by exact rfl) (hk:ob.length=k:=by exact rfl):er P GL f ob args Q:=Ad hf hb hnt hrs hn hsl k hk h
theorem bD{args:List D}{Q:D→Prop}(hf:P.funcs[f]? =some fn)(hnt:fn.ntmps=n)(h:bq P GL 0 ⟨fun _ _ _=>False,fun _ _ _ _=>False⟩ c (den P GL 0 ⟨fun _ _ _=>False,fun _ _ _ _=>False⟩ (fin P GL 0 rs (vx Q)) []) ⟨n,sl,[]⟩)
 (hb:fn.body=some c:=by exact rfl) (hrs:fn.results.toList=rs:=by exact rfl) (hn:Nat.ble args.length n=true:=by exact rfl) (hsl:nB 0 (args.map .d)=some sl:=by exact rfl):cC P GL f args Q:=Ae hf hb hnt hrs hn hsl h
variable {Q:Ex→St→Prop} {K:List Fm}
variable {csl:List (Nat×SV)} {ι:Type}
theorem lP(ov:ι→List (Nat×SV))(cs:List Nat)(Inv:ι→Prop)(m:ι→Nat)(i0:ι)(hk:iZ sl cs=some csl)(hI:Inv i0)
 (hm:pz n0 ⟨n,sl,ob⟩ ⟨n,ov i0++csl,ob⟩ (Qn 0 ob.length))
 (h:∀i,Inv i→bq P GL n0 Pn c (den P GL n0 Pn Q (.q (fun σ'=>sn n0 (fun i=>⟨n,ov i++csl,ob⟩) (fun j=>Inv j∧m j<m i) σ')::K)) ⟨n,ov i++csl,ob⟩):bq P GL n0 Pn (.loop c) (den P GL n0 Pn Q K) ⟨n,sl,ob⟩:=
 BC ov cs Inv m i0 hk hI hm h
theorem lp(ov:ι→List (Nat×SV))(obi:ι→List Ob)(cs:List Nat)(Inv:ι→Prop)(m:ι→Nat)(i0:ι)(ρ:List Nat)(hk:iZ sl cs=some csl)(hI:Inv i0)
 (hm:pz n0 ⟨n,sl,ob⟩ ⟨n,ov i0++csl,obi i0⟩ ρ)
 (h:∀i,Inv i→bq P GL n0 Pn c (den P GL n0 Pn Q (.q (fun σ'=>sn n0 (fun i=>⟨n,ov i++csl,obi i⟩) (fun j=>Inv j∧m j<m i) σ')::K)) ⟨n,ov i++csl,obi i⟩):bq P GL n0 Pn (.loop c) (den P GL n0 Pn Q K) ⟨n,sl,ob⟩:=
 BB ov obi cs Inv m i0 ρ hk hI hm h
variable {c1 c2:Code}
theorem xc(ov:ι→List (Nat×SV))(cs:List Nat)(Inv:ι→Prop)(hk:iZ sl cs=some csl)
 (h1:bq P GL n0 Pn c1 (den P GL n0 Pn Q (.q (fun σ'=>sn n0 (fun i=>⟨n,ov i++csl,ob⟩) Inv σ')::K)) ⟨n,sl,ob⟩) (h2:∀i,Inv i→bq P GL n0 Pn c2 (den P GL n0 Pn Q K) ⟨n,ov i++csl,ob⟩):bq P GL n0 Pn c1 (den P GL n0 Pn Q (.s c2::K)) ⟨n,sl,ob⟩:=
 D0 ov cs Inv hk h1 h2
theorem xo(ov:ι→List (Nat×SV))(obi:ι→List Ob)(cs:List Nat)(Inv:ι→Prop)(hk:iZ sl cs=some csl)
 (h1:bq P GL n0 Pn c1 (den P GL n0 Pn Q (.q (fun σ'=>sn n0 (fun i=>⟨n,ov i++csl,obi i⟩) Inv σ')::K)) ⟨n,sl,ob⟩) (h2:∀i,Inv i→bq P GL n0 Pn c2 (den P GL n0 Pn Q K) ⟨n,ov i++csl,obi i⟩):bq P GL n0 Pn c1 (den P GL n0 Pn Q (.s c2::K)) ⟨n,sl,ob⟩:=
 DZ ov obi cs Inv hk h1 h2
variable {sl':List (Nat×SV)} {ob':List Ob}
theorem bk{S:ι→St}{I:ι→Prop}(i:ι)(hS:S i=⟨n,sl',ob'⟩)(hI:I i)(ρ:List Nat)(hm:pz n0 ⟨n,sl,ob⟩ ⟨n,sl',ob'⟩ ρ):Tg.ok P GL n0 Pn (.q (fun σ'=>sn n0 S I σ')::K) Q ⟨n,sl,ob⟩ (.e .normal):=(⟨i,ρ,hI,hS▸hm⟩:sn n0 S I _)
theorem bi{S:ι→St}{I:ι→Prop}(i:ι)(hS:S i=⟨n,sl',ob'⟩)(hI:I i)(hm:pz n0 ⟨n,sl,ob⟩ ⟨n,sl',ob'⟩ (Qn 0 ob'.length)):Tg.ok P GL n0 Pn (.q (fun σ'=>sn n0 S I σ')::K) Q ⟨n,sl,ob⟩ (.e .normal):=(⟨i,_,hI,hS▸hm⟩:sn n0 S I _)
theorem mz{ρ:List Nat}(hob:cb ob ρ ob' ρ:=by repeat (first|exact cG|refine bh ?_|refine cw ?_|refine xT ?_|refine iS ?_|refine Ff ?_))(hsl:ox ob ρ sl sl':=by repeat (first|exact dC|refine aH ?_))(hp:pre 0 n0 ρ=true:=by exact rfl)(hnd:fw ρ=true:=by exact rfl)(hno:fT ob'=true:=by exact rfl):pz n0 ⟨n,sl,ob⟩ ⟨n,sl',ob'⟩ ρ:=Cq hp hnd hno hob hsl
variable {σ:St} {b:Bool} {p q:Prop}
theorem cj{c:Operand}(h1:p→bq P GL n0 Pn c1 Q σ)(h2:q→bq P GL n0 Pn c2 Q σ)(hc:bR GL σ.sl c=some (.d (.v (.bool b))):=by exact rfl)
 (hp:(b=true)=p:=by first|(simp only[dq,Int.reduceEq,Int.reduceNe,Int.reduceLT,Int.reduceLE];exact rfl)|exact rfl) (hq:(b=false)=q:=by first|(simp only[dq,Int.reduceEq,Int.reduceNe,Int.reduceLT,Int.reduceLE];exact rfl)|exact rfl):bq P GL n0 Pn (.cond c c1 c2) Q σ:=jX hc (fun h=>h1 (hp▸h)) (fun h=>h2 (hq▸h))
theorem cJ{c:Operand}(h2:q→bq P GL n0 Pn c2 Q σ)(h1:p→bq P GL n0 Pn c1 Q σ)(hc:bR GL σ.sl c=some (.d (.v (.bool b))):=by exact rfl)
 (hp:(b=true)=p:=by first|(simp only[dq,Int.reduceEq,Int.reduceNe,Int.reduceLT,Int.reduceLE];exact rfl)|exact rfl) (hq:(b=false)=q:=by first|(simp only[dq,Int.reduceEq,Int.reduceNe,Int.reduceLT,Int.reduceLE];exact rfl)|exact rfl):bq P GL n0 Pn (.cond c c1 c2) Q σ:=jX hc (fun h=>h1 (hp▸h)) (fun h=>h2 (hq▸h))
theorem ct{c:Operand}(h:bq P GL n0 Pn c1 Q σ)(hc:bR GL σ.sl c=some (.d (.v (.bool b))):=by exact rfl)(hf:(b=false)=False:=by simp only[dq,Int.reduceEq,Int.reduceNe,Int.reduceLT,Int.reduceLE]):bq P GL n0 Pn (.cond c c1 c2) Q σ:=jX hc (fun _=>h) (fun e=>(hf▸e:False).elim)
theorem cf{c:Operand}(h:bq P GL n0 Pn c2 Q σ)(hc:bR GL σ.sl c=some (.d (.v (.bool b))):=by exact rfl)(hf:(b=true)=False:=by simp only[dq,Int.reduceEq,Int.reduceNe,Int.reduceLT,Int.reduceLE]):bq P GL n0 Pn (.cond c c1 c2) Q σ:=jX hc (fun e=>(hf▸e:False).elim) (fun _=>h)
variable {d t:Nat} {y:SV}
theorem nQ{x:SV}(hd:gI d sl=some y)(h:gI t sl=some x):gI t ((d,y)::sl)=some x:=by
 show cond (Nat.beq d t) (some y) (gI t sl)=some x;cases hb:Nat.beq d t
 ·exact h
 ·have e:d=t:=by simpa using hb
  subst e;exact hd.symm.trans h
variable {ops l:List Oper}
theorem qK{s:SV}{nw:List (Nat×SV)}(hy:gI d sl=some y)(hd:nj nw ((d,y)::sl)=true)(h:bu P GL n0 Pn ops l Q ⟨n,(t,s)::sl,ob⟩):bu P GL n0 Pn ops l Q ⟨n,(t,s)::(nw++(d,y)::sl),ob⟩:=fun B hB a w ⟨g,hr⟩=>
 h B hB a w ⟨g,hr.defers,hr.size,fun u=>by
  have h1:=hr.c7 u;show(oF u ((t,s)::sl)).Den g _;rw[eL] at h1 ⊢;split
  ·rename_i e;rw[if_pos e] at h1;exact h1
  ·rename_i e;rw[if_neg e] at h1;rw[Ah] at h1 ⊢;cases hs:gI u sl with
   |none=>trivial
   |some x=>rw[fV hd (nQ hy hs)] at h1;exact h1,hr.store,hr.fH⟩
variable {o:Oper}
theorem MY.over(hy:gI d sl=some y)(h:MY ops sl o):MY ops ((d,y)::sl) o:=by
 cases h with
 |none h=>exact .none h
 |yes h1 h2 h3 h4=>exact .yes h1 h2 (nQ hy h3) h4
variable {rest:List Oper} {yt:Nat} {q1 q2:Prop}
theorem oa{p:Bool}(k:Nat)
 (h1:q1→(∀ nw,gI yt nw=some (.d (.v (.bool p)))→nj nw ((d,.d (.v (.bool true)))::sl)=true→bu P GL n0 Pn ops (o::rest) Q ⟨n,nw++(d,.d (.v (.bool true)))::sl,ob⟩)→bu P GL n0 Pn ops l Q ⟨n,(d,.d (.v (.bool true)))::sl,ob⟩)
 (h2:q2→(∀ nw,nj nw ((d,.d (.v (.bool false)))::sl)=true→bu P GL n0 Pn ops (o::rest) Q ⟨n,nw++(d,.d (.v (.bool false)))::sl,ob⟩)→bu P GL n0 Pn ops l Q ⟨n,(d,.d (.v (.bool false)))::sl,ob⟩)
 (h:bu P GL n0 Pn ops rest Q ⟨n,(t,.d (.v (.bool (b&&p))))::sl,ob⟩)
 (hl:gR k l=some (o::rest):=by exact rfl) (ho:o.op=.pick (.tmp d) (.tmp yt) (.const (.bool false)):=by exact rfl) (hb:gI d sl=some (.d (.v (.bool b))):=by exact rfl) (hd:o.dst=some t:=by exact rfl) (ht:Nat.blt t n=true:=by exact rfl)
 (hp:(b=true)=q1:=by first|(simp only[dq,Int.reduceEq,Int.reduceNe,Int.reduceLT,Int.reduceLE];exact rfl)|exact rfl) (hq:(b=false)=q2:=by first|(simp only[dq,Int.reduceEq,Int.reduceNe,Int.reduceLT,Int.reduceLE];exact rfl)|exact rfl) (hg:MY ops sl o:=by exact .none rfl):bu P GL n0 Pn ops l Q ⟨n,sl,ob⟩:=by
 cases hbb:b with
 |true=>
  subst hbb;refine my d true hb rfl (h1 (hp▸rfl) fun nw hy hdj=>nh (hg.over hb) hdj (nF rfl hd ht (oe ho (fV hdj (nQ hb hb)) (tc hy) ?_)));exact qK hb hdj (by simpa using h)
 |false=>
  subst hbb;refine my d false hb rfl (h2 (hq▸rfl) fun nw hdj=>nh (hg.over hb) hdj (nF rfl hd ht (og ho (fV hdj (nQ hb hb)) rfl ?_)));exact qK hb hdj (by simpa using h)
theorem oo{p:Bool}(k:Nat)
 (h1:q1→(∀ nw,gI yt nw=some (.d (.v (.bool p)))→nj nw ((d,.d (.v (.bool false)))::sl)=true→bu P GL n0 Pn ops (o::rest) Q ⟨n,nw++(d,.d (.v (.bool false)))::sl,ob⟩)→bu P GL n0 Pn ops l Q ⟨n,(d,.d (.v (.bool false)))::sl,ob⟩)
 (h2:q2→(∀ nw,nj nw ((d,.d (.v (.bool true)))::sl)=true→bu P GL n0 Pn ops (o::rest) Q ⟨n,nw++(d,.d (.v (.bool true)))::sl,ob⟩)→bu P GL n0 Pn ops l Q ⟨n,(d,.d (.v (.bool true)))::sl,ob⟩)
 (h:bu P GL n0 Pn ops rest Q ⟨n,(t,.d (.v (.bool (b||p))))::sl,ob⟩)
 (hl:gR k l=some (o::rest):=by exact rfl) (ho:o.op=.pick (.tmp d) (.const (.bool true)) (.tmp yt):=by exact rfl) (hb:gI d sl=some (.d (.v (.bool b))):=by exact rfl) (hd:o.dst=some t:=by exact rfl) (ht:Nat.blt t n=true:=by exact rfl)
 (hp:(b=false)=q1:=by first|(simp only[dq,Int.reduceEq,Int.reduceNe,Int.reduceLT,Int.reduceLE];exact rfl)|exact rfl) (hq:(b=true)=q2:=by first|(simp only[dq,Int.reduceEq,Int.reduceNe,Int.reduceLT,Int.reduceLE];exact rfl)|exact rfl) (hg:MY ops sl o:=by exact .none rfl):bu P GL n0 Pn ops l Q ⟨n,sl,ob⟩:=by
 cases hbb:b with
 |false=>
  subst hbb;refine my d false hb rfl (h1 (hp▸rfl) fun nw hy hdj=>nh (hg.over hb) hdj (nF rfl hd ht (og ho (fV hdj (nQ hb hb)) (tc hy) ?_)));exact qK hb hdj (by simpa using h)
 |true=>
  subst hbb;refine my d true hb rfl (h2 (hq▸rfl) fun nw hdj=>nh (hg.over hb) hdj (nF rfl hd ht (oe ho (fV hdj (nQ hb hb)) rfl ?_)));exact qK hb hdj (by simpa using h)
variable {ty:TypeId} {ti:TI} {k:Nat}
theorem qu{K:St→Prop}{cs:List SV}(hT:bj P ty=ti)(h:K ⟨n,(t,.b0 k 0)::sl,ob'⟩)(ho:o.op=.alloc ty:=by exact rfl)(hd:o.dst=some t:=by exact rfl)(hz:ti.KS=true:=by exact rfl)(ht:Nat.blt t n=true:=by exact rfl)(hm:ph ti.zero=some cs:=by exact rfl)(hob:hZ ob [.cells cs ty]=some ob':=by exact rfl)(hl:ob.length=k:=by simp only[List.length_cons,List.length_nil,Nat.reduceAdd];rfl):dh P GL n0 Pn (fun _=>False) o ⟨n,sl,ob⟩ K:=Ce hT hz ho hd ht hm hl hob h
variable {e:TypeId} {size bytes:Nat}
theorem gK{len:Nat}{K:St→Prop}{parts:Array (Nat×Operand)}(TS:iW P ty e size bytes)(xs:List Operand){els:List (List D)}(hT:bj P e=ti)(h:K ⟨n,(t,.own k size els)::sl,ob'⟩)(ho:o.op=.buildSlice ty len parts:=by exact rfl)
 (hd:o.dst=some t:=by exact rfl) (ht:Nat.blt t n=true:=by exact rfl) (hp:Hm 0 xs=some parts.toList:=by exact rfl) (hel:HL GL sl ti.agg xs=some els:=by exact rfl) (hall:Dq size els=true:=by exact rfl) (hn:xs.length=len:=by exact rfl) (hsz:0<size:=by decide) (hn0:0<len:=by decide) (hbig:len*size≤16777216:=by decide) (hl:ob.length=k:=by simp only[List.length_cons,List.length_nil,Nat.reduceAdd];rfl) (hob:hZ ob [.row e size]=some ob':=by exact rfl):dh P GL n0 Pn (fun _=>False) o ⟨n,sl,ob⟩ K:=Nt TS xs hT ho hd ht hp hel hall hn hsz hn0 hbig hl hob h
theorem px{i:Nat}{ob1:List Ob}{K:St→Prop}{s x:Operand}{ls news:List (List D)}{or:Ob}{sx:SV}(TS:iW P ty e size bytes)(h:K ⟨n,(t,.own i size (ls++news))::sl',ob'⟩)(ho:o.op=.call { callee:=.builtin .append,args:= #[s,x],argTypes:= #[ty,ty] }:=by exact rfl)
 (hd:o.dst=some t:=by exact rfl) (ht:Nat.blt t n=true:=by exact rfl) (hs:bR GL sl s=some (.own i size ls):=by exact rfl) (hx:bR GL sl x=some sx:=by exact rfl) (hxD:sx.gV=some (.sl size news):=by exact rfl) (hi:cV i ob=some or:=by exact rfl) (hor:or=.row e size∨or=.bW e size:=by exact .inl rfl)
 (hsz:0<size:=by decide) (hne:news≠[]:=by simp) (h63:ls.length+news.length≤maxLen∧(ls.length+news.length)*bytes≤140737488355328:=by first|decide|(simp only[maxLen,List.length_cons,List.length_nil];omega)|(simp only[maxLen,List.length_cons,List.length_nil,List.length_append,List.length_map];omega)|omega) (hsl:Bb i sl=some sl':=by exact rfl) (hob:Bc i ob=some ob1:=by exact rfl) (hob':gS i (.row e size) ob1=some ob':=by exact rfl):dh P GL n0 Pn (fun j=>j=i) o ⟨n,sl,ob⟩ K:=uh TS ho hd ht hs hx hxD hi hor hsz hne h63 hsl hob hob' h
theorem fN{Q:Out→List Ob→Prop}(h:Fin P GL n0 rs Q σ):fin P GL n0 rs Q .normal σ:=h
end
section
variable {P:Program} [T:jO P] {GL:Nat→List D} {n0:Nat} {Pn:py}
def BK(P:Program)[T:jO P](sl:List (Nat×SV))(ob:List Ob):List ResultVar→Option (List SV)
 |[]=>some []
 | .tmp t::r=>(gI t sl).bind fun s=>(BK P sl ob r).bind fun l=>some (s::l)
 | .cell x t::r=>(Ng P t).bind fun ti=>cond ti.ok (match gI x sl with
  |some (.b0 i off)=>match cV i ob with
   |some (.cells l _)=>(gR off l).bind fun l1=>(nM ti.size l1).bind fun cs=>(od ti.agg cs).bind fun s=>(BK P sl ob r).bind fun l=>some (s::l)
   |_=>none
  |_=>none) none
theorem qG{n:Nat}{sl:List (Nat×SV)}{ob:List Ob}:∀{rs:List ResultVar} {l:List SV},BK P sl ob rs=some l→gZ GL P ⟨n,sl,ob⟩ rs l
 |[],l,h=>by simp only[BK,Option.some.injEq] at h;exact h.symm
 | .tmp t::r,l,h=>by
  obtain⟨s,h1,h⟩:=Option.bind_eq_some_iff.1 h;obtain⟨l1,h2,h3⟩:=Option.bind_eq_some_iff.1 h;cases h3;exact⟨_,_,rfl,h1,qG h2⟩
 | .cell x t::r,l,h=>by
  obtain⟨ti,h1,h⟩:=Option.bind_eq_some_iff.1 h;cases hz:ti.ok<;>rw[hz] at h
  ·cases h
  simp only[cond_true] at h;split at h
  ·rename_i i off he;split at h
   ·rename_i l0 ty hi;obtain⟨l1,h2,h⟩:=Option.bind_eq_some_iff.1 h;obtain⟨cs,h3,h⟩:=Option.bind_eq_some_iff.1 h;obtain⟨s,h4,h⟩:=Option.bind_eq_some_iff.1 h;obtain⟨l2,h5,h6⟩:=Option.bind_eq_some_iff.1 h;cases h6;exact⟨_,_,rfl,dY he hi (rF P _ _ h1) hz h2 h3 h4,qG h5⟩
   ·cases h
  ·cases h
variable {rs:List ResultVar} {σ:St}
theorem fR{Q:Out→List Ob→Prop}(h:Fin P GL n0 rs Q σ):Tg.ok P GL n0 Pn [] (fin P GL n0 rs Q) σ (.e .ret):=h
theorem fM{Q:Out→List Ob→Prop}(h:Fin P GL n0 rs Q σ):Tg.ok P GL n0 Pn [] (fin P GL n0 rs Q) σ (.e .normal):=h
variable {n:Nat} {sl:List (Nat×SV)} {ob:List Ob}
theorem eo{Q:Out→List Ob→Prop}{l:List SV}{d:D}(d':D)(ρ:List Nat)(ob':List Ob)(hq:Q (.ret (.d d')) ob')(h:BK P sl ob rs=some l:=by exact rfl)(hd:(pQ l).gV=some d:=by exact rfl)(hl:Dw d d':=by repeat (first|exact .refl _|exact .nil|refine .agg ?_|refine .bY ?_|refine .sl ?_|refine .cons ?_ ?_))
 (hob:cb ob ρ ob' ρ:=by repeat (first|exact cG|refine bh ?_|refine cw ?_|refine xT ?_|refine iS ?_|refine Ff ?_)) (hp:pre 0 n0 ρ=true:=by exact rfl) (hnd:fw ρ=true:=by exact rfl) (hno:fT ob'=true:=by exact rfl):Tg.ok P GL n0 Pn [] (fin P GL n0 rs Q) ⟨n,sl,ob⟩ (.e .ret):=
 ni (n0:=n0) (qG h) hd d' hl ρ ob' hp hnd hno hob hq
theorem ed{Q:D→Prop}{l:List SV}{d:D}(d':D)(hq:Q d')(h:BK P sl ob rs=some l:=by exact rfl)(hd:(pQ l).gV=some d:=by exact rfl)(hl:Dw d d':=by repeat (first|exact .refl _|exact .nil|refine .agg ?_|refine .bY ?_|refine .sl ?_|refine .cons ?_ ?_)):Tg.ok P GL 0 Pn [] (fin P GL 0 rs (vx Q)) ⟨n,sl,ob⟩ (.e .ret):=
 NZ (qG h) hd d' hl hq
theorem ez{Q:D→Prop}{l:List SV}{d:D}(hq:Q d)(h:BK P sl ob rs=some l:=by exact rfl)(hd:(pQ l).gV=some d:=by exact rfl):Tg.ok P GL 0 Pn [] (fin P GL 0 rs (vx Q)) ⟨n,sl,ob⟩ (.e .ret):=
 MA (qG h) hd hq
theorem sy{Q:Out→List Ob→Prop}{l:List SV}{d:D}(ρ:List Nat)(ob':List Ob)(hq:Q (.ret (.d d)) ob')(h:BK P sl ob rs=some l:=by exact rfl)(hd:(pQ l).gV=some d:=by exact rfl)
 (hob:cb ob ρ ob' ρ:=by repeat (first|exact cG|refine bh ?_|refine cw ?_|refine xT ?_|refine iS ?_|refine Ff ?_)) (hp:pre 0 n0 ρ=true:=by exact rfl) (hnd:fw ρ=true:=by exact rfl) (hno:fT ob'=true:=by exact rfl):Tg.ok P GL n0 Pn [] (fin P GL n0 rs Q) ⟨n,sl,ob⟩ (.e .ret):=
 jL (n0:=n0) (qG h) hd ρ ob' hp hnd hno hob hq
variable {l:List Oper} {o:Oper} {b:Bool}
theorem Mz{B:Bs}{g:Gh}{a:Act}{w:World}(hr:cD GL B ⟨n,sl,ob⟩ g a w)(h:Lx l sl o=some b):Region.wanted o (yielded l.toArray a.tmps)=b:=by
 unfold Lx at h;split at h
 ·rename_i hg;cases h;simp[Region.wanted,hg]
 ·rename_i j want hg;obtain⟨d',h1,h2⟩:=Option.bind_eq_some_iff.1 h;split at h2
  ·rename_i hs;rw[jc hr hg h1 hs];simp only[Option.some.injEq] at h2;rw[← h2];cases want<;>rfl
  ·rename_i hs;rw[jc hr hg h1 hs];simp only[Option.some.injEq] at h2;rw[← h2];cases want<;>rfl
  ·rename_i x hs;cases h2;have hbv:a.tmps.getD d' undef=.tuple x:=by have:=hr.c7 d';rw[ft hs] at this;exact this
   exact oy hg (by simpa using h1) hbv
  ·cases h2
def Iu(P:Program)[T:jO P](GL:Nat→List D)(n:Nat)(ops:List Oper)(ob:List Ob):List Nat→List (Nat×Nat)→List (Nat×SV)→Option (List (Nat×Nat)×List (Nat×SV))
 |[],L,sl=>some (L,sl)
 |i::r,L,sl=>match cV i ops with
  |some o=>match o.dst with
   |some d=>cond (Nat.blt d n) (match Lx ops sl o with
    |some true=>match Qo P GL sl ob o.op with
     |some (s,L')=>match yd i L' L with
      |some L2=>Iu P GL n ops ob r L2 ((d,s)::sl)
      |none=>none
     |none=>none
    |some false=>Iu P GL n ops ob r L ((d,.d (.v undef))::sl)
    |none=>none) none
   |none=>none
  |none=>none
def Kq(ops:List Oper):List Nat→Array Bool→Bool
 |[],_=>true
 |i::r,listed=>((Region.ready .any ops.toArray listed).contains i&&Region.free .any ops.toArray listed i&&Region.noSelect ops.toArray)&&Kq ops r (listed.setIfInBounds i true)
def Ld:List Nat→Array Bool→Array Bool
 |[],l=>l
 |i::r,l=>Ld r (l.setIfInBounds i true)
variable {fuel t:Nat} {listed:Array Bool}
theorem Is{Q:Ex→St→Prop}{L:List (Nat×Nat)}(i:Nat)(ho:l[i]? =some o)(hw:∀B g a w,cD GL B ⟨n,sl,ob⟩ g a w→Region.wanted o (yielded l.toArray a.tmps)=false)(hd:o.dst=some t)(ht:Nat.blt t n=true)
 (hb:((Region.ready .any l.toArray listed).contains i&&Region.free .any l.toArray listed i&&Region.noSelect l.toArray)=true)
 (h:bJ P GL n0 Pn l fuel (listed.setIfInBounds i true) L Q ⟨n,(t,.d (.v undef))::sl,ob⟩):bJ P GL n0 Pn l (fuel+1) listed L Q ⟨n,sl,ob⟩:=fun B hB g a w Hc hr hc hheld=>by
 simp only[Bool.and_eq_true] at hb;obtain⟨⟨hready,hfree⟩,hsel⟩:=hb;have ho':l.toArray[i]? =some o:=by simpa using ho
 refine tL (uq ho) ho' (Region.noSelect_spec hsel) fuel _ listed a w (Region.free_spec ho' hfree) (by simpa using hready) (v:=undef) (.inr ⟨hw B g a w hr,rfl⟩) hc ?_;rw[hd];exact h B hB g _ w _ (hr.q9 (s:=.d (.v undef)) ht rfl) hc hheld
theorem A0{Q:Ex→St→Prop}{l:List Oper}{fuel:Nat}{n:Nat}{ob:List Ob}:∀{is:List Nat} {listed:Array Bool} {L L':List (Nat×Nat)} {sl sl':List (Nat×SV)},Iu P GL n l ob is L sl=some (L',sl')→Kq l is listed=true→bJ P GL n0 Pn l fuel (Ld is listed) L' Q ⟨n,sl',ob⟩→bJ P GL n0 Pn l (fuel+is.length) listed L Q ⟨n,sl,ob⟩
 |[],listed,L,L',sl,sl',h,hc,hr=>by cases h;exact hr
 |i::r,listed,L,L',sl,sl',h,hc,hr=>by
  unfold Iu at h;unfold Kq at hc;obtain⟨hc1,hc2⟩:=(Bool.and_eq_true _ _).mp hc;split at h
  ·rename_i o ho;split at h
   ·rename_i d hd;cases hb:Nat.blt d n<;>rw[hb] at h
    ·cases h
    simp only[cond_true] at h;split at h
    ·rename_i hg;split at h
     ·rename_i s L1 hs;split at h
      ·rename_i L2 hL;exact uM (fuel:=fuel+r.length) i (bQ ho) (fun B g a w hr=>Mz hr hg) hd hb hc1 rfl (Kb hs ⟨L2,hL,A0 h hc2 hr⟩)
      ·cases h
     ·cases h
    ·rename_i hg;exact Is (fuel:=fuel+r.length) i (bQ ho) (fun B g a w hr=>Mz hr hg) hd hb hc1 (A0 h hc2 hr)
    ·cases h
   ·cases h
  ·cases h
variable {fuel':Nat} {listed':Array Bool} {sl':List (Nat×SV)}
theorem ga(is:List Nat){Q:Ex→St→Prop}{L L':List (Nat×Nat)}(h:bJ P GL n0 Pn l fuel' listed' L' Q ⟨n,sl',ob⟩)(he:Iu P GL n l ob is L sl=some (L',sl'):=by exact rfl)(hc:Kq l is listed=true:=by kernel_rfl)(hl:Ld is listed=listed':=by exact rfl)
 (hf:Nat.sub fuel is.length=fuel':=by exact rfl) (hle:Nat.ble is.length fuel=true:=by exact rfl):bJ P GL n0 Pn l fuel listed L Q ⟨n,sl,ob⟩:=by
 subst hl hf;have h1:=A0 he hc h;have h2:is.length≤fuel:=by simpa using hle
 have e:Nat.sub fuel is.length+is.length=fuel:=Nat.sub_add_cancel h2
 rwa [e] at h1
theorem gz(is:List Nat){Q:Ex→St→Prop}{id:Nat}{L':List (Nat×Nat)}(hm:P.follows .mixedOrders=true)(h:bJ P GL n0 Pn l fuel' listed' L' Q ⟨n,sl',ob⟩)(hfu:l.length=fuel:=by exact rfl)(hli:Array.replicate fuel false=listed:=by exact rfl)
 (he:Iu P GL n l ob is [] sl=some (L',sl'):=by exact rfl) (hc:Kq l is listed=true:=by kernel_rfl) (hl:Ld is listed=listed':=by exact rfl)
 (hf:Nat.sub fuel is.length=fuel':=by exact rfl) (hle:Nat.ble is.length fuel=true:=by exact rfl):bq P GL n0 Pn (.region id l.toArray true) Q ⟨n,sl,ob⟩:=GB (ga is h he hc hl hf hle) hfu hli hm
end
end Go.Vd
namespace Go.Proofs.YtndbnldjidciiaaGreatDoor
section
open Go Go.Vd
theorem FI:bj Tryz.prog 3=⟨true,1,false,[],false,[.int .i64 0],true,0,none,[.int .i64]⟩:=by kernel_rfl
theorem Re:Tryz.prog.underlying 3=some (.int .i64):=by kernel_rfl
theorem Rs:(Tryz.prog.underlying 3).isSome=true:=by kernel_rfl
theorem Rw:bj Tryz.prog 4=⟨true,1,false,[],false,[.bool false],true,0,none,[.bool]⟩:=by kernel_rfl
theorem Rt:Tryz.prog.underlying 4=some .bool:=by kernel_rfl
theorem Rv:bj Tryz.prog 5=⟨true,1,false,[],false,[.int .u8 0],true,0,none,[.int .u8]⟩:=by kernel_rfl
theorem Rd:Tryz.prog.underlying 5=some (.int .u8):=by kernel_rfl
theorem Rr:(Tryz.prog.underlying 5).isSome=true:=by kernel_rfl
theorem GQ:bj Tryz.prog 9=⟨true,1,false,[],false,[.string .empty],true,0,none,[.str]⟩:=by kernel_rfl
theorem uP:Tryz.prog.underlying 9=some .string:=by kernel_rfl
theorem Pj:rq Tryz.prog 20=true:=by kernel_rfl
theorem Qz:bj Tryz.prog 22=⟨true,1,false,[],false,[.slice none 0 0],true,28,none,[.slice]⟩:=by kernel_rfl
theorem DF:Tryz.prog.underlying 22=some (.slice (bj Tryz.prog 22).elem):=by kernel_rfl
theorem K6:bj Tryz.prog (bj Tryz.prog 22).elem=⟨true,6,true,[(0,1,false),(1,1,false),(2,1,false),(3,1,false),(4,1,false),(5,1,false)],true,[.int .i64 0,.string .empty,.string .empty,.string .empty,.int .i64 0,.int .i64 0],true,0,none,[.int .i64,.str,.str,.str,.int .i64,.int .i64]⟩:=by kernel_rfl
theorem OR:Tryz.prog.underlying 24=some (.slice (bj Tryz.prog 24).elem):=by kernel_rfl
theorem QB:bj Tryz.prog (bj Tryz.prog 24).elem=⟨true,8,true,[(0,6,true),(6,2,true)],true,[.int .i64 0,.string .empty,.string .empty,.string .empty,.int .i64 0,.int .i64 0,.pointer none,.pointer none],true,0,none,[.int .i64,.str,.str,.str,.int .i64,.int .i64,.ptr,.ptr]⟩:=by kernel_rfl
theorem O4:iW Tryz.prog 24 34 8 88:=⟨by kernel_rfl,by kernel_rfl,by kernel_rfl⟩
theorem Qy:bj Tryz.prog 28=⟨true,6,true,[(0,1,false),(1,1,false),(2,1,false),(3,1,false),(4,1,false),(5,1,false)],true,[.int .i64 0,.string .empty,.string .empty,.string .empty,.int .i64 0,.int .i64 0],true,0,none,[.int .i64,.str,.str,.str,.int .i64,.int .i64]⟩:=by kernel_rfl
theorem Qx:bj Tryz.prog 29=⟨true,1,false,[],false,[.pointer none],true,98,none,[.ptr]⟩:=by kernel_rfl
theorem OU:Tryz.prog.underlying 29=some (.pointer 98):=by kernel_rfl
theorem Qw:bj Tryz.prog 30=⟨true,1,false,[],false,[.pointer none],true,47,none,[.ptr]⟩:=by kernel_rfl
theorem OT:Tryz.prog.underlying 30=some (.pointer 47):=by kernel_rfl
theorem K5:bj Tryz.prog 32=⟨true,2,true,[(0,1,false),(1,1,false)],true,[.pointer none,.pointer none],true,0,none,[.ptr,.ptr]⟩:=by kernel_rfl
theorem OY:bj Tryz.prog 34=⟨true,8,true,[(0,6,true),(6,2,true)],true,[.int .i64 0,.string .empty,.string .empty,.string .empty,.int .i64 0,.int .i64 0,.pointer none,.pointer none],true,0,none,[.int .i64,.str,.str,.str,.int .i64,.int .i64,.ptr,.ptr]⟩:=by kernel_rfl
theorem vy:bj Tryz.prog 36=⟨true,1,false,[],false,[.slice none 0 0],true,121,none,[.slice]⟩:=by kernel_rfl
theorem fm:Tryz.prog.underlying 36=some (.slice (bj Tryz.prog 36).elem):=by kernel_rfl
theorem fG:bj Tryz.prog (bj Tryz.prog 36).elem=⟨true,3,true,[(0,1,false),(1,1,false),(2,1,false)],true,[.int .i64 0,.string .empty,.slice none 0 0],true,0,none,[.int .i64,.str,.slice]⟩:=by kernel_rfl
theorem jg:iW Tryz.prog 36 121 3 48:=⟨by kernel_rfl,by kernel_rfl,by kernel_rfl⟩
theorem DI:bj Tryz.prog 37=⟨true,1,false,[],false,[.slice none 0 0],true,39,none,[.slice]⟩:=by kernel_rfl
theorem bA:Tryz.prog.underlying 37=some (.slice (bj Tryz.prog 37).elem):=by kernel_rfl
theorem bG:bj Tryz.prog (bj Tryz.prog 37).elem=⟨true,5,true,[(0,1,false),(1,1,false),(2,1,false),(3,1,false),(4,1,false)],true,[.int .i64 0,.int .i64 0,.string .empty,.slice none 0 0,.slice none 0 0],true,0,none,[.int .i64,.int .i64,.str,.slice,.slice]⟩:=by kernel_rfl
theorem dL:iW Tryz.prog 37 39 5 80:=⟨by kernel_rfl,by kernel_rfl,by kernel_rfl⟩
theorem bt:bj Tryz.prog 39=⟨true,5,true,[(0,1,false),(1,1,false),(2,1,false),(3,1,false),(4,1,false)],true,[.int .i64 0,.int .i64 0,.string .empty,.slice none 0 0,.slice none 0 0],true,0,none,[.int .i64,.int .i64,.str,.slice,.slice]⟩:=by kernel_rfl
theorem Qv:bj Tryz.prog 41=⟨true,12,true,[(0,1,false),(1,5,true),(6,5,true),(11,1,false)],true,[.bool false,.int .i64 0,.int .i64 0,.string .empty,.slice none 0 0,.slice none 0 0,.int .i64 0,.int .i64 0,.string .empty,.slice none 0 0,.slice none 0 0,.int .i64 0],true,0,none,[.bool,.int .i64,.int .i64,.str,.slice,.slice,.int .i64,.int .i64,.str,.slice,.slice,.int .i64]⟩:=by kernel_rfl
theorem IM:bj Tryz.prog 45=⟨true,1,false,[],false,[.slice none 0 0],true,63,none,[.slice]⟩:=by kernel_rfl
theorem Bi:Tryz.prog.underlying 45=some (.slice (bj Tryz.prog 45).elem):=by kernel_rfl
theorem DJ:bj Tryz.prog (bj Tryz.prog 45).elem=⟨true,21,true,[(0,15,true),(15,1,false),(16,5,true)],true,[.int .i64 0,.string .empty,.slice none 0 0,.int .i64 0,.int .i64 0,.string .empty,.slice none 0 0,.slice none 0 0,.int .i64 0,.int .i64 0,.string .empty,.slice none 0 0,.slice none 0 0,.int .i64 0,.slice none 0 0,.slice none 0 0,.int .i64 0,.int .i64 0,.string .empty,.slice none 0 0,.slice none 0 0],true,0,none,[.int .i64,.str,.slice,.int .i64,.int .i64,.str,.slice,.slice,.int .i64,.int .i64,.str,.slice,.slice,.int .i64,.slice,.slice,.int .i64,.int .i64,.str,.slice,.slice]⟩:=by kernel_rfl
theorem DP:iW Tryz.prog 45 63 21 344:=⟨by kernel_rfl,by kernel_rfl,by kernel_rfl⟩
theorem Qu:bj Tryz.prog 47=⟨true,2,true,[(0,1,false),(1,1,false)],true,[.slice none 0 0,.bool false],true,0,none,[.slice,.bool]⟩:=by kernel_rfl
theorem GU:bj Tryz.prog 49=⟨true,1,false,[],false,[.nilIface],true,0,none,[.any]⟩:=by kernel_rfl
theorem Ph:rq Tryz.prog 49=true:=by kernel_rfl
theorem GS:bj Tryz.prog 57=⟨true,1,false,[],false,[.slice none 0 0],true,9,none,[.slice]⟩:=by kernel_rfl
theorem pI:Tryz.prog.underlying 57=some (.slice (bj Tryz.prog 57).elem):=by kernel_rfl
theorem tV:bj Tryz.prog (bj Tryz.prog 57).elem=⟨true,1,false,[],false,[.string .empty],true,0,none,[.str]⟩:=by kernel_rfl
theorem rH:iW Tryz.prog 57 9 1 16:=⟨by kernel_rfl,by kernel_rfl,by kernel_rfl⟩
theorem Qt:bj Tryz.prog 59=⟨true,1,false,[],false,[.slice none 0 0],true,65,none,[.slice]⟩:=by kernel_rfl
theorem yb:Tryz.prog.underlying 59=some (.slice (bj Tryz.prog 59).elem):=by kernel_rfl
theorem Af:bj Tryz.prog (bj Tryz.prog 59).elem=⟨true,6,true,[(0,1,false),(1,5,true)],true,[.string .empty,.int .i64 0,.int .i64 0,.string .empty,.slice none 0 0,.slice none 0 0],true,0,none,[.str,.int .i64,.int .i64,.str,.slice,.slice]⟩:=by kernel_rfl
theorem O3:iW Tryz.prog 59 65 6 96:=⟨by kernel_rfl,by kernel_rfl,by kernel_rfl⟩
theorem GR:bj Tryz.prog 61=⟨true,15,true,[(0,1,false),(1,1,false),(2,1,false),(3,5,true),(8,5,true),(13,1,false),(14,1,false)],true,[.int .i64 0,.string .empty,.slice none 0 0,.int .i64 0,.int .i64 0,.string .empty,.slice none 0 0,.slice none 0 0,.int .i64 0,.int .i64 0,.string .empty,.slice none 0 0,.slice none 0 0,.int .i64 0,.slice none 0 0],true,0,none,[.int .i64,.str,.slice,.int .i64,.int .i64,.str,.slice,.slice,.int .i64,.int .i64,.str,.slice,.slice,.int .i64,.slice]⟩:=by kernel_rfl
theorem DH:bj Tryz.prog 63=⟨true,21,true,[(0,15,true),(15,1,false),(16,5,true)],true,[.int .i64 0,.string .empty,.slice none 0 0,.int .i64 0,.int .i64 0,.string .empty,.slice none 0 0,.slice none 0 0,.int .i64 0,.int .i64 0,.string .empty,.slice none 0 0,.slice none 0 0,.int .i64 0,.slice none 0 0,.slice none 0 0,.int .i64 0,.int .i64 0,.string .empty,.slice none 0 0,.slice none 0 0],true,0,none,[.int .i64,.str,.slice,.int .i64,.int .i64,.str,.slice,.slice,.int .i64,.int .i64,.str,.slice,.slice,.int .i64,.slice,.slice,.int .i64,.int .i64,.str,.slice,.slice]⟩:=by kernel_rfl
theorem OX:bj Tryz.prog 65=⟨true,6,true,[(0,1,false),(1,5,true)],true,[.string .empty,.int .i64 0,.int .i64 0,.string .empty,.slice none 0 0,.slice none 0 0],true,0,none,[.str,.int .i64,.int .i64,.str,.slice,.slice]⟩:=by kernel_rfl
theorem OW:bj Tryz.prog 70=⟨true,1,false,[],false,[.slice none 0 0],true,61,none,[.slice]⟩:=by kernel_rfl
theorem OQ:Tryz.prog.underlying 70=some (.slice (bj Tryz.prog 70).elem):=by kernel_rfl
theorem QA:bj Tryz.prog (bj Tryz.prog 70).elem=⟨true,15,true,[(0,1,false),(1,1,false),(2,1,false),(3,5,true),(8,5,true),(13,1,false),(14,1,false)],true,[.int .i64 0,.string .empty,.slice none 0 0,.int .i64 0,.int .i64 0,.string .empty,.slice none 0 0,.slice none 0 0,.int .i64 0,.int .i64 0,.string .empty,.slice none 0 0,.slice none 0 0,.int .i64 0,.slice none 0 0],true,0,none,[.int .i64,.str,.slice,.int .i64,.int .i64,.str,.slice,.slice,.int .i64,.int .i64,.str,.slice,.slice,.int .i64,.slice]⟩:=by kernel_rfl
theorem La:iW Tryz.prog 70 61 15 240:=⟨by kernel_rfl,by kernel_rfl,by kernel_rfl⟩
theorem wh:bj Tryz.prog 78=⟨true,2,true,[(0,1,false),(1,1,false)],true,[.int .i64 0,.int .i64 0],true,0,none,[.int .i64,.int .i64]⟩:=by kernel_rfl
theorem Qs:bj Tryz.prog 87=⟨true,4,true,[(0,1,false),(1,1,false),(2,1,false),(3,1,false)],true,[.int .i64 0,.int .i64 0,.bool false,.int .i64 0],true,0,none,[.int .i64,.int .i64,.bool,.int .i64]⟩:=by kernel_rfl
theorem K4:bj Tryz.prog 91=⟨true,4,true,[(0,1,false),(1,1,false),(2,1,false),(3,1,false)],true,[.pointer none,.int .i64 0,.int .i64 0,.int .i64 0],true,0,none,[.ptr,.int .i64,.int .i64,.int .i64]⟩:=by kernel_rfl
theorem Qr:bj Tryz.prog 96=⟨true,1,false,[],false,[.map none],true,0,none,[.map]⟩:=by kernel_rfl
theorem Co:Fy Tryz.prog 96 9 102:=⟨by kernel_rfl,by kernel_rfl,by kernel_rfl⟩
theorem Qq:bj Tryz.prog 98=⟨true,2,true,[(0,1,false),(1,1,false)],true,[.slice none 0 0,.map none],true,0,none,[.slice,.map]⟩:=by kernel_rfl
theorem IC:Tryz.prog.underlying 102=some (.pointer 106):=by kernel_rfl
theorem Bl:bj Tryz.prog 103=⟨true,1,false,[],false,[.int .i64 0],true,0,none,[.int .i64]⟩:=by kernel_rfl
theorem Mp:bj Tryz.prog 104=⟨true,1,false,[],false,[.pointer none],true,61,none,[.ptr]⟩:=by kernel_rfl
theorem rk:bj Tryz.prog 106=⟨true,9,true,[(0,1,false),(1,1,false),(2,1,false),(3,5,true),(8,1,false)],true,[.int .i64 0,.pointer none,.slice none 0 0,.int .i64 0,.int .i64 0,.string .empty,.slice none 0 0,.slice none 0 0,.int .i64 0],true,0,none,[.int .i64,.ptr,.slice,.int .i64,.int .i64,.str,.slice,.slice,.int .i64]⟩:=by kernel_rfl
theorem O1:bj Tryz.prog 112=⟨true,4,true,[(0,1,false),(1,1,false),(2,2,true)],true,[.string .empty,.int .i64 0,.int .i64 0,.int .i64 0],true,0,none,[.str,.int .i64,.int .i64,.int .i64]⟩:=by kernel_rfl
theorem O0:bj Tryz.prog 115=⟨true,1,false,[],false,[.pointer none],true,78,none,[.ptr]⟩:=by kernel_rfl
theorem Mn:Tryz.prog.underlying 115=some (.pointer 78):=by kernel_rfl
theorem Mm:Tryz.prog.underlying 117=some (.pointer 115):=by kernel_rfl
theorem eK:bj Tryz.prog 121=⟨true,3,true,[(0,1,false),(1,1,false),(2,1,false)],true,[.int .i64 0,.string .empty,.slice none 0 0],true,0,none,[.int .i64,.str,.slice]⟩:=by kernel_rfl
theorem IN:bj Tryz.prog 133=⟨true,0,true,[],true,[],true,0,none,[]⟩:=by kernel_rfl
theorem OS:Tryz.prog.underlying 174=some (.slice (bj Tryz.prog 174).elem):=by kernel_rfl
theorem O2:bj Tryz.prog (bj Tryz.prog 174).elem=⟨true,1,false,[],false,[.int .i64 0],true,0,none,[.int .i64]⟩:=by kernel_rfl
theorem O6:iW Tryz.prog 174 103 1 8:=⟨by kernel_rfl,by kernel_rfl,by kernel_rfl⟩
theorem j6:Tryz.prog.underlying 203=some (.slice (bj Tryz.prog 203).elem):=by kernel_rfl
theorem ml:bj Tryz.prog (bj Tryz.prog 203).elem=⟨true,1,false,[],false,[.int .i64 0],true,0,none,[.int .i64]⟩:=by kernel_rfl
theorem uX:iW Tryz.prog 203 3 1 8:=⟨by kernel_rfl,by kernel_rfl,by kernel_rfl⟩
theorem IA:Tryz.prog.underlying 212=some (.slice (bj Tryz.prog 212).elem):=by kernel_rfl
theorem Mq:bj Tryz.prog (bj Tryz.prog 212).elem=⟨true,1,false,[],false,[.slice none 0 0],true,39,none,[.slice]⟩:=by kernel_rfl
theorem O5:iW Tryz.prog 212 37 1 24:=⟨by kernel_rfl,by kernel_rfl,by kernel_rfl⟩
theorem OZ:bj Tryz.prog 232=⟨true,18,true,[(0,15,true),(15,1,false),(16,1,false),(17,1,false)],true,[.int .i64 0,.string .empty,.slice none 0 0,.int .i64 0,.int .i64 0,.string .empty,.slice none 0 0,.slice none 0 0,.int .i64 0,.int .i64 0,.string .empty,.slice none 0 0,.slice none 0 0,.int .i64 0,.slice none 0 0,.int .i64 0,.slice none 0 0,.int .i64 0],true,0,none,[.int .i64,.str,.slice,.int .i64,.int .i64,.str,.slice,.slice,.int .i64,.int .i64,.str,.slice,.slice,.int .i64,.slice,.int .i64,.slice,.int .i64]⟩:=by kernel_rfl
theorem Mr:iW Tryz.prog 239 5 1 1:=⟨by kernel_rfl,by kernel_rfl,by kernel_rfl⟩
theorem RO:ai Tryz.prog 8=true:=by kernel_rfl
theorem RM:ai Tryz.prog 9=true:=by kernel_rfl
theorem Q9:ai Tryz.prog 12=true:=by kernel_rfl
theorem Q8:ai Tryz.prog 15=true:=by kernel_rfl
theorem Oh:ai Tryz.prog 17=true:=by kernel_rfl
theorem Q7:ai Tryz.prog 18=true:=by kernel_rfl
theorem PK:ai Tryz.prog 21=true:=by kernel_rfl
theorem PJ:ai Tryz.prog 22=true:=by kernel_rfl
theorem Og:ai Tryz.prog 23=true:=by kernel_rfl
theorem PI:ai Tryz.prog 25=true:=by kernel_rfl
theorem PH:ai Tryz.prog 30=true:=by kernel_rfl
theorem Mc:ai Tryz.prog 31=true:=by kernel_rfl
theorem Ku:ai Tryz.prog 32=true:=by kernel_rfl
theorem Q6:ai Tryz.prog 33=true:=by kernel_rfl
theorem PG:ai Tryz.prog 34=true:=by kernel_rfl
theorem PF:ai Tryz.prog 35=true:=by kernel_rfl
theorem uK:ai Tryz.prog 36=true:=by kernel_rfl
theorem Kt:ai Tryz.prog 37=true:=by kernel_rfl
theorem Q5:ai Tryz.prog 38=true:=by kernel_rfl
theorem Q4:ai Tryz.prog 39=true:=by kernel_rfl
theorem Mb:ai Tryz.prog 40=true:=by kernel_rfl
theorem PE:ai Tryz.prog 45=true:=by kernel_rfl
theorem PC:ai Tryz.prog 46=true:=by kernel_rfl
theorem Ma:ai Tryz.prog 47=true:=by kernel_rfl
theorem L9:ai Tryz.prog 49=true:=by kernel_rfl
theorem Q1:ai Tryz.prog 50=true:=by kernel_rfl
theorem Ij:ai Tryz.prog 51=true:=by kernel_rfl
theorem Ks:ai Tryz.prog 52=true:=by kernel_rfl
theorem QZ:ai Tryz.prog 53=true:=by kernel_rfl
theorem QY:ai Tryz.prog 54=true:=by kernel_rfl
theorem De:ai Tryz.prog 55=true:=by kernel_rfl
theorem PB:ai Tryz.prog 56=true:=by kernel_rfl
theorem Ii:ai Tryz.prog 57=true:=by kernel_rfl
theorem L8:ai Tryz.prog 58=true:=by kernel_rfl
theorem QX:ai Tryz.prog 59=true:=by kernel_rfl
theorem xO:ai Tryz.prog 60=true:=by kernel_rfl
theorem Ih:ai Tryz.prog 61=true:=by kernel_rfl
theorem L7:ai Tryz.prog 62=true:=by kernel_rfl
theorem Of:ai Tryz.prog 63=true:=by kernel_rfl
theorem Fa:ai Tryz.prog 64=true:=by kernel_rfl
theorem yC:ai Tryz.prog 65=true:=by kernel_rfl
theorem pa:ai Tryz.prog 66=true:=by kernel_rfl
theorem Ig:ai Tryz.prog 67=true:=by kernel_rfl
theorem PA:ai Tryz.prog 68=true:=by kernel_rfl
theorem Pz:ai Tryz.prog 69=true:=by kernel_rfl
theorem L6:ai Tryz.prog 70=true:=by kernel_rfl
theorem QW:ai Tryz.prog 71=true:=by kernel_rfl
theorem Kr:ai Tryz.prog 72=true:=by kernel_rfl
theorem Py:ai Tryz.prog 78=true:=by kernel_rfl
theorem QV:ai Tryz.prog 79=true:=by kernel_rfl
theorem QU:ai Tryz.prog 80=true:=by kernel_rfl
theorem Px:ai Tryz.prog 81=true:=by kernel_rfl
theorem Oe:ai Tryz.prog 82=true:=by kernel_rfl
theorem L5:ai Tryz.prog 83=true:=by kernel_rfl
theorem L4:ai Tryz.prog 84=true:=by kernel_rfl
theorem Od:ai Tryz.prog 85=true:=by kernel_rfl
theorem QT:ai Tryz.prog 86=true:=by kernel_rfl
theorem pD:ai Tryz.prog 87=true:=by kernel_rfl
theorem uJ:ai Tryz.prog 88=true:=by kernel_rfl
theorem Dd:ai Tryz.prog 89=true:=by kernel_rfl
theorem Pw:ai Tryz.prog 90=true:=by kernel_rfl
theorem L3:ai Tryz.prog 91=true:=by kernel_rfl
theorem L0:ai Tryz.prog 92=true:=by kernel_rfl
theorem Oc:ai Tryz.prog 93=true:=by kernel_rfl
theorem yB:ai Tryz.prog 94=true:=by kernel_rfl
theorem LZ:ai Tryz.prog 99=true:=by kernel_rfl
theorem Di:ai Tryz.prog 100=true:=by kernel_rfl
theorem zV:ai Tryz.prog 101=true:=by kernel_rfl
theorem vu:ai Tryz.prog 102=true:=by kernel_rfl
theorem Dh:ai Tryz.prog 103=true:=by kernel_rfl
theorem MW:ai Tryz.prog 104=true:=by kernel_rfl
theorem MV:ai Tryz.prog 105=true:=by kernel_rfl
theorem MU:ai Tryz.prog 106=true:=by kernel_rfl
theorem Kz:ai Tryz.prog 107=true:=by kernel_rfl
theorem Gz:ai Tryz.prog 108=true:=by kernel_rfl
theorem Gy:ai Tryz.prog 109=true:=by kernel_rfl
theorem P8:ai Tryz.prog 110=true:=by kernel_rfl
theorem Gx:ai Tryz.prog 111=true:=by kernel_rfl
theorem P7:ai Tryz.prog 112=true:=by kernel_rfl
theorem MT:ai Tryz.prog 113=true:=by kernel_rfl
theorem Dg:ai Tryz.prog 114=true:=by kernel_rfl
theorem Gw:ai Tryz.prog 116=true:=by kernel_rfl
theorem P6:ai Tryz.prog 117=true:=by kernel_rfl
theorem P5:ai Tryz.prog 119=true:=by kernel_rfl
theorem P4:ai Tryz.prog 120=true:=by kernel_rfl
theorem MS:ai Tryz.prog 121=true:=by kernel_rfl
theorem ry:ai Tryz.prog 122=true:=by kernel_rfl
theorem MR:ai Tryz.prog 123=true:=by kernel_rfl
theorem MQ:ai Tryz.prog 124=true:=by kernel_rfl
theorem Ky:ai Tryz.prog 125=true:=by kernel_rfl
theorem Gv:ai Tryz.prog 126=true:=by kernel_rfl
theorem MP:ai Tryz.prog 130=true:=by kernel_rfl
theorem MO:ai Tryz.prog 131=true:=by kernel_rfl
theorem MN:ai Tryz.prog 132=true:=by kernel_rfl
theorem MM:ai Tryz.prog 133=true:=by kernel_rfl
theorem Kx:ai Tryz.prog 134=true:=by kernel_rfl
theorem ML:ai Tryz.prog 135=true:=by kernel_rfl
theorem MK:ai Tryz.prog 136=true:=by kernel_rfl
theorem xS:ai Tryz.prog 137=true:=by kernel_rfl
theorem P3:ai Tryz.prog 138=true:=by kernel_rfl
theorem P2:ai Tryz.prog 139=true:=by kernel_rfl
theorem P1:ai Tryz.prog 140=true:=by kernel_rfl
theorem P0:ai Tryz.prog 141=true:=by kernel_rfl
theorem MJ:ai Tryz.prog 142=true:=by kernel_rfl
theorem Kw:ai Tryz.prog 143=true:=by kernel_rfl
theorem xR:ai Tryz.prog 144=true:=by kernel_rfl
theorem PZ:ai Tryz.prog 145=true:=by kernel_rfl
theorem PY:ai Tryz.prog 147=true:=by kernel_rfl
theorem PX:ai Tryz.prog 148=true:=by kernel_rfl
theorem PW:ai Tryz.prog 149=true:=by kernel_rfl
theorem xQ:ai Tryz.prog 150=true:=by kernel_rfl
theorem PV:ai Tryz.prog 151=true:=by kernel_rfl
theorem Gu:ai Tryz.prog 152=true:=by kernel_rfl
theorem PU:ai Tryz.prog 153=true:=by kernel_rfl
theorem PT:ai Tryz.prog 154=true:=by kernel_rfl
theorem MI:ai Tryz.prog 155=true:=by kernel_rfl
theorem PS:ai Tryz.prog 156=true:=by kernel_rfl
theorem MH:ai Tryz.prog 157=true:=by kernel_rfl
theorem MG:ai Tryz.prog 160=true:=by kernel_rfl
theorem MF:ai Tryz.prog 161=true:=by kernel_rfl
theorem Df:ai Tryz.prog 162=true:=by kernel_rfl
theorem Kv:ai Tryz.prog 163=true:=by kernel_rfl
theorem ME:ai Tryz.prog 164=true:=by kernel_rfl
theorem PR:ai Tryz.prog 165=true:=by kernel_rfl
theorem PQ:ai Tryz.prog 166=true:=by kernel_rfl
theorem MD:ai Tryz.prog 167=true:=by kernel_rfl
theorem MC:ai Tryz.prog 168=true:=by kernel_rfl
theorem MB:ai Tryz.prog 170=true:=by kernel_rfl
theorem PO:ai Tryz.prog 171=true:=by kernel_rfl
theorem zU:ai Tryz.prog 172=true:=by kernel_rfl
theorem vt:ai Tryz.prog 173=true:=by kernel_rfl
theorem Gt:ai Tryz.prog 174=true:=by kernel_rfl
theorem tG:ai Tryz.prog 175=true:=by kernel_rfl
theorem xP:ai Tryz.prog 176=true:=by kernel_rfl
theorem PN:ai Tryz.prog 177=true:=by kernel_rfl
theorem vq:ai Tryz.prog 178=true:=by kernel_rfl
theorem Gs:ai Tryz.prog 179=true:=by kernel_rfl
theorem PM:ai Tryz.prog 180=true:=by kernel_rfl
theorem PL:ai Tryz.prog 181=true:=by kernel_rfl
theorem Gr:ai Tryz.prog 182=true:=by kernel_rfl
theorem mixed:Tryz.prog.follows .mixedOrders=true:=by kernel_rfl
end
section
open Go Go.Vd
variable {P:Program}
theorem Rx:∀p∈([]:List (Nat×TI)),bj P p.1=p.2:=fun p h=>by cases h
variable {k:Nat}
theorem qB{x:TI}{l:List (Nat×TI)}(h:bj P k=x)(r:∀p∈l,bj P p.1=p.2):∀p∈(k,x)::l,bj P p.1=p.2:=fun p hp=>by
 rcases List.mem_cons.1 hp with rfl|hp
 ·exact h
 ·exact r p hp
variable {f:Nat→Prop}
theorem Rf:∀t∈([]:List Nat),f t:=fun p h=>by cases h
theorem IE{l:List Nat}(h:f k)(r:∀t∈l,f t):∀t∈k::l,f t:=fun p hp=>by
 rcases List.mem_cons.1 hp with rfl|hp
 ·exact h
 ·exact r p hp
def tb:Ro:=⟨[(3,⟨true,1,false,[],false,[.int .i64 0],true,0,none,[.int .i64]⟩),
 (4,⟨true,1,false,[],false,[.bool false],true,0,none,[.bool]⟩),
 (9,⟨true,1,false,[],false,[.string .empty],true,0,none,[.str]⟩),
 (28,⟨true,6,true,[(0,1,false),(1,1,false),(2,1,false),(3,1,false),(4,1,false),(5,1,false)],true,[.int .i64 0,.string .empty,.string .empty,.string .empty,.int .i64 0,.int .i64 0],true,0,none,[.int .i64,.str,.str,.str,.int .i64,.int .i64]⟩),
 (29,⟨true,1,false,[],false,[.pointer none],true,98,none,[.ptr]⟩),
 (30,⟨true,1,false,[],false,[.pointer none],true,47,none,[.ptr]⟩),
 (32,⟨true,2,true,[(0,1,false),(1,1,false)],true,[.pointer none,.pointer none],true,0,none,[.ptr,.ptr]⟩),
 (34,⟨true,8,true,[(0,6,true),(6,2,true)],true,[.int .i64 0,.string .empty,.string .empty,.string .empty,.int .i64 0,.int .i64 0,.pointer none,.pointer none],true,0,none,[.int .i64,.str,.str,.str,.int .i64,.int .i64,.ptr,.ptr]⟩),
 (36,⟨true,1,false,[],false,[.slice none 0 0],true,121,none,[.slice]⟩),
 (37,⟨true,1,false,[],false,[.slice none 0 0],true,39,none,[.slice]⟩),
 (39,⟨true,5,true,[(0,1,false),(1,1,false),(2,1,false),(3,1,false),(4,1,false)],true,[.int .i64 0,.int .i64 0,.string .empty,.slice none 0 0,.slice none 0 0],true,0,none,[.int .i64,.int .i64,.str,.slice,.slice]⟩),
 (41,⟨true,12,true,[(0,1,false),(1,5,true),(6,5,true),(11,1,false)],true,[.bool false,.int .i64 0,.int .i64 0,.string .empty,.slice none 0 0,.slice none 0 0,.int .i64 0,.int .i64 0,.string .empty,.slice none 0 0,.slice none 0 0,.int .i64 0],true,0,none,[.bool,.int .i64,.int .i64,.str,.slice,.slice,.int .i64,.int .i64,.str,.slice,.slice,.int .i64]⟩),
 (45,⟨true,1,false,[],false,[.slice none 0 0],true,63,none,[.slice]⟩),
 (47,⟨true,2,true,[(0,1,false),(1,1,false)],true,[.slice none 0 0,.bool false],true,0,none,[.slice,.bool]⟩),
 (49,⟨true,1,false,[],false,[.nilIface],true,0,none,[.any]⟩),
 (57,⟨true,1,false,[],false,[.slice none 0 0],true,9,none,[.slice]⟩),
 (59,⟨true,1,false,[],false,[.slice none 0 0],true,65,none,[.slice]⟩),
 (61,⟨true,15,true,[(0,1,false),(1,1,false),(2,1,false),(3,5,true),(8,5,true),(13,1,false),(14,1,false)],true,[.int .i64 0,.string .empty,.slice none 0 0,.int .i64 0,.int .i64 0,.string .empty,.slice none 0 0,.slice none 0 0,.int .i64 0,.int .i64 0,.string .empty,.slice none 0 0,.slice none 0 0,.int .i64 0,.slice none 0 0],true,0,none,[.int .i64,.str,.slice,.int .i64,.int .i64,.str,.slice,.slice,.int .i64,.int .i64,.str,.slice,.slice,.int .i64,.slice]⟩),
 (63,⟨true,21,true,[(0,15,true),(15,1,false),(16,5,true)],true,[.int .i64 0,.string .empty,.slice none 0 0,.int .i64 0,.int .i64 0,.string .empty,.slice none 0 0,.slice none 0 0,.int .i64 0,.int .i64 0,.string .empty,.slice none 0 0,.slice none 0 0,.int .i64 0,.slice none 0 0,.slice none 0 0,.int .i64 0,.int .i64 0,.string .empty,.slice none 0 0,.slice none 0 0],true,0,none,[.int .i64,.str,.slice,.int .i64,.int .i64,.str,.slice,.slice,.int .i64,.int .i64,.str,.slice,.slice,.int .i64,.slice,.slice,.int .i64,.int .i64,.str,.slice,.slice]⟩),
 (65,⟨true,6,true,[(0,1,false),(1,5,true)],true,[.string .empty,.int .i64 0,.int .i64 0,.string .empty,.slice none 0 0,.slice none 0 0],true,0,none,[.str,.int .i64,.int .i64,.str,.slice,.slice]⟩),
 (70,⟨true,1,false,[],false,[.slice none 0 0],true,61,none,[.slice]⟩),
 (78,⟨true,2,true,[(0,1,false),(1,1,false)],true,[.int .i64 0,.int .i64 0],true,0,none,[.int .i64,.int .i64]⟩),
 (87,⟨true,4,true,[(0,1,false),(1,1,false),(2,1,false),(3,1,false)],true,[.int .i64 0,.int .i64 0,.bool false,.int .i64 0],true,0,none,[.int .i64,.int .i64,.bool,.int .i64]⟩),
 (91,⟨true,4,true,[(0,1,false),(1,1,false),(2,1,false),(3,1,false)],true,[.pointer none,.int .i64 0,.int .i64 0,.int .i64 0],true,0,none,[.ptr,.int .i64,.int .i64,.int .i64]⟩),
 (96,⟨true,1,false,[],false,[.map none],true,0,none,[.map]⟩),
 (98,⟨true,2,true,[(0,1,false),(1,1,false)],true,[.slice none 0 0,.map none],true,0,none,[.slice,.map]⟩),
 (103,⟨true,1,false,[],false,[.int .i64 0],true,0,none,[.int .i64]⟩),
 (104,⟨true,1,false,[],false,[.pointer none],true,61,none,[.ptr]⟩),
 (106,⟨true,9,true,[(0,1,false),(1,1,false),(2,1,false),(3,5,true),(8,1,false)],true,[.int .i64 0,.pointer none,.slice none 0 0,.int .i64 0,.int .i64 0,.string .empty,.slice none 0 0,.slice none 0 0,.int .i64 0],true,0,none,[.int .i64,.ptr,.slice,.int .i64,.int .i64,.str,.slice,.slice,.int .i64]⟩),
 (112,⟨true,4,true,[(0,1,false),(1,1,false),(2,2,true)],true,[.string .empty,.int .i64 0,.int .i64 0,.int .i64 0],true,0,none,[.str,.int .i64,.int .i64,.int .i64]⟩),
 (115,⟨true,1,false,[],false,[.pointer none],true,78,none,[.ptr]⟩),
 (121,⟨true,3,true,[(0,1,false),(1,1,false),(2,1,false)],true,[.int .i64 0,.string .empty,.slice none 0 0],true,0,none,[.int .i64,.str,.slice]⟩),
 (133,⟨true,0,true,[],true,[],true,0,none,[]⟩),
 (232,⟨true,18,true,[(0,15,true),(15,1,false),(16,1,false),(17,1,false)],true,[.int .i64 0,.string .empty,.slice none 0 0,.int .i64 0,.int .i64 0,.string .empty,.slice none 0 0,.slice none 0 0,.int .i64 0,.int .i64 0,.string .empty,.slice none 0 0,.slice none 0 0,.int .i64 0,.slice none 0 0,.int .i64 0,.slice none 0 0,.int .i64 0],true,0,none,[.int .i64,.str,.slice,.int .i64,.int .i64,.str,.slice,.slice,.int .i64,.int .i64,.str,.slice,.slice,.int .i64,.slice,.int .i64,.slice,.int .i64]⟩)],[22,24,36,37,45,57,59,70,203,212],[9]⟩
instance RQ:jO Tryz.prog:=⟨tb,qB FI (qB Rw (qB GQ (qB Qy (qB Qx (qB Qw (qB K5 (qB OY (qB vy (qB DI (qB bt (qB Qv (qB IM (qB Qu (qB GU (qB GS (qB Qt (qB GR (qB DH (qB OX (qB OW (qB wh (qB Qs (qB K4 (qB Qr (qB Qq (qB Bl (qB Mp (qB rk (qB O1 (qB O0 (qB eK (qB IN (qB OZ Rx))))))))))))))))))))))))))))))))),IE DF (IE OR (IE fm (IE bA (IE Bi (IE pI (IE yb (IE OQ (IE j6 (IE IA Rf))))))))),IE uP Rf⟩
end
end Go.Proofs.YtndbnldjidciiaaGreatDoor
namespace Go.Vd
open Go Go.RowKit
def int(n:Int):SV:=.d (.v (.int .i64 n))
def strs(l:List ByteArray):List (List D):=l.map fun s=>[.v (.string s)]
def ints(l:List Int):List (List D):=l.map fun n=>[.v (.int .i64 n)]
abbrev ey(l:List ByteArray):D:=.sl 1 (strs l)
abbrev Pg(l:List Int):D:=.sl 1 (ints l)
theorem cO(l:List ByteArray):(strs l).length=l.length:=by simp[strs]
theorem gF(l:List Int):(ints l).length=l.length:=by simp[ints]
variable {l:List ByteArray} {i:Nat}
theorem j8(h:i<l.length):(strs l)[((i:Nat):Int).toNat]? =some [.v (.string l[i])]:=by simp[strs,h]
theorem rU{l:List Int}(h:i<l.length):(ints l)[((i:Nat):Int).toNat]? =some [.v (.int .i64 l[i])]:=by simp[ints,h]
theorem nN(l:List ByteArray)(s:ByteArray):strs l++[[.v (.string s)]]=strs (l++[s]):=by simp[strs]
theorem xv(l:List Int)(n:Int):ints l++[[.v (.int .i64 n)]]=ints (l++[n]):=by simp[ints]
def vD(name:ByteArray)(l:List ByteArray):Bool:=l.any fun s=>decide (s=name)
variable {name:ByteArray} {k:Nat}
theorem Hb(h:k<l.length)(e:l[k]=name):vD name l=true:=by
 unfold vD;rw[List.any_eq_true];exact⟨_,List.getElem_mem h,by simpa using e⟩
theorem iM:vD name l=true↔name∈l:=by
 unfold vD;rw[List.any_eq_true];exact⟨fun⟨x,hx,e⟩=>by simp at e;subst e;exact hx,fun h=>⟨name,h,by simp⟩⟩
theorem Eh(h:name∉l):vD name l=false:=by
 cases hb:vD name l with
 |false=>rfl
 |true=>exact absurd (iM.1 hb) h
theorem iJ(h:k<l.length)(h1:name∉l.take k)(h2:¬l[k]=name):name∉l.take (k+1):=by
 rw[List.take_add_one,List.mem_append];rintro(h3|h3)
 ·exact h1 h3
 ·simp [h] at h3;exact h2 h3.symm
inductive aO where
 |mk (kind:Int) (name:ByteArray) (args:List aO)
mutual
def aO.cells:aO→List D
 | .mk k s args=>[.v (.int .i64 k),.v (.string s),.sl 3 (bE args)]
def bE:List aO→List (List D)
 |[]=>[]
 |l::r=>l.cells::bE r
end
def aO.d(l:aO):D:=.agg l.cells
theorem aO.ou:∀l:aO,l.cells.length=3
 | .mk _ _ _=>rfl
theorem aO.case(l:aO):∃k s args,l=.mk k s args:=by cases l;exact⟨_,_,_,rfl⟩
theorem bU:∀l:List aO,(bE l).length=l.length
 |[]=>rfl
 |l::r=>by simp[bE,bU r]
theorem Ct:∀{l:List aO} {i:Nat} {x:aO},l[i]? =some x→(bE l)[i]? =some x.cells
 |[],i,x,h=>by simp at h
 |l::r,0,x,h=>by simp at h;subst h;simp[bE]
 |l::r,i+1,x,h=>by simpa[bE] using Ct (l:=r) (i:=i) (by simpa using h)
theorem dB{l:List aO}{k:Int}{s:ByteArray}{args:List aO}(h:l[i]? =some (.mk k s args)):(bE l)[((i:Nat):Int).toNat]? =some [.v (.int .i64 k),.v (.string s),.sl 3 (bE args)]:=by
 rw[Int.toNat_natCast,Ct h];rfl
theorem p6(l m:List aO):bE (l++m)=bE l++bE m:=by
 induction l with
 |nil=>rfl
 |cons a r ih=>simp[bE,ih]
theorem dg{ls:List aO}(h:i<ls.length):∃k s args,ls[i]? =some (.mk k s args):=by
 have:ls[i]? =some ls[i]:=by simp[h]
 rw[this];cases ls[i];exact⟨_,_,_,rfl⟩
mutual
def aO.size:aO→Nat
 | .mk _ _ args=>1+bg args
def bg:List aO→Nat
 |[]=>0
 |l::r=>l.size+bg r
end
theorem jB:∀{ls:List aO} {i:Nat} {l:aO},ls[i]? =some l→l.size≤bg ls
 |[],i,l,h=>by simp at h
 |a::r,0,l,h=>by simp at h;subst h;simp[bg]
 |a::r,i+1,l,h=>by simp at h;have:=jB h;simp[bg];omega
theorem iq:∀ls:List aO,ls.length≤bg ls
 |[]=>by simp
 |l::r=>by have:=iq r;cases l;simp[bg,aO.size];omega
mutual
def aO.same:aO→aO→Bool
 | .mk k s a,.mk k2 s2 a2=>decide (k=k2)&&decide (s=s2)&&fp a a2
def fp:List aO→List aO→Bool
 |[],[]=>true
 |l::r,l2::r2=>l.same l2&&fp r r2
 |_,_=>false
end
theorem aO.jx(k:Int)(s:ByteArray)(a:List aO)(k2:Int)(s2:ByteArray)(a2:List aO):aO.same (.mk k s a) (.mk k2 s2 a2)=(decide (k=k2)&&decide (s=s2)&&fp a a2):=by simp[aO.same]
theorem uc:∀{a b:List aO},fp a b=true→a.length=b.length
 |[],[],_=>rfl
 |l::r,l2::r2,h=>by simp[fp] at h;simp[uc h.2]
 |[],_::_,h=>by simp[fp] at h
 |_::_,[],h=>by simp[fp] at h
theorem y5:∀{a b:List aO} {x y:aO},a.length=b.length→fp (a++[x]) (b++[y])=(fp a b&&x.same y)
 |[],[],x,y,_=>by simp[fp]
 |l::r,l2::r2,x,y,h=>by simp[fp,y5 (a:=r) (b:=r2) (by simpa using h),Bool.and_assoc]
 |[],_::_,_,_,h=>by simp at h
 |_::_,[],_,_,h=>by simp at h
theorem wA{a b:List aO}{x y:aO}(hx:a[i]? =some x)(hy:b[i]? =some y):fp (a.take (i+1)) (b.take (i+1))=(fp (a.take i) (b.take i)&&x.same y):=by
 have h1:=(List.getElem?_eq_some_iff.1 hx).1;have h2:=(List.getElem?_eq_some_iff.1 hy).1;rw[List.take_add_one,List.take_add_one,hx,hy];exact y5 (by simp;omega)
theorem pP:∀{a b:List aO} {i:Nat} {x y:aO},a[i]? =some x→b[i]? =some y→x.same y=false→fp a b=false
 |[],_,i,_,_,h,_,_=>by simp at h
 |_::_,[],i,_,_,_,h,_=>by simp at h
 |l::r,l2::r2,0,x,y,h1,h2,h3=>by simp at h1 h2;subst h1 h2;simp[fp,h3]
 |l::r,l2::r2,i+1,x,y,h1,h2,h3=>by simp[fp];intro _;exact pP (i:=i) (by simpa using h1) (by simpa using h2) h3
mutual
def aO.sZ:aO→Nat
 | .mk k _ args=>(if k=1 then 1 else 0)+IS args
def IS:List aO→Nat
 |[]=>0
 |l::r=>l.sZ+IS r
end
mutual
def aO.params:aO→List ByteArray→List ByteArray
 | .mk k s args,ah=>if k=4 then(if vD s ah then ah else ah++[s]) else da args ah
def da:List aO→List ByteArray→List ByteArray
 |[],ah=>ah
 |l::r,ah=>da r (l.params ah)
end
mutual
theorem aO.wJ:∀(l:aO) (ah:List ByteArray),(l.params ah).length≤ah.length+l.size
 | .mk k s args,ah=>by
  have h:=pW args ah;simp only[aO.params,aO.size];split
  ·split
   ·omega
   ·simp
  ·omega
theorem pW:∀(ls:List aO) (ah:List ByteArray),(da ls ah).length≤ah.length+bg ls
 |[],ah=>by simp[da]
 |l::r,ah=>by
  have h1:=l.wJ ah;have h2:=pW r (l.params ah);simp only[da,bg];omega
end
theorem pX(l m:List aO)(ah:List ByteArray):da (l++m) ah=da m (da l ah):=by
 induction l generalizing ah with
 |nil=>rfl
 |cons a r ih=>simp[da,ih]
variable {a:aO}
theorem oK{l:List aO}(h:l[i]? =some a)(ah:List ByteArray):da (l.take (i+1)) ah=a.params (da (l.take i) ah):=by
 rw[List.take_add_one,h];simp[pX,da]
theorem te(l m:List aO):bg (l++m)=bg l+bg m:=by
 induction l with
 |nil=>simp[bg]
 |cons a r ih=>simp[bg,ih];omega
theorem ki{l:List aO}(h:l[i]? =some a):bg (l.take (i+1))=bg (l.take i)+a.size:=by
 rw[List.take_add_one,h];simp[te,bg]
theorem gY(l:List aO)(i:Nat):bg (l.take i)≤bg l:=by
 have:bg l=bg (l.take i)+bg (l.drop i):=by rw[← te,List.take_append_drop]
 omega
end Go.Vd
namespace Go.Vd
open Go Go.RowKit
inductive eB where
 |zero
 |succ (a:eB)
 |max (a b:eB)
 |imax (a b:eB)
 |param (s:ByteArray)
def eB.cB:eB→aO
 | .zero=>.mk 0 .empty []
 | .succ a=>.mk 1 .empty [a.cB]
 | .max a b=>.mk 2 .empty [a.cB,b.cB]
 | .imax a b=>.mk 3 .empty [a.cB,b.cB]
 | .param s=>.mk 4 s []
def eB.size:eB→Nat
 | .zero=>1
 | .succ a=>1+a.size
 | .max a b=>1+a.size+b.size
 | .imax a b=>1+a.size+b.size
 | .param _=>1
theorem eB.fP:∀l:eB,l.cB.size=l.size
 | .zero=>rfl
 | .succ a=>by simp[eB.cB,aO.size,bg,eB.size,a.fP]
 | .max a b=>by simp[eB.cB,aO.size,bg,eB.size,a.fP,b.fP];omega
 | .imax a b=>by simp[eB.cB,aO.size,bg,eB.size,a.fP,b.fP];omega
 | .param _=>rfl
def eB.sZ:eB→Nat
 | .zero=>0
 | .succ a=>1+a.sZ
 | .max a b=>a.sZ+b.sZ
 | .imax a b=>a.sZ+b.sZ
 | .param _=>0
def eB.params:eB→List ByteArray→List ByteArray
 | .zero,ah=>ah
 | .succ a,ah=>a.params ah
 | .max a b,ah=>b.params (a.params ah)
 | .imax a b,ah=>b.params (a.params ah)
 | .param s,ah=>if vD s ah then ah else ah++[s]
theorem eB.eY:∀(l:eB) (ah:List ByteArray),l.cB.params ah=l.params ah
 | .zero,ah=>by simp[eB.cB,aO.params,da,eB.params]
 | .succ a,ah=>by simp[eB.cB,aO.params,da,eB.params,a.eY]
 | .max a b,ah=>by simp[eB.cB,aO.params,da,eB.params,a.eY,b.eY]
 | .imax a b,ah=>by simp[eB.cB,aO.params,da,eB.params,a.eY,b.eY]
 | .param s,ah=>by simp[eB.cB,aO.params,eB.params]
def Nq:List ByteArray→List Int→ByteArray→Int
 |p::ps,n::ns,s=>if p=s then n else Nq ps ns s
 |_,_,_=>0
def eB.ri(σ:ByteArray→Int):eB→Int
 | .zero=>0
 | .succ a=>a.ri σ+1
 | .max a b=>Max.max (a.ri σ) (b.ri σ)
 | .imax a b=>if b.ri σ=0 then 0 else Max.max (a.ri σ) (b.ri σ)
 | .param s=>σ s
def FJ(Fg:Int)(r:Nat):Int:=if r%3=0 then 0 else if r%3=1 then 1 else Fg
def yz(Fg:Int)(k n:Nat):List Int:=(List.range n).map fun j=>FJ Fg (k/3^j)
theorem HO(Fg:Int)(k n:Nat):yz Fg k (n+1)=yz Fg k n++[FJ Fg (k/3^n)]:=by simp[yz,List.range_succ]
theorem C3(Fg:Int)(k n:Nat):(yz Fg k n).length=n:=by simp[yz]
def eB.ps(a b:eB):List ByteArray:=b.params (a.params [])
def eB.Fg(a b:eB):Int:=2+a.sZ+b.sZ
def Mt(a b:eB)(k:Nat):Prop:=a.ri (Nq (a.ps b) (yz (a.Fg b) k (a.ps b).length))≤b.ri (Nq (a.ps b) (yz (a.Fg b) k (a.ps b).length))
instance (a b:eB) (k:Nat):Decidable (Mt a b k):=by unfold Mt;infer_instance
def fX(c:Int)(first:Bool):Bool:=decide ((97≤c∧c≤122)∨(65≤c∧c≤90)∨c=95∨(first=false∧((48≤c∧c≤57)∨c=46∨c=39)))
def dI(t:ByteArray):Bool:=decide (t≠ .empty)&&fX (bo t 0) true
theorem pM{t:ByteArray}(h:t≠ .empty):0<t.size:=by
 rcases Nat.eq_zero_or_pos t.size with h0|h0
 ·refine absurd ?_ h;apply ByteArray.ext;exact Array.eq_empty_of_size_eq_zero h0
 ·exact h0
def cX(f:Int→Bool)(s:ByteArray)(p:Nat):Nat:=if h:p<s.size∧f (bo s p)=true then cX f s (p+1) else p
termination_by s.size-p
decreasing_by omega
def q7(c:Int):Bool:=decide (c=32∨c=9∨c=10)
def jM(c:Int):Bool:=decide (48≤c∧c≤57)
def bc(s:ByteArray)(p0:Nat):ByteArray×Nat×Bool:=
 let p:=cX q7 s p0
 if p=s.size then(.empty,p,true) else
 let c:=bo s p
 if c=40∨c=41 then(s.extract p (p+1),p,true) else
 if fX c true then
  let q:=cX (fX · false) s (p+1)
  if q-p>40 then(.empty,p,false) else(s.extract p q,p,true)
 else if c=35∨jM c then
  let q:=cX jM s (p+1)
  let d:=if c=35 then p+1 else p
  if q=d∨q-d>5∨(q-d>1∧bo s d=48) then(.empty,p,false) else(s.extract p q,p,true)
 else(.empty,p,false)
theorem fu(f:Int→Bool)(s:ByteArray)(p:Nat)(h:p≤s.size):p≤cX f s p∧cX f s p≤s.size:=by
 rw[cX];split
 ·rename_i h1;have:=fu f s (p+1) (by omega);omega
 ·omega
termination_by s.size-p
variable {f:Int→Bool} {s:ByteArray} {p:Nat}
theorem oC(h:p<s.size)(hf:f (bo s p)=true):cX f s p=cX f s (p+1):=by
 rw[cX];simp[h,hf]
theorem jW(h:¬(p<s.size∧f (bo s p)=true)):cX f s p=p:=by
 rw[cX];simp only[h];rfl
mutual
def aO.subst(ps:List ByteArray)(ls:List aO):aO→aO
 | .mk k s args=>if k=4 then(match ps.findIdx? (· =s) with|some i=>ls.getD i (.mk k s args)|none=>.mk k s args) else .mk k s (dV ps ls args)
def dV(ps:List ByteArray)(ls:List aO):List aO→List aO
 |[]=>[]
 |l::r=>l.subst ps ls::dV ps ls r
end
theorem rG(ps:List ByteArray)(ls:List aO):∀a:List aO,(dV ps ls a).length=a.length
 |[]=>rfl
 |l::r=>by simp[dV,rG ps ls r]
theorem wi(ps:List ByteArray)(ls:List aO):∀a b:List aO,dV ps ls (a++b)=dV ps ls a++dV ps ls b
 |[],b=>rfl
 |l::r,b=>by simp[dV,wi ps ls r b]
variable {ps:List ByteArray} {i:Nat}
theorem uT{ls a:List aO}{x:aO}(h:a[i]? =some x):dV ps ls (a.take (i+1))=dV ps ls (a.take i)++[x.subst ps ls]:=by
 rw[List.take_add_one,h,wi];rfl
theorem oW(h:i<ps.length)(h1:s∉ps.take i)(h2:ps[i]=s):ps.findIdx? (· =s)=some i:=by
 rw[List.findIdx?_eq_some_iff_getElem];refine⟨h,by simpa using h2,fun j hj=>?_⟩;simp only[decide_eq_true_eq];intro e;exact h1 (List.mem_iff_getElem.2 ⟨j,by simp;omega,by simpa using e⟩)
theorem oX(h:s∉ps):ps.findIdx? (· =s)=none:=by
 rw[List.findIdx?_eq_none_iff];intro x hx;simp only[decide_eq_false_iff_not];intro e;subst e;exact h hx
theorem qD(a:Array UInt8):(ByteArray.mk a).size=a.size:=rfl
def eB.weight:eB→Nat
 | .zero=>10
 | .succ a=>10+a.weight
 | .max a b=>10+a.weight+b.weight
 | .imax a b=>10+a.weight+b.weight
 | .param s=>10+s.size
mutual
def vG:aO→Prop
 | .mk k s args=>0≤k∧k≤4∧(k=4→s≠ .empty)∧ER args
def ER:List aO→Prop
 |[]=>True
 |l::r=>vG l∧ER r
end
end Go.Vd
namespace Go.Vd
open Go Go.RowKit
structure RS where
 p:Nat
 f:Option Nat
def bC:Option Nat→Int
 |none=>0
 |some _=>1
def eF:Option Nat→Int
 |none=>0
 |some a=>a
def RS.fail(at':Nat)(r:RS):RS:=match r.f with
 |none=>⟨r.p,some at'⟩
 |some a=>⟨r.p,some a⟩
def aQ(s:ByteArray)(r:RS):ByteArray×RS:=
 let t:=bc s r.p
 if t.2.2=false∨t.1=.empty then(.empty,r.fail t.2.1)
 else match r.f with
  |none=>(t.1,⟨t.2.1+t.1.size,none⟩)
  |some a=>(.empty,⟨r.p,some a⟩)
def ch(s w:ByteArray)(r:RS):RS:=
 let t:=bc s r.p
 if t.2.2=false∨t.1≠w then r.fail t.2.1
 else match r.f with
  |none=>⟨t.2.1+t.1.size,none⟩
  |some a=>⟨r.p,some a⟩
def gP(w:ByteArray):Int:=
 if w=⟨#[115]⟩ then 1 else if w=⟨#[109,97,120]⟩ then 2 else if w=⟨#[105,109,97,120]⟩ then 3 else 0
def j4:aO:=.mk 0 .empty []
def bL:Nat→ByteArray→RS→aO×RS
 |0,_,r=>(j4,r)
 |n+1,s,r=>
  match r.f with
  |some _=>(j4,r)
  |none=>
   let t:=bc s r.p
   if t.1=⟨#[48]⟩ then(j4,(aQ s r).2)
   else if dI t.1 then(.mk 4 t.1 [],(aQ s r).2)
   else if t.1=⟨#[40]⟩ then
    let r1:=(aQ s r).2
    let w:=bc s r1.p
    if gP w.1=0 then(j4,r1.fail w.2.1)
    else
     let r2:=(aQ s r1).2
     let a:=bL n s r2
     if gP w.1=1 then(.mk 1 .empty [a.1],ch s ⟨#[41]⟩ a.2)
     else
      let b:=bL n s a.2
      (.mk (gP w.1) .empty [a.1,b.1],ch s ⟨#[41]⟩ b.2)
   else(j4,r.fail t.2.1)
def iv(s:ByteArray)(r:RS):RS:=
 let t:=bc s r.p
 if t.2.2=false∨t.1≠ .empty then r.fail t.2.1 else r
section
variable {s:ByteArray} {p i:Nat}
theorem K3(h:cX q7 s p=cX q7 s i)(hi:i=s.size):bc s p=(.empty,i,true):=by
 have h1:cX q7 s p=i:=h.trans (jW (by omega));unfold bc;simp only[h1,hi];rfl
theorem K2(h:cX q7 s p=i)(hi:i<s.size)(hc:bo s i=40∨bo s i=41):bc s p=(s.extract i (i+1),i,true):=by
 unfold bc;simp only[h];rw[if_neg (by omega),if_pos hc]
variable {q:Nat}
theorem yS{f:Int→Bool}{s:ByteArray}{p:Nat}(h:cX f s p=cX f s q)(hn:(s.size:Int)≤q∨f (bo s q)=false):cX f s p=q:=h.trans (jW (by
 rintro⟨h1,h2⟩;rcases hn with h3|h3
 ·omega
 ·rw [h3] at h2;cases h2))
theorem oD{s:ByteArray}{p:Nat}(h:cX jM s p=cX jM s q)(hn:¬((q:Int)<s.size∧48≤bo s q∧bo s q≤57)):cX jM s p=q:=h.trans (jW (by
 rintro⟨h1,h2⟩;simp only[jM,decide_eq_true_eq] at h2;omega))
theorem DG(h:cX q7 s p=i)(hi:i<s.size)(hc:¬(bo s i=40∨bo s i=41))(hn:fX (bo s i) true=true)(hq:cX (fX · false) s (i+1)=q)(hl:40<q-i):bc s p=(.empty,i,false):=by
 unfold bc;simp only[h];rw[if_neg (by omega),if_neg hc,if_pos hn,hq,if_pos hl]
theorem IL(h:cX q7 s p=i)(hi:i<s.size)(hc:¬(bo s i=40∨bo s i=41))(hn:fX (bo s i) true=true)(hq:cX (fX · false) s (i+1)=q)(hl:¬40<q-i):bc s p=(s.extract i q,i,true):=by
 unfold bc;simp only[h];rw[if_neg (by omega),if_neg hc,if_pos hn,hq,if_neg hl]
variable {d:Nat}
theorem yO(h:cX q7 s p=i)(hi:i<s.size)(hc:¬(bo s i=40∨bo s i=41))(hn:fX (bo s i) true=false)(hd:bo s i=35∨(48≤bo s i∧bo s i≤57))(hq:cX jM s (i+1)=q)(hdd:(if bo s i=35 then i+1 else i)=d)(hl:q=d∨5<q-d∨(1<q-d∧bo s d=48)):bc s p=(.empty,i,false):=by
 have h2:bo s i=35∨jM (bo s i)=true:=by simpa[jM] using hd
 unfold bc;simp only[h];rw[if_neg (by omega),if_neg hc,if_neg (by simp[hn]),if_pos h2,hq,hdd,if_pos hl]
theorem FG(h:cX q7 s p=i)(hi:i<s.size)(hc:¬(bo s i=40∨bo s i=41))(hn:fX (bo s i) true=false)(hd:bo s i=35∨(48≤bo s i∧bo s i≤57))(hq:cX jM s (i+1)=q)(hdd:(if bo s i=35 then i+1 else i)=d)(hl:¬(q=d∨5<q-d∨(1<q-d∧bo s d=48))):bc s p=(s.extract i q,i,true):=by
 have h2:bo s i=35∨jM (bo s i)=true:=by simpa[jM] using hd
 unfold bc;simp only[h];rw[if_neg (by omega),if_neg hc,if_neg (by simp[hn]),if_pos h2,hq,hdd,if_neg hl]
theorem IK(h:cX q7 s p=i)(hi:i<s.size)(hc:¬(bo s i=40∨bo s i=41))(hn:fX (bo s i) true=false)(hd:¬(bo s i=35∨(48≤bo s i∧bo s i≤57))):bc s p=(.empty,i,false):=by
 have h2:¬(bo s i=35∨jM (bo s i)=true):=by simpa[jM] using hd
 unfold bc;simp only[h];rw[if_neg (by omega),if_neg hc,if_neg (by simp[hn]),if_neg h2]
end
theorem fq{s:ByteArray}{p:Nat}(hp:p≤s.size):p≤(bc s p).2.1∧(bc s p).2.1+(bc s p).1.size≤s.size:=by
 have h1:=fu q7 s p hp;unfold bc;simp only;split
 ·rename_i h;exact⟨h1.1,by simp;omega⟩
 ·rename_i h;have h2:cX q7 s p+1≤s.size:=by omega
  split
  ·exact ⟨h1.1,by simp[ByteArray.size_extract];omega⟩
  ·split
   ·have h3:=fu (fX · false) s _ h2;split
    ·exact ⟨h1.1,by simp;omega⟩
    ·exact ⟨h1.1,by simp[ByteArray.size_extract];omega⟩
   ·have h3:=fu jM s _ h2
    repeat' split
    all_goals first
     |exact⟨h1.1,by simp;omega⟩
     |exact⟨h1.1,by simp[ByteArray.size_extract];omega⟩
theorem rB{s:ByteArray}{p:Nat}:(bc s p).2.2=false→(bc s p).1=.empty:=by
 unfold bc;dsimp only
 repeat' split
 all_goals first
  |(intro _;rfl)
  |(intro h;cases h)
theorem iK{s:ByteArray}{p:Nat}(ht:(bc s p).1≠ .empty):aQ s ⟨p,none⟩=((bc s p).1,⟨(bc s p).2.1+(bc s p).1.size,none⟩):=by
 unfold aQ;dsimp only;rw[if_neg];rintro(h|h)
 ·exact ht (rB h)
 ·exact ht h
theorem RS.ij(at':Nat)(r:RS):(r.fail at').p=r.p:=by obtain⟨p,f⟩:=r;cases f<;>rfl
variable {r:RS}
theorem cZ{s:ByteArray}(hp:r.p≤s.size):r.p≤(aQ s r).2.p∧(aQ s r).2.p≤s.size:=by
 have hat:=fq (s:=s) hp;obtain⟨p,f⟩:=r;simp only at hp hat;unfold aQ;dsimp only;split
 ·rw [RS.ij];exact⟨Nat.le_refl _,hp⟩
 ·cases f with
  |none=>dsimp only;exact⟨by omega,hat.2⟩
  |some a=>exact⟨Nat.le_refl _,hp⟩
theorem bX{s w:ByteArray}(hp:r.p≤s.size):r.p≤(ch s w r).p∧(ch s w r).p≤s.size:=by
 have hat:=fq (s:=s) hp;obtain⟨p,f⟩:=r;simp only at hp hat;unfold ch;dsimp only;split
 ·rw [RS.ij];exact⟨Nat.le_refl _,hp⟩
 ·cases f with
  |none=>dsimp only;exact⟨by omega,hat.2⟩
  |some a=>exact⟨Nat.le_refl _,hp⟩
theorem eI{s:ByteArray}:∀(n:Nat) {r:RS},r.p≤s.size→r.p≤(bL n s r).2.p∧(bL n s r).2.p≤s.size:=by
 intro n
 induction n with
 |zero=>intro r hp;exact⟨Nat.le_refl _,hp⟩
 |succ n ih=>
  intro r hp;obtain⟨p,f⟩:=r;simp only at hp;cases f with
  |some a=>exact⟨Nat.le_refl _,hp⟩
  |none=>
   have h1:=cZ (s:=s) (r:=⟨p,none⟩) hp;have h2:=cZ (s:=s) (r:=(aQ s ⟨p,none⟩).2) h1.2;have h3:=ih h2.2;have h4:=ih h3.2;simp only at h1;simp only[bL];split
   ·exact h1
   ·split
    ·exact h1
    ·split
     ·split
      ·rw [RS.ij];exact h1
      ·split
       ·have h5:=bX (s:=s) (w:=⟨#[41]⟩) h3.2;exact⟨Nat.le_trans (m:=(bL n s (aQ s (aQ s ⟨p,none⟩).2).2).2.p) (by omega) h5.1,h5.2⟩
       ·have h5:=bX (s:=s) (w:=⟨#[41]⟩) h4.2;exact⟨Nat.le_trans (m:=(bL n s (bL n s (aQ s (aQ s ⟨p,none⟩).2).2).2).2.p) (by omega) h5.1,h5.2⟩
     ·rw [RS.ij];exact⟨Nat.le_refl _,hp⟩
section
variable {s:ByteArray} {p n:Nat}
theorem mN(h5:(bc s p).1=⟨#[48]⟩):bL (n+1) s ⟨p,none⟩=(j4,(aQ s ⟨p,none⟩).2):=by simp only[bL];rw[if_pos h5]
theorem mP(h5:¬(bc s p).1=⟨#[48]⟩)(h7:dI (bc s p).1=true):bL (n+1) s ⟨p,none⟩=(.mk 4 (bc s p).1 [],(aQ s ⟨p,none⟩).2):=by simp only[bL];rw[if_neg h5,if_pos h7]
theorem mQ(h5:¬(bc s p).1=⟨#[48]⟩)(h7:dI (bc s p).1=false)(h10:(bc s p).1=⟨#[40]⟩)(h21:gP (bc s (aQ s ⟨p,none⟩).2.p).1=0):
 bL (n+1) s ⟨p,none⟩=(j4,(aQ s ⟨p,none⟩).2.fail (bc s (aQ s ⟨p,none⟩).2.p).2.1):=by simp only[bL];rw[if_neg h5,if_neg (by simp[h7]),if_pos h10,if_pos h21]
theorem oT(h5:¬(bc s p).1=⟨#[48]⟩)(h7:dI (bc s p).1=false)(h10:(bc s p).1=⟨#[40]⟩)(h27:gP (bc s (aQ s ⟨p,none⟩).2.p).1=1):
 bL (n+1) s ⟨p,none⟩=(.mk 1 .empty [(bL n s (aQ s (aQ s ⟨p,none⟩).2).2).1],ch s ⟨#[41]⟩ (bL n s (aQ s (aQ s ⟨p,none⟩).2).2).2):=by
 simp only[bL];rw[if_neg h5,if_neg (by simp[h7]),if_pos h10,if_neg (by omega),if_pos h27]
theorem jo(h5:¬(bc s p).1=⟨#[48]⟩)(h7:dI (bc s p).1=false)(h10:(bc s p).1=⟨#[40]⟩)(h21:¬gP (bc s (aQ s ⟨p,none⟩).2.p).1=0)(h27:¬gP (bc s (aQ s ⟨p,none⟩).2.p).1=1):
 bL (n+1) s ⟨p,none⟩=(.mk (gP (bc s (aQ s ⟨p,none⟩).2.p).1) .empty [(bL n s (aQ s (aQ s ⟨p,none⟩).2).2).1,(bL n s (bL n s (aQ s (aQ s ⟨p,none⟩).2).2).2).1],ch s ⟨#[41]⟩ (bL n s (bL n s (aQ s (aQ s ⟨p,none⟩).2).2).2).2):=by
 simp only[bL];rw[if_neg h5,if_neg (by simp[h7]),if_pos h10,if_neg h21,if_neg h27]
theorem mS(h5:¬(bc s p).1=⟨#[48]⟩)(h7:dI (bc s p).1=false)(h10:¬(bc s p).1=⟨#[40]⟩):bL (n+1) s ⟨p,none⟩=(j4,(RS.mk p none).fail (bc s p).2.1):=by
 simp only[bL];rw[if_neg h5,if_neg (by simp[h7]),if_neg h10]
end
end Go.Vd
namespace Go.Proofs.YtndbnldjidciiaaGreatDoor
section
open Go Go.Vd Go.RowKit
attribute [local irreducible] bq bu dh ak bJ
variable {gl:Nat→List D}
theorem jv(name:ByteArray)(l:List ByteArray)(hl:l.length≤281474976710656):cC Tryz.prog gl 101 [.v (.string name),ey l] (· =.v (.bool (vD name l))):=by
 refine bD Tryz.func101 Tryz.ntmps101 ?_;have hlen:=cO l;refine kc 12 [5,0,1] 0 ?_;refine lP (ι:=Nat) (fun i=>[(5,int i)]) [0,1] (fun i=>i≤l.length∧name∉l.take i) (fun i=>l.length-i) (0) rfl ?I1 ?M1 ?H1
 case I1=>
  exact⟨by omega,by simp⟩
 case M1=>
  exact mz
 case H1=>
  rintro i hinv
  try dsimp only at hinv
  refine kc 0 [5,0,1] 9 ?_;refine cJ (fun h2=>?_) (fun h2=>?_)
  ·refine kc 5 [] 6 ?_;refine ez ?_;rw[Eh];have:l.take i=l:=List.take_of_length_le (by omega);rw[← this];exact hinv.2
  refine kc 4 [5,0,1] 4 ?_;refine o1 (cr pI tV ?_ (he:=by exact(j8 (by omega))));refine go 5 ?_;refine cj (fun h4=>?_) (fun h4=>?_)
  ·refine kc 0 [] 11 ?_;refine ez ?_;rw[Hb (by omega) h4]
  refine kc 3 [5,0,1] 2 ?_;refine o1 (cF ?_);refine go 2 ?_;refine bi (i+1) rfl ?_ ?_
  ·exact ⟨⟨by omega,iJ (by omega) hinv.2 h4⟩,by omega⟩
  ·exact mz
theorem BU:∀(n:Nat) (k:Int) (s:ByteArray) (args:List aO) (ah:List ByteArray),(aO.mk k s args).size≤n→ah.length+(aO.mk k s args).size≤1099511627776→
 er Tryz.prog gl 100 [.row 9 1] [.d (aO.mk k s args).d,.own 0 1 (strs ah)] fun out ob'=>out=.ret (.own 0 1 (strs ((aO.mk k s args).params ah)))∧ob'=[.row 9 1]:=by
 intro n
 induction n with
 |zero=>intro k s args ah h;simp[aO.size] at h
 |succ n ih=>
  intro k s args ah hn hb;have hsz:bg args≤n:=by simp[aO.size] at hn;omega
  have hlen:=bU args;have hlen2:=cO ah;have hlb:=iq args;simp only[aO.size] at hb;refine bS Tryz.func100 Tryz.ntmps100 1 ?_;refine gc 14 ?_;refine cj (fun h1=>?_) (fun h1=>?_)
  ·refine kc 0 [2,1] 5 ?_;refine oc (cv zV rfl rfl (jv s ah (by omega)) (an (bl .nil)) ?_);refine ko 4 [5,2,1] 6 ?_;refine cJ (fun h3=>?_) (fun h3=>?_)
   ·refine kc 2 [1] 8 ?_;refine fR ?_;refine ir ⟨_,_,rfl,rfl,rfl⟩ [0] (.own 0 1 (strs ah)) ([.row 9 1]) rfl rfl rfl ?_ rfl ?_ ?_
    ·repeat (first|exact cG|refine cw ?_)
    ·exact .refl _
    ·refine ⟨?_,rfl⟩;simp only[aO.params,if_pos (show k=4 by omega),h3];rfl
   refine gc 4 ?_;refine oc (gK rH [.tmp 18] GQ ?_);refine oc (px rH ?_);refine ko 3 [1] 8 ?_;refine fR ?_;refine ir ⟨_,_,rfl,rfl,rfl⟩ [0] (.own 0 1 (strs (ah++[s]))) ([.row 9 1]) rfl rfl rfl ?_ rfl ?_ ?_
   ·repeat (first|exact cG|refine cw ?_)
   ·exact Fit.of_eq (by rw[← nN];rfl)
   ·refine ⟨?_,rfl⟩;simp only[aO.params,if_pos (show k=4 by omega),h3];rfl
  refine kc 3 [2,1] 6 ?_;refine lP (ι:=Nat) (fun i=>[(6,int i),(1,.own 0 1 (strs (da (args.take i) ah)))]) [2] (fun i=>i≤args.length) (fun i=>args.length-i) (0) rfl ?I2 ?M2 ?H2
  case I2=>
   exact Nat.zero_le _
  case M2=>
   exact mz
  case H2=>
   rintro i hinv
   try dsimp only at hinv
   refine kc 0 [6,1,2] 10 ?_;refine cJ (fun h7=>?_) (fun h7=>?_)
   ·refine kc 5 [1] 7 ?_;refine fR ?_;refine ir ⟨_,_,rfl,rfl,rfl⟩ [0] (.own 0 1 (strs (da (args.take i) ah))) ([.row 9 1]) rfl rfl rfl ?_ rfl ?_ ?_
    ·repeat (first|exact cG|refine cw ?_)
    ·exact .refl _
    ·refine ⟨?_,rfl⟩;simp only[aO.params,if_neg (show ¬k=4 by omega)];rw[List.take_of_length_le (by omega)]
   refine kc 4 [6,1,2] 4 ?_;obtain⟨k',s',a',hget⟩:=dg (show i<args.length by omega);have hsz':=jB hget;have hlt:=pW (args.take i) ah;have hst:=ki hget;have hsl:=gY args (i+1);refine o1 (cr fm fG ?_ (he:=by exact(dB hget)));refine go 2 ?_;refine oc (aJ Di rfl rfl rfl rfl (ih k' s' a' (da (args.take i) ah) (by omega) (by omega)) [0] (cw .nil) rfl rfl rfl rfl (bl (an .nil)) (fun s ob' hq=>?_) (fun s ob' hq=>?_));rotate_left
   ·first|exact hq.elim|cases hq.1
   obtain⟨hq1,rfl⟩:=hq;cases hq1;rw[← oK hget];refine⟨_,_,_,_,_,rfl,rfl,rfl,rfl,rfl,?_⟩;refine ko 4 [1,6,2] 2 ?_;refine o1 (cF ?_);refine go 2 ?_;refine bi (i+1) rfl ?_ ?_
   ·exact ⟨by omega,by omega⟩
   ·exact mz
end
section
open Go Go.Vd Go.RowKit
attribute [local irreducible] bq bu dh ak bJ
variable {gl:Nat→List D}
theorem nH(c:Int)(first:Bool):cC Tryz.prog gl 125 [.v (.int .u8 c),.v (.bool first)] (· =.v (.bool (fX c first))):=by
 refine bD Tryz.func125 Tryz.ntmps125 ?_;refine gc 10 ?_;refine' oa (yt:=10) (d:=8) 2 ?a1 ?b1 ?_
 case a1=>
  intro hc hK;refine go 2 ?_;exact hK [_,_] rfl rfl
 case b1=>
  intro _ hK;refine go 2 ?_;exact hK [_,_] rfl
 refine go 1 ?_;refine' oo (yt:=18) (d:=12) 6 ?a2 ?b2 ?_
 case a2=>
  intro hc hK;refine go 3 ?_;refine' oa (yt:=17) (d:=15) 2 ?a3 ?b3 ?_ (hg:=.yes rfl rfl rfl rfl)
  case a3=>
   intro hc hK;refine go 2 ?_;exact hK [_,_] rfl rfl
  case b3=>
   intro _ hK;refine go 2 ?_;exact hK [_,_] rfl
  exact hK [_,_,_,_] rfl rfl
 case b2=>
  intro _ hK;refine go 6 ?_;exact hK [_,_,_,_,_,_] rfl
 refine go 1 ?_;refine' oo (yt:=22) (d:=20) 2 ?a4 ?b4 ?_
 case a4=>
  intro hc hK;refine go 2 ?_;exact hK [_,_] rfl rfl
 case b4=>
  intro _ hK;refine go 2 ?_;exact hK [_,_] rfl
 refine ko 3 [5,0,1] 4 ?_;refine' oo (yt:=43) (d:=25) 18 ?a5 ?b5 ?_
 case a5=>
  intro hc hK;refine go 3 ?_;refine' oa (yt:=42) (d:=28) 14 ?a6 ?b6 ?_ (hg:=.yes rfl rfl rfl rfl)
  case a6=>
   intro hc hK;refine go 3 ?_;refine' oa (yt:=33) (d:=31) 2 ?a7 ?b7 ?_ (hg:=.yes rfl rfl rfl rfl)
   case a7=>
    intro hc hK;refine go 2 ?_;exact hK [_,_] rfl rfl
   case b7=>
    intro _ hK;refine go 2 ?_;exact hK [_,_] rfl
   refine go 1 ?_;refine' oo (yt:=37) (d:=35) 2 ?a8 ?b8 ?_ (hg:=.yes rfl rfl rfl rfl)
   case a8=>
    intro hc hK;refine go 2 ?_;exact hK [_,_] rfl rfl
   case b8=>
    intro _ hK;refine go 2 ?_;exact hK [_,_] rfl
   refine go 1 ?_;refine' oo (yt:=41) (d:=39) 2 ?a9 ?b9 ?_ (hg:=.yes rfl rfl rfl rfl)
   case a9=>
    intro hc hK;refine go 2 ?_;exact hK [_,_] rfl rfl
   case b9=>
    intro _ hK;refine go 2 ?_;exact hK [_,_] rfl
   exact hK [_,_,_,_,_,_,_,_] rfl rfl
  case b6=>
   intro _ hK;refine go 14 ?_;exact hK [_,_,_,_,_,_,_,_,_,_,_,_,_,_] rfl
  exact hK [_,_,_,_] rfl rfl
 case b5=>
  intro _ hK;refine go 18 ?_;exact hK [_,_,_,_,_,_,_,_,_,_,_,_,_,_,_,_,_,_] rfl
 refine go 4 ?_;refine ez ?_
 congr 2
 rw[Bool.eq_iff_iff];cases first<;>simp only[fX,Bool.or_eq_true,Bool.and_eq_true,decide_eq_true_eq,Bool.not_eq_true',Bool.not_true,Bool.not_false,Bool.false_eq_true,Bool.true_eq_false,true_and,false_and,or_false,reduceCtorEq]<;>constructor<;>intro h<;>omega
theorem ng(t:ByteArray):cC Tryz.prog gl 126 [.v (.string t)] (· =.v (.bool (dI t))):=by
 refine bD Tryz.func126 Tryz.ntmps126 ?_;refine gc 10 ?_;refine' oa (yt:=8) (d:=5) 3 ?a10 ?b10 ?_
 case a10=>
  intro hc hK;refine go 1 ?_;have hpos:=pM hc;refine gy ?_;refine o1 (Fe uP ?_);refine gy ?_;refine oc (cv Ky rfl rfl (nH (bo t (0:Int).toNat) true) (an (an .nil)) ?_);exact hK [_,_,_] rfl rfl
 case b10=>
  intro _ hK;refine go 3 ?_;exact hK [_,_,_] rfl
 refine go 4 ?_;refine ez ?_
 congr 2
 unfold dI;rw[show(0:Int).toNat=0 from rfl];have e:(⟨#[]⟩:ByteArray)=.empty:=rfl;rw[e];simp
theorem Nb{s:ByteArray}{i:Nat}(h:bo s i=32∨bo s i=9∨bo s i=10):q7 (bo s i)=true:=by simpa[q7] using h
theorem c6(s:ByteArray)(p:Nat)(c a:Int)(hs:s.size≤1099511627776)(hp:p≤s.size):
 er Tryz.prog gl 87 [.cells [.d (.v (.string s)),.d (.v (.int .i64 p)),.d (.v (.int .i64 c)),.d (.v (.int .i64 a))] 112] [.b0 0 0]
  fun out ob'=>out=.ret (.d (.bY [.v (.string (bc s p).1),.v (.int .i64 (bc s p).2.1),.v (.bool (bc s p).2.2)]))∧ob'=[.cells [.d (.v (.string s)),.d (.v (.int .i64 p)),.d (.v (.int .i64 c)),.d (.v (.int .i64 a))] 112]:=by
 refine bS Tryz.func87 Tryz.ntmps87 1 ?_;refine kc 18 [5,0] 0 ?_;refine lP (ι:=Nat) (fun i=>[(5,int i)]) [0] (fun i=>i≤s.size∧cX q7 s p=cX q7 s i) (fun i=>s.size-i) (p) rfl ?I26 ?M26 ?H26
 case I26=>
  exact⟨hp,rfl⟩
 case M26=>
  exact mz
 case H26=>
  rintro i hinv
  try dsimp only at hinv
  refine kc 0 [5,0] 11 ?_;refine' oa (yt:=46) (d:=21) 25 ?a11 ?b11 ?_
  case a11=>
   intro hc hK;refine go 5 ?_;refine gy ?_;refine o1 (Fe uP ?_);refine go 2 ?_;refine' oo (yt:=36) (d:=29) 7 ?a12 ?b12 ?_ (hg:=.yes rfl rfl rfl rfl)
   case a12=>
    intro hc hK;refine go 5 ?_;refine gy ?_;refine o1 (Fe uP ?_);refine go 1 ?_;exact hK [_,_,_,_,_,_,_] rfl rfl
   case b12=>
    intro _ hK;refine go 7 ?_;exact hK [_,_,_,_,_,_,_] rfl
   refine go 1 ?_;refine' oo (yt:=45) (d:=38) 7 ?a13 ?b13 ?_ (hg:=.yes rfl rfl rfl rfl)
   case a13=>
    intro hc hK;refine go 5 ?_;refine gy ?_;refine o1 (Fe uP ?_);refine go 1 ?_;exact hK [_,_,_,_,_,_,_] rfl rfl
   case b13=>
    intro _ hK;refine go 7 ?_;exact hK [_,_,_,_,_,_,_] rfl
   exact hK [_,_,_,_,_,_,_,_,_,_,_] rfl rfl
  case b11=>
   intro _ hK;refine go 25 ?_;exact hK [_,_,_,_,_,_,_,_,_,_,_,_,_,_,_,_,_,_,_,_,_,_,_,_,_] rfl
  refine go 2 ?_;refine cj (fun h2=>?_) (fun h2=>?_)
  ·refine kc 3 [5,0] 2 ?_;refine o1 (cF ?_);refine go 3 ?_;refine bi (i+1) rfl ?_ mz;exact⟨⟨by omega,hinv.2.trans (oC (by omega) (Nb (by omega)))⟩,by omega⟩
  refine kc 6 [5,0] 11 ?_;refine cj (fun h4=>?_) (fun h4=>?_)
  ·refine kc 0 [5] 10 ?_;refine sy [0] [.cells [.d (.v (.string s)),.d (.v (.int .i64 p)),.d (.v (.int .i64 c)),.d (.v (.int .i64 a))] 112] ?_
   ·rw [K3 hinv.2 (by omega)];exact⟨rfl,rfl⟩
  refine kc 3 [5,0] 0 ?_;have hsp:=hinv.2.trans (jW (by rintro⟨h8,h9⟩;have h10:bo s i=32∨bo s i=9∨bo s i=10:=(by simpa[q7] using h9);omega));refine gc 2 ?_;refine o1 (cF ?_);refine go 10 ?_;refine o1 (Fe uP ?_);refine ko 3 [7,6,5,0] 3 ?_;refine oc (cv Ky rfl rfl (nH (bo s i) true) (an (an .nil)) ?_);refine go 10 ?_;refine' oo (yt:=74) (d:=72) 2 ?a14 ?b14 ?_
  case a14=>
   intro hc hK;refine go 2 ?_;exact hK [_,_] rfl rfl
  case b14=>
   intro _ hK;refine go 2 ?_;exact hK [_,_] rfl
  refine go 3 ?_;refine cj (fun h10=>?_) (fun h10=>?_)
  ·refine kc 3 [6,5,0] 8 ?_;refine o1 (qg uP ?_);refine go 7 ?_;refine sy [0] [.cells [.d (.v (.string s)),.d (.v (.int .i64 p)),.d (.v (.int .i64 c)),.d (.v (.int .i64 a))] 112] ?_
   ·rw [K2 hsp (by omega) (by omega)];exact⟨rfl,rfl⟩
  refine kc 0 [8,7,6,5,0] 6 ?_;refine cj (fun h11=>?_) (fun h11=>?_)
  ·refine kc 2 [6,5,0] 0 ?_;refine lP (ι:=Nat) (fun q=>[(6,int q)]) [5,0] (fun q=>i<q∧q≤s.size∧cX (fX · false) s (i+1)=cX (fX · false) s q) (fun q=>s.size-q) (i+1) rfl ?I27 ?M27 ?H27
   case I27=>
    exact⟨by omega,by omega,rfl⟩
   case M27=>
    exact mz
   case H27=>
    rintro q hinv
    try dsimp only at hinv
    refine kc 0 [6,5,0] 11 ?_;refine' oa (yt:=92) (d:=85) 7 ?a15 ?b15 ?_
    case a15=>
     intro hc hK;refine go 5 ?_;refine gy ?_;refine o1 (Fe uP ?_);refine gy ?_;refine oc (cv Ky rfl rfl (nH (bo s q) false) (an (an .nil)) ?_);exact hK [_,_,_,_,_,_,_] rfl rfl
    case b15=>
     intro _ hK;refine go 7 ?_;exact hK [_,_,_,_,_,_,_] rfl
    refine go 2 ?_;refine cj (fun h12=>?_) (fun h12=>?_)
    ·refine kc 3 [6,5,0] 2 ?_;refine o1 (cF ?_);refine go 3 ?_;refine bi (q+1) rfl ?_ mz;exact⟨⟨by omega,by omega,hinv.2.2.trans (oC (by omega) (by simpa using h12.2))⟩,by omega⟩
    refine kc 5 [6,5,0] 4 ?_;refine o1 (iz ?_);refine go 3 ?_;refine cj (fun h14=>?_) (fun h14=>?_)
    ·refine kc 0 [5] 11 ?_;refine sy [0] [.cells [.d (.v (.string s)),.d (.v (.int .i64 p)),.d (.v (.int .i64 c)),.d (.v (.int .i64 a))] 112] ?_
     ·rw [DG hsp (by omega) (by omega) h11 (yS hinv.2.2 h12) (by omega)];exact⟨rfl,rfl⟩
    refine kc 3 [6,5,0] 8 ?_;refine o1 (qg uP ?_);refine go 7 ?_;refine sy [0] [.cells [.d (.v (.string s)),.d (.v (.int .i64 p)),.d (.v (.int .i64 c)),.d (.v (.int .i64 a))] 112] ?_
    ·rw [IL hsp (by omega) (by omega) h11 (yS hinv.2.2 h12) (by omega)];exact⟨rfl,rfl⟩
  refine gc 5 ?_;refine' oo (yt:=110) (d:=104) 6 ?a16 ?b16 ?_
  case a16=>
   intro hc hK;refine go 3 ?_;refine' oa (yt:=109) (d:=107) 2 ?a17 ?b17 ?_ (hg:=.yes rfl rfl rfl rfl)
   case a17=>
    intro hc hK;refine go 2 ?_;exact hK [_,_] rfl rfl
   case b17=>
    intro _ hK;refine go 2 ?_;exact hK [_,_] rfl
   exact hK [_,_,_,_] rfl rfl
  case b16=>
   intro _ hK;refine go 6 ?_;exact hK [_,_,_,_,_,_] rfl
  refine go 3 ?_;refine cJ (fun h16=>?_) (fun h16=>?_)
  ·refine kc 0 [5] 11 ?_;refine sy [0] [.cells [.d (.v (.string s)),.d (.v (.int .i64 p)),.d (.v (.int .i64 c)),.d (.v (.int .i64 a))] 112] ?_
   ·rw [IK hsp (by omega) (by omega) h11 (by omega)];exact⟨rfl,rfl⟩
  refine kc 2 [7,6,5,0] 0 ?_;refine lP (ι:=Nat) (fun q=>[(6,int q)]) [7,5,0] (fun q=>i<q∧q≤s.size∧cX jM s (i+1)=cX jM s q) (fun q=>s.size-q) (i+1) rfl ?I28 ?M28 ?H28
  case I28=>
   exact⟨by omega,by omega,rfl⟩
  case M28=>
   exact mz
  case H28=>
   rintro q hinv
   try dsimp only at hinv
   refine kc 0 [6,7,5,0] 11 ?_;refine' oa (yt:=126) (d:=119) 7 ?a18 ?b18 ?_
   case a18=>
    intro hc hK;refine go 5 ?_;refine gy ?_;refine o1 (Fe uP ?_);refine go 1 ?_;exact hK [_,_,_,_,_,_,_] rfl rfl
   case b18=>
    intro _ hK;refine go 7 ?_;exact hK [_,_,_,_,_,_,_] rfl
   refine go 1 ?_;refine' oa (yt:=135) (d:=128) 7 ?a19 ?b19 ?_
   case a19=>
    intro hc hK;refine go 5 ?_;refine gy ?_;refine o1 (Fe uP ?_);refine go 1 ?_;exact hK [_,_,_,_,_,_,_] rfl rfl
   case b19=>
    intro _ hK;refine go 7 ?_;exact hK [_,_,_,_,_,_,_] rfl
   refine go 2 ?_;refine cj (fun h17=>?_) (fun h17=>?_)
   ·refine kc 3 [6,7,5,0] 2 ?_;refine o1 (cF ?_);refine go 3 ?_;refine bi (q+1) rfl ?_ mz;exact⟨⟨by omega,by omega,hinv.2.2.trans (oC (by omega) (by simp only[jM,decide_eq_true_eq];omega))⟩,by omega⟩
   refine kc 5 [6,7,5,0] 13 ?_;refine cJ (fun h20=>?_) (fun h20=>?_)
   ·refine kc 2 [9,6,5,0] 6 ?_;refine' oo (yt:=151) (d:=147) 4 ?a20 ?b20 ?_
    case a20=>
     intro hc hK;refine go 2 ?_;refine gy ?_;refine o1 (iz ?_);refine go 1 ?_;exact hK [_,_,_,_] rfl rfl
    case b20=>
     intro _ hK;refine go 4 ?_;exact hK [_,_,_,_] rfl
    refine go 1 ?_;refine' oo (yt:=166) (d:=153) 13 ?a21 ?b21 ?_
    case a21=>
     intro hc hK;refine go 2 ?_;refine gy ?_;refine o1 (iz ?_);refine go 2 ?_;refine' oa (yt:=165) (d:=158) 7 ?a22 ?b22 ?_ (hg:=.yes rfl rfl rfl rfl)
     case a22=>
      intro hc hK;refine go 5 ?_;refine gy ?_;refine o1 (Fe uP ?_);refine go 1 ?_;exact hK [_,_,_,_,_,_,_] rfl rfl
     case b22=>
      intro _ hK;refine go 7 ?_;exact hK [_,_,_,_,_,_,_] rfl
     exact hK [_,_,_,_,_,_] rfl rfl
    case b21=>
     intro _ hK;refine go 13 ?_;exact hK [_,_,_,_,_,_,_,_,_,_,_,_,_] rfl
    refine go 2 ?_;refine cj (fun h22=>?_) (fun h22=>?_)
    ·refine kc 0 [5] 11 ?_;refine sy [0] [.cells [.d (.v (.string s)),.d (.v (.int .i64 p)),.d (.v (.int .i64 c)),.d (.v (.int .i64 a))] 112] ?_
     ·rw [yO hsp (by omega) (by omega) h11 (by omega) (oD hinv.2.2 (by omega)) (d:=i) (by rw[if_neg (by omega)]) (by omega)];exact⟨rfl,rfl⟩
    refine kc 3 [6,5,0] 8 ?_;refine o1 (qg uP ?_);refine go 7 ?_;refine sy [0] [.cells [.d (.v (.string s)),.d (.v (.int .i64 p)),.d (.v (.int .i64 c)),.d (.v (.int .i64 a))] 112] ?_
    ·rw [FG hsp (by omega) (by omega) h11 (by omega) (oD hinv.2.2 (by omega)) (d:=i) (by rw[if_neg (by omega)]) (by omega)];exact⟨rfl,rfl⟩
   refine kc 0 [6,5,0] 2 ?_;refine o1 (cF ?_);refine go 9 ?_;refine' oo (yt:=151) (d:=147) 4 ?a23 ?b23 ?_
   case a23=>
    intro hc hK;refine go 2 ?_;refine gy ?_;refine o1 (iz ?_);refine go 1 ?_;exact hK [_,_,_,_] rfl rfl
   case b23=>
    intro _ hK;refine go 4 ?_;exact hK [_,_,_,_] rfl
   refine go 1 ?_;refine' oo (yt:=166) (d:=153) 13 ?a24 ?b24 ?_
   case a24=>
    intro hc hK;refine go 2 ?_;refine gy ?_;refine o1 (iz ?_);refine go 2 ?_;refine' oa (yt:=165) (d:=158) 7 ?a25 ?b25 ?_ (hg:=.yes rfl rfl rfl rfl)
    case a25=>
     intro hc hK;refine go 5 ?_;refine gy ?_;refine o1 (Fe uP ?_);refine go 1 ?_;exact hK [_,_,_,_,_,_,_] rfl rfl
    case b25=>
     intro _ hK;refine go 7 ?_;exact hK [_,_,_,_,_,_,_] rfl
    exact hK [_,_,_,_,_,_] rfl rfl
   case b24=>
    intro _ hK;refine go 13 ?_;exact hK [_,_,_,_,_,_,_,_,_,_,_,_,_] rfl
   refine go 2 ?_;refine cj (fun h22=>?_) (fun h22=>?_)
   ·refine kc 0 [5] 11 ?_;refine sy [0] [.cells [.d (.v (.string s)),.d (.v (.int .i64 p)),.d (.v (.int .i64 c)),.d (.v (.int .i64 a))] 112] ?_
    ·rw [yO hsp (by omega) (by omega) h11 (by omega) (oD hinv.2.2 (by omega)) (d:=i+1) (by rw[if_pos (by omega)]) (by omega)];exact⟨rfl,rfl⟩
   refine kc 3 [6,5,0] 8 ?_;refine o1 (qg uP ?_);refine go 7 ?_;refine sy [0] [.cells [.d (.v (.string s)),.d (.v (.int .i64 p)),.d (.v (.int .i64 c)),.d (.v (.int .i64 a))] 112] ?_
   ·rw [FG hsp (by omega) (by omega) h11 (by omega) (oD hinv.2.2 (by omega)) (d:=i+1) (by rw[if_pos (by omega)]) (by omega)];exact⟨rfl,rfl⟩
end
section
open Go Go.Vd Go.RowKit
attribute [local irreducible] bq bu dh ak bJ
variable {gl:Nat→List D}
def iw(s:ByteArray)(r:RS):Ob:=.cells [.d (.v (.string s)),.d (.v (.int .i64 r.p)),.d (.v (.int .i64 (bC r.f))),.d (.v (.int .i64 (eF r.f)))] 112
theorem eJ(s:ByteArray)(at':Nat)(r:RS):
 er Tryz.prog gl 88 [iw s r] [.b0 0 0,.d (.v (.int .i64 at'))] fun out ob'=>out=.ret (.d (.bY []))∧ob'=[iw s (r.fail at')]:=by
 obtain⟨p,f⟩:=r;cases f with
 |none=>
  refine bS Tryz.func88 Tryz.ntmps88 1 ?_;refine gc 10 ?_;refine vS (fun h0=>?_) (fun h0=>?_)
  ·simp only[dq,Int.reduceEq,Int.reduceNe,Int.reduceLT,Int.reduceLE,bC,eF] at h0
  (try simp only[dq,Int.reduceEq,Int.reduceNe,Int.reduceLT,Int.reduceLE,bC,eF] at h0);refine kc 0 [0,1] 8 ?_;refine fM ?_;refine jL (l:=[]) rfl rfl ([0]) ([iw s (RS.fail at' ⟨p,none⟩)]) rfl rfl rfl ?_ ?_
  ·repeat (first|exact cG|refine bh ?_)
  ·exact ⟨rfl,rfl⟩
 |some a=>
  refine bS Tryz.func88 Tryz.ntmps88 1 ?_;refine gc 10 ?_;refine cd (fun h0=>?_) (fun h0=>?_)
  ·simp only[dq,Int.reduceEq,Int.reduceNe,Int.reduceLT,Int.reduceLE,bC,eF] at h0
  (try simp only[dq,Int.reduceEq,Int.reduceNe,Int.reduceLT,Int.reduceLE,bC,eF] at h0);refine gc 1 ?_;refine fM ?_;refine jL (l:=[]) rfl rfl ([0]) ([iw s (RS.fail at' ⟨p,some a⟩)]) rfl rfl rfl ?_ ?_
  ·repeat (first|exact cG|refine bh ?_)
  ·exact ⟨rfl,rfl⟩
theorem im(s:ByteArray)(r:RS)(hs:s.size≤1099511627776)(hp:r.p≤s.size):
 er Tryz.prog gl 89 [iw s r] [.b0 0 0] fun out ob'=>out=.ret (.d (.v (.string (aQ s r).1)))∧ob'=[iw s (aQ s r).2]:=by
 have hat:=fq (s:=s) hp;obtain⟨p,f⟩:=r;simp only at hat hp;cases f with
 |none=>
  refine bS Tryz.func89 Tryz.ntmps89 1 ?_;refine gc 8 ?_;refine oc (ck pD rfl rfl (c6 s p (bC none) (eF none) hs hp) [0] rfl (bh .nil) (an .nil) ?_);refine ko 10 [5,4,3,0] 5 ?_;apply nD (yt:=16) (d:=14) 2 rfl rfl rfl (.none rfl) rfl rfl
  case h1=>
   intro hb4 hK;have hc:=hb4;(try simp only[dq,Int.reduceEq,Int.reduceNe,Int.reduceLT,Int.reduceLE,bC,eF,RS.fail] at hc);refine lS ?_ (hbw:=by exact hb4);refine go 1 ?_;refine lS ?_ (hbw:=by exact hb4);refine go 1 ?_;exact hK [_,_] rfl rfl
  case h2=>
   intro hb4 hK;refine lN ?_ (hbw:=by exact hb4);refine lN ?_ (hbw:=by exact hb4);exact hK [_,_] rfl
  refine go 2 ?_;refine cd (fun h2=>?_) (fun h2=>?_)
  ·(try simp only[dq,Int.reduceEq,Int.reduceNe,Int.reduceLT,Int.reduceLE,bC,eF,RS.fail] at h2)
   refine kc 0 [4,3,0] 3 ?_;refine oc (ck uJ rfl rfl (eJ s (bc s p).2.1 ⟨p,none⟩) [0] rfl (bh .nil) (an (an .nil)) ?_);refine go 13 ?_;refine vS (fun h4=>?_) (fun h4=>?_)
   ·simp only[dq,Int.reduceEq,Int.reduceNe,Int.reduceLT,Int.reduceLE,bC,eF,RS.fail] at h4
   (try simp only[dq,Int.reduceEq,Int.reduceNe,Int.reduceLT,Int.reduceLE,bC,eF,RS.fail] at h4);refine kc 0 [] 7 ?_;refine sy [0] [iw s (RS.fail (bc s p).2.1 ⟨p,none⟩)] ?_
   ·unfold aQ;simp only;rw[if_pos (by exact h2)];exact⟨rfl,rfl⟩
  (try simp only[dq,Int.reduceEq,Int.reduceNe,Int.reduceLT,Int.reduceLE,bC,eF,RS.fail] at h2);refine kc 3 [4,3,0] 10 ?_;refine cd (fun h4=>?_) (fun h4=>?_)
  ·simp only[dq,Int.reduceEq,Int.reduceNe,Int.reduceLT,Int.reduceLE,bC,eF,RS.fail] at h4
  (try simp only[dq,Int.reduceEq,Int.reduceNe,Int.reduceLT,Int.reduceLE,bC,eF,RS.fail] at h4);refine kc 2 [4,3,0] 6 ?_;refine o1 (cF ?_);refine ko 5 [3] 7 ?_;refine sy [0] [iw s ⟨(bc s p).2.1+(bc s p).1.size,none⟩] ?_
  ·unfold aQ;simp only;rw[if_neg (by rintro(h|h);exact absurd h (by simpa using h2.1);exact h2.2 h)];exact⟨rfl,rfl⟩
 |some a=>
  refine bS Tryz.func89 Tryz.ntmps89 1 ?_;refine gc 8 ?_;refine oc (ck pD rfl rfl (c6 s p (bC (some a)) (eF (some a)) hs hp) [0] rfl (bh .nil) (an .nil) ?_);refine ko 10 [5,4,3,0] 5 ?_;apply nD (yt:=16) (d:=14) 2 rfl rfl rfl (.none rfl) rfl rfl
  case h1=>
   intro hb4 hK;have hc:=hb4;(try simp only[dq,Int.reduceEq,Int.reduceNe,Int.reduceLT,Int.reduceLE,bC,eF,RS.fail] at hc);refine lS ?_ (hbw:=by exact hb4);refine go 1 ?_;refine lS ?_ (hbw:=by exact hb4);refine go 1 ?_;exact hK [_,_] rfl rfl
  case h2=>
   intro hb4 hK;refine lN ?_ (hbw:=by exact hb4);refine lN ?_ (hbw:=by exact hb4);exact hK [_,_] rfl
  refine go 2 ?_;refine vS (fun h2=>?_) (fun h2=>?_)
  ·(try simp only[dq,Int.reduceEq,Int.reduceNe,Int.reduceLT,Int.reduceLE,bC,eF,RS.fail] at h2)
   refine kc 3 [4,3,0] 10 ?_;refine vS (fun h4=>?_) (fun h4=>?_)
   ·simp only[dq,Int.reduceEq,Int.reduceNe,Int.reduceLT,Int.reduceLE,bC,eF,RS.fail] at h4
   (try simp only[dq,Int.reduceEq,Int.reduceNe,Int.reduceLT,Int.reduceLE,bC,eF,RS.fail] at h4);refine kc 0 [] 7 ?_;refine sy [0] [iw s ⟨p,some a⟩] ?_
   ·unfold aQ;simp only;rw[if_neg (by rintro(h|h);exact absurd h (by simpa using h2.1);exact h2.2 h)];exact⟨rfl,rfl⟩
  (try simp only[dq,Int.reduceEq,Int.reduceNe,Int.reduceLT,Int.reduceLE,bC,eF,RS.fail] at h2);refine kc 0 [4,3,0] 3 ?_;refine oc (ck uJ rfl rfl (eJ s (bc s p).2.1 ⟨p,some a⟩) [0] rfl (bh .nil) (an (an .nil)) ?_);refine go 13 ?_;refine vS (fun h4=>?_) (fun h4=>?_)
  ·simp only[dq,Int.reduceEq,Int.reduceNe,Int.reduceLT,Int.reduceLE,bC,eF,RS.fail] at h4
  (try simp only[dq,Int.reduceEq,Int.reduceNe,Int.reduceLT,Int.reduceLE,bC,eF,RS.fail] at h4);refine kc 0 [] 7 ?_;refine sy [0] [iw s (RS.fail (bc s p).2.1 ⟨p,some a⟩)] ?_
  ·unfold aQ;simp only;rw[if_pos (by exact h2)];exact⟨rfl,rfl⟩
theorem gd(s t:ByteArray)(r:RS)(hs:s.size≤1099511627776)(hp:r.p≤s.size):
 er Tryz.prog gl 94 [iw s r] [.b0 0 0,.d (.v (.string t))] fun out ob'=>out=.ret (.d (.bY []))∧ob'=[iw s (ch s t r)]:=by
 have hat:=fq (s:=s) hp;obtain⟨p,f⟩:=r;simp only at hat hp;cases f with
 |none=>
  refine bS Tryz.func94 Tryz.ntmps94 1 ?_;refine gc 3 ?_;refine oc (ck pD rfl rfl (c6 s p (bC none) (eF none) hs hp) [0] rfl (bh .nil) (an .nil) ?_);refine ko 10 [6,5,4,0,1] 5 ?_;apply nD (yt:=18) (d:=15) 3 rfl rfl rfl (.none rfl) rfl rfl
  case h1=>
   intro hb4 hK;have hc:=hb4;(try simp only[dq,Int.reduceEq,Int.reduceNe,Int.reduceLT,Int.reduceLE,bC,eF,RS.fail] at hc);refine lS ?_ (hbw:=by exact hb4);refine go 1 ?_;refine lS ?_ (hbw:=by exact hb4);refine go 1 ?_;refine lS ?_ (hbw:=by exact hb4);refine go 1 ?_;exact hK [_,_,_] rfl rfl
  case h2=>
   intro hb4 hK;refine lN ?_ (hbw:=by exact hb4);refine lN ?_ (hbw:=by exact hb4);refine lN ?_ (hbw:=by exact hb4);exact hK [_,_,_] rfl
  refine go 2 ?_;refine cd (fun h1=>?_) (fun h1=>?_)
  ·(try simp only[dq,Int.reduceEq,Int.reduceNe,Int.reduceLT,Int.reduceLE,bC,eF,RS.fail] at h1)
   refine kc 0 [5,4,0] 3 ?_;refine oc (ck uJ rfl rfl (eJ s (bc s p).2.1 ⟨p,none⟩) [0] rfl (bh .nil) (an (an .nil)) ?_);refine go 12 ?_;refine cd (fun h3=>?_) (fun h3=>?_)
   ·simp only[dq,Int.reduceEq,Int.reduceNe,Int.reduceLT,Int.reduceLE,bC,eF,RS.fail] at h3
   (try simp only[dq,Int.reduceEq,Int.reduceNe,Int.reduceLT,Int.reduceLE,bC,eF,RS.fail] at h3);refine gc 1 ?_;refine fM ?_;refine jL (l:=[]) rfl rfl ([0]) ([iw s (RS.fail (bc s p).2.1 ⟨p,none⟩)]) rfl rfl rfl ?_ ?_
   ·repeat (first|exact cG|refine bh ?_)
   ·refine ⟨rfl,?_⟩;unfold ch;dsimp only;rw[if_pos (by exact h1)]
  (try simp only[dq,Int.reduceEq,Int.reduceNe,Int.reduceLT,Int.reduceLE,bC,eF,RS.fail] at h1);refine kc 2 [5,4,0] 10 ?_;refine vS (fun h3=>?_) (fun h3=>?_)
  ·simp only[dq,Int.reduceEq,Int.reduceNe,Int.reduceLT,Int.reduceLE,bC,eF,RS.fail] at h3
  (try simp only[dq,Int.reduceEq,Int.reduceNe,Int.reduceLT,Int.reduceLE,bC,eF,RS.fail] at h3);refine kc 0 [5,4,0] 5 ?_;refine o1 (cF ?_);refine go 4 ?_;refine fM ?_;refine jL (l:=[]) rfl rfl ([0]) ([iw s ⟨(bc s p).2.1+(bc s p).1.size,none⟩]) rfl rfl rfl ?_ ?_
  ·repeat (first|exact cG|refine bh ?_)
  ·refine ⟨rfl,?_⟩;unfold ch;dsimp only;rw[if_neg (by rintro(h|h);exact absurd h (by simpa using h1.1);exact h h1.2)]
 |some a=>
  refine bS Tryz.func94 Tryz.ntmps94 1 ?_;refine gc 3 ?_;refine oc (ck pD rfl rfl (c6 s p (bC (some a)) (eF (some a)) hs hp) [0] rfl (bh .nil) (an .nil) ?_);refine ko 10 [6,5,4,0,1] 5 ?_;apply nD (yt:=18) (d:=15) 3 rfl rfl rfl (.none rfl) rfl rfl
  case h1=>
   intro hb4 hK;have hc:=hb4;(try simp only[dq,Int.reduceEq,Int.reduceNe,Int.reduceLT,Int.reduceLE,bC,eF,RS.fail] at hc);refine lS ?_ (hbw:=by exact hb4);refine go 1 ?_;refine lS ?_ (hbw:=by exact hb4);refine go 1 ?_;refine lS ?_ (hbw:=by exact hb4);refine go 1 ?_;exact hK [_,_,_] rfl rfl
  case h2=>
   intro hb4 hK;refine lN ?_ (hbw:=by exact hb4);refine lN ?_ (hbw:=by exact hb4);refine lN ?_ (hbw:=by exact hb4);exact hK [_,_,_] rfl
  refine go 2 ?_;refine vS (fun h1=>?_) (fun h1=>?_)
  ·(try simp only[dq,Int.reduceEq,Int.reduceNe,Int.reduceLT,Int.reduceLE,bC,eF,RS.fail] at h1)
   refine kc 2 [5,4,0] 10 ?_;refine cd (fun h3=>?_) (fun h3=>?_)
   ·simp only[dq,Int.reduceEq,Int.reduceNe,Int.reduceLT,Int.reduceLE,bC,eF,RS.fail] at h3
   (try simp only[dq,Int.reduceEq,Int.reduceNe,Int.reduceLT,Int.reduceLE,bC,eF,RS.fail] at h3);refine gc 1 ?_;refine fM ?_;refine jL (l:=[]) rfl rfl ([0]) ([iw s ⟨p,some a⟩]) rfl rfl rfl ?_ ?_
   ·repeat (first|exact cG|refine bh ?_)
   ·refine ⟨rfl,?_⟩;unfold ch;dsimp only;rw[if_neg (by rintro(h|h);exact absurd h (by simpa using h1.1);exact h h1.2)]
  (try simp only[dq,Int.reduceEq,Int.reduceNe,Int.reduceLT,Int.reduceLE,bC,eF,RS.fail] at h1);refine kc 0 [5,4,0] 3 ?_;refine oc (ck uJ rfl rfl (eJ s (bc s p).2.1 ⟨p,some a⟩) [0] rfl (bh .nil) (an (an .nil)) ?_);refine go 12 ?_;refine cd (fun h3=>?_) (fun h3=>?_)
  ·simp only[dq,Int.reduceEq,Int.reduceNe,Int.reduceLT,Int.reduceLE,bC,eF,RS.fail] at h3
  (try simp only[dq,Int.reduceEq,Int.reduceNe,Int.reduceLT,Int.reduceLE,bC,eF,RS.fail] at h3);refine gc 1 ?_;refine fM ?_;refine jL (l:=[]) rfl rfl ([0]) ([iw s (RS.fail (bc s p).2.1 ⟨p,some a⟩)]) rfl rfl rfl ?_ ?_
  ·repeat (first|exact cG|refine bh ?_)
  ·refine ⟨rfl,?_⟩;unfold ch;dsimp only;rw[if_pos (by exact h1)]
theorem HM(s:ByteArray)(r:RS)(hs:s.size≤1099511627776)(hp:r.p≤s.size):
 er Tryz.prog gl 53 [iw s r] [.b0 0 0] fun out ob'=>out=.ret (.d (.agg [.v (.int .i64 (bC (iv s r).f)),.v (.int .i64 (eF (iv s r).f))]))∧ob'=[iw s (iv s r)]:=by
 refine bS Tryz.func53 Tryz.ntmps53 1 ?_;refine gc 8 ?_;refine oc (ck pD rfl rfl (c6 s r.p (bC r.f) (eF r.f) hs hp) [0] rfl (bh .nil) (an .nil) ?_);refine ko 10 [5,4,3,2,0] 5 ?_;refine' oo (yt:=16) (d:=14) 2 ?a1 ?b1 ?_
 case a1=>
  intro hc hK;refine go 2 ?_;exact hK [_,_] rfl rfl
 case b1=>
  intro _ hK;refine go 2 ?_;exact hK [_,_] rfl
 refine go 2 ?_;refine cJ (fun h2=>?_) (fun h2=>?_)
 ·refine kc 2 [2,0] 10 ?_;refine sy [0] [iw s r] ?_
  ·unfold iv;simp only;rw[if_neg (by rintro(h|h);exact absurd h (by simpa using h2.1);exact h h2.2)];exact⟨rfl,rfl⟩
 refine kc 0 [4,2,0] 3 ?_;refine oc (ck uJ rfl rfl (eJ s (bc s r.p).2.1 r) [0] rfl (bh .nil) (an (an .nil)) ?_);refine ko 2 [2,0] 10 ?_;refine sy [0] [iw s (RS.fail (bc s r.p).2.1 r)] ?_
 ·unfold iv;simp only;rw[if_pos (by exact h2)];exact⟨rfl,rfl⟩
end
section
open Go Go.Vd Go.RowKit
attribute [local irreducible] bq bu dh ak bJ
variable {gl:Nat→List D}
theorem xh(s:ByteArray)(hs:s.size≤1099511627776):∀(n:Nat) (r:RS),r.p≤s.size→s.size-r.p<n→
 er Tryz.prog gl 91 [iw s r] [.b0 0 0] fun out ob'=>out=.ret (.d (bL n s r).1.d)∧ob'=[iw s (bL n s r).2]:=by
 intro n
 induction n with
 |zero=>intro r _ h;omega
 |succ n ih=>
  intro r hp hn;have hat:=fq (s:=s) hp;obtain⟨p,f⟩:=r;simp only at hat hp hn;cases f with
  |some a=>
   refine bS Tryz.func91 Tryz.ntmps91 1 ?_;refine gc 8 ?_;refine oc (ck pD rfl rfl (c6 s p (bC (some a)) (eF (some a)) hs hp) [0] rfl (bh .nil) (an .nil) ?_);refine ko 9 [4,3,2,0] 3 ?_;refine oc (cv Gv rfl rfl (ng (bc s p).1) (an .nil) ?_);refine go 16 ?_;refine vS (fun h4=>?_) (fun h4=>?_)
   ·simp only[dq,Int.reduceEq,Int.reduceNe,Int.reduceLT,Int.reduceLE,bC,eF] at h4
   (try simp only[dq,Int.reduceEq,Int.reduceNe,Int.reduceLT,Int.reduceLE,bC,eF] at h4);refine kc 3 [2] 7 ?_;refine eo (j4.d) [0] [iw s ⟨p,some a⟩] ?_
   ·exact ⟨rfl,rfl⟩
  |none=>
   have hn1:=cZ (s:=s) (r:=⟨p,none⟩) hp;have hn2:=cZ (s:=s) (r:=(aQ s ⟨p,none⟩).2) hn1.2;have hl1:=eI (s:=s) n (r:=(aQ s (aQ s ⟨p,none⟩).2).2) hn2.2;have hl2:=eI (s:=s) n (r:=(bL n s (aQ s (aQ s ⟨p,none⟩).2).2).2) hl1.2;refine bS Tryz.func91 Tryz.ntmps91 1 ?_;refine gc 8 ?_;refine oc (ck pD rfl rfl (c6 s p (bC none) (eF none) hs hp) [0] rfl (bh .nil) (an .nil) ?_);refine ko 9 [4,3,2,0] 3 ?_;refine oc (cv Gv rfl rfl (ng (bc s p).1) (an .nil) ?_);refine go 16 ?_;refine cd (fun h4=>?_) (fun h4=>?_)
   ·simp only[dq,Int.reduceEq,Int.reduceNe,Int.reduceLT,Int.reduceLE,bC,eF] at h4
   (try simp only[dq,Int.reduceEq,Int.reduceNe,Int.reduceLT,Int.reduceLE,bC,eF] at h4);refine kc 0 [6,4,3,2,0] 7 ?_;refine cd (fun h5=>?_) (fun h5=>?_)
   ·(try simp only[dq,Int.reduceEq,Int.reduceNe,Int.reduceLT,Int.reduceLE,bC,eF] at h5)
    refine kc 0 [2,0] 2 ?_;refine oc (ck Dd rfl rfl (im s ⟨p,none⟩ hs hp) [0] rfl (bh .nil) (an .nil) ?_);refine go 10 ?_;refine eo (j4.d) [0] [iw s (aQ s ⟨p,none⟩).2] ?_
    ·rw [mN h5];exact⟨rfl,rfl⟩
   (try simp only[dq,Int.reduceEq,Int.reduceNe,Int.reduceLT,Int.reduceLE,bC,eF] at h5);refine gc 6 ?_;refine cd (fun h7=>?_) (fun h7=>?_)
   ·(try simp only[dq,Int.reduceEq,Int.reduceNe,Int.reduceLT,Int.reduceLE,bC,eF] at h7)
    refine kc 0 [3,2,0] 3 ?_;refine oc (ck Dd rfl rfl (im s ⟨p,none⟩ hs hp) [0] rfl (bh .nil) (an .nil) ?_);refine go 12 ?_;refine eo ((aO.mk 4 (bc s p).1 []).d) [0] [iw s (aQ s ⟨p,none⟩).2] ?_
    ·rw [mP h5 h7];exact⟨rfl,rfl⟩
   (try simp only[dq,Int.reduceEq,Int.reduceNe,Int.reduceLT,Int.reduceLE,bC,eF] at h7);refine kc 0 [4,3,2,0] 7 ?_;refine vS (fun h10=>?_) (fun h10=>?_)
   ·(try simp only[dq,Int.reduceEq,Int.reduceNe,Int.reduceLT,Int.reduceLE,bC,eF] at h10)
    refine kc 0 [4,2,0] 3 ?_;refine oc (ck uJ rfl rfl (eJ s (bc s p).2.1 ⟨p,none⟩) [0] rfl (bh .nil) (an (an .nil)) ?_);refine ko 3 [2] 7 ?_;refine eo (j4.d) [0] [iw s ((RS.mk p none).fail (bc s p).2.1)] ?_
    ·rw [mS h5 h7 h10];exact⟨rfl,rfl⟩
   (try simp only[dq,Int.reduceEq,Int.reduceNe,Int.reduceLT,Int.reduceLE,bC,eF] at h10);refine kc 0 [2,0] 3 ?_;refine oc (ck Dd rfl rfl (im s ⟨p,none⟩ hs hp) [0] rfl (bh .nil) (an .nil) ?_);refine go 5 ?_;refine oc (ck pD rfl rfl (c6 s (aQ s ⟨p,none⟩).2.p (bC (aQ s ⟨p,none⟩).2.f) (eF (aQ s ⟨p,none⟩).2.f) hs hn1.2) [0] rfl (bh .nil) (an .nil) ?_);refine ko 20 [52,10,8,2,0] 0 ?_;refine xc (ι:=Unit) (fun _=>[(10,int (gP (bc s (aQ s ⟨p,none⟩).2.p).1))]) [8,2,0] (fun _=>True) rfl ?A1 ?B1
   case A1=>
    refine gc 7 ?_;refine cd (fun h15=>?_) (fun h15=>?_)
    ·(try simp only[dq,Int.reduceEq,Int.reduceNe,Int.reduceLT,Int.reduceLE,bC,eF] at h15)
     refine kc 0 [8,2,0] 4 ?_;refine bi (()) rfl ?_ ?_
     ·trivial
     ·refine mo ?_ (ee rfl (by exact Fit.of_eq (by simp only[gP];simp_all<;>rfl)) (aH (aH (aH dC))))
      repeat (first|exact cG|refine bh ?_)
    (try simp only[dq,Int.reduceEq,Int.reduceNe,Int.reduceLT,Int.reduceLE,bC,eF] at h15);refine gc 6 ?_;refine cd (fun h17=>?_) (fun h17=>?_)
    ·(try simp only[dq,Int.reduceEq,Int.reduceNe,Int.reduceLT,Int.reduceLE,bC,eF] at h17)
     refine kc 0 [8,2,0] 4 ?_;refine bi (()) rfl ?_ ?_
     ·trivial
     ·refine mo ?_ (ee rfl (by exact Fit.of_eq (by simp only[gP];simp_all<;>rfl)) (aH (aH (aH dC))))
      repeat (first|exact cG|refine bh ?_)
    (try simp only[dq,Int.reduceEq,Int.reduceNe,Int.reduceLT,Int.reduceLE,bC,eF] at h17);refine kc 0 [52,10,8,2,0] 6 ?_;refine vS (fun h19=>?_) (fun h19=>?_)
    ·(try simp only[dq,Int.reduceEq,Int.reduceNe,Int.reduceLT,Int.reduceLE,bC,eF] at h19)
     refine gc 2 ?_;refine bi (()) rfl ?_ ?_
     ·trivial
     ·refine mo ?_ (ee rfl (by exact Fit.of_eq (by simp only[gP];simp_all<;>rfl)) (aH (aH (aH dC))))
      repeat (first|exact cG|refine bh ?_)
    (try simp only[dq,Int.reduceEq,Int.reduceNe,Int.reduceLT,Int.reduceLE,bC,eF] at h19);refine kc 0 [8,2,0] 4 ?_;refine bi (()) rfl ?_ ?_
    ·trivial
    ·refine mo ?_ (ee rfl (by exact Fit.of_eq (by simp only[gP];simp_all<;>rfl)) (aH (aH (aH dC))))
     repeat (first|exact cG|refine bh ?_)
   case B1=>
    rintro _ hcut
    try dsimp only at hcut
    refine kc 0 [10,8,2,0] 7 ?_;refine cd (fun h21=>?_) (fun h21=>?_)
    ·(try simp only[dq,Int.reduceEq,Int.reduceNe,Int.reduceLT,Int.reduceLE,bC,eF] at h21)
     refine gc 4 ?_;refine oc (ck uJ rfl rfl (eJ s (bc s (aQ s ⟨p,none⟩).2.p).2.1 (aQ s ⟨p,none⟩).2) [0] rfl (bh .nil) (an (an .nil)) ?_);refine ko 2 [2] 10 ?_;refine eo (j4.d) [0] [iw s ((aQ s ⟨p,none⟩).2.fail (bc s (aQ s ⟨p,none⟩).2.p).2.1)] ?_
     ·rw [mQ h5 h7 h10 h21];exact⟨rfl,rfl⟩
    (try simp only[dq,Int.reduceEq,Int.reduceNe,Int.reduceLT,Int.reduceLE,bC,eF] at h21);refine gc 5 ?_;refine oc (ck Dd rfl rfl (im s (aQ s ⟨p,none⟩).2 hs hn1.2) [0] rfl (bh .nil) (an .nil) ?_);refine ko 2 [10,2,0] 9 ?_
    have hne:(bc s p).1≠ .empty:=by rw[h10];decide
    have hsz1:(bc s p).1.size=1:=by rw[h10];rfl
    have hnx:=iK hne;have hpr:p<(aQ s ⟨p,none⟩).2.p:=by rw[hnx];simp only;omega
    have hpr2:=hn2.1;obtain⟨k1,s1,a1,hX1⟩:=aO.case (bL n s (aQ s (aQ s ⟨p,none⟩).2).2).1;obtain⟨k2,s2,a2,hX2⟩:=aO.case (bL n s (bL n s (aQ s (aQ s ⟨p,none⟩).2).2).2).1;refine gz [0,1,2] mixed ?_;refine A2 3 rfl (aJ L3 rfl rfl rfl rfl (ih (aQ s (aQ s ⟨p,none⟩).2).2 hn2.2 (by omega)) [0] (bh .nil) rfl rfl rfl rfl (an .nil) (fun s ob' hq=>?_) (fun s ob' hq=>?_))
    rotate_left
    ·first|exact hq.elim|cases hq.1
    obtain⟨hq1,rfl⟩:=hq;rw[hX1] at hq1;cases hq1;refine⟨_,_,_,_,_,rfl,rfl,rfl,rfl,rfl,?_⟩;refine A2 4 rfl (gK jg [.tmp 72] eK ?_);refine A2 (T:=fun _=>False) 5 rfl (rn jg rfl rfl rfl rfl rfl rfl (by simp only[List.length_cons,List.length_nil,Nat.reduceAdd];rfl) rfl rfl (by decide) (by simp) (by first|decide|(simp only[maxLen,List.length_cons,List.length_nil,List.length_append,List.length_map];omega)|omega) rfl rfl rfl ?_);refine ga [6] ?_;refine A2 7 rfl (dP vy ?_);refine aS ?_;refine ke 2 [11,10,2,0] 6 ?_;refine vS (fun h27=>?_) (fun h27=>?_)
    ·(try simp only[dq,Int.reduceEq,Int.reduceNe,Int.reduceLT,Int.reduceLE,bC,eF] at h27)
     refine gc 5 ?_;refine oc (ck yB rfl rfl (gd s ⟨#[41]⟩ (bL n s (aQ s (aQ s ⟨p,none⟩).2).2).2 hs hl1.2) [0] rfl (bh .nil) (an (an .nil)) ?_);refine ko 2 [11,2] 9 ?_;refine eo ((aO.mk (gP (bc s (aQ s ⟨p,none⟩).2.p).1) .empty [aO.mk k1 s1 a1]).d) [0] [iw s (ch s ⟨#[41]⟩ (bL n s (aQ s (aQ s ⟨p,none⟩).2).2).2)] ?_
     ·rw [oT h5 h7 h10 h27,hX1,h27];exact⟨rfl,rfl⟩
    (try simp only[dq,Int.reduceEq,Int.reduceNe,Int.reduceLT,Int.reduceLE,bC,eF] at h27);refine gz [0,1,2] mixed ?_;refine A2 3 rfl (aJ L3 rfl rfl rfl rfl (ih (bL n s (aQ s (aQ s ⟨p,none⟩).2).2).2 hl1.2 (by have:=hl1.1;omega)) [0] (bh .nil) rfl rfl rfl rfl (an .nil) (fun s ob' hq=>?_) (fun s ob' hq=>?_))
    rotate_left
    ·first|exact hq.elim|cases hq.1
    obtain⟨hq1,rfl⟩:=hq;rw[hX2] at hq1;cases hq1;refine⟨_,_,_,_,_,rfl,rfl,rfl,rfl,rfl,?_⟩;refine A2 4 rfl (gK jg [.tmp 81] eK ?_);refine A2 5 rfl (px jg ?_);refine ga [6] ?_;refine A2 7 rfl (dP vy ?_);refine aS ?_;refine ke 1 [11,2,0] 3 ?_;refine oc (ck yB rfl rfl (gd s ⟨#[41]⟩ (bL n s (bL n s (aQ s (aQ s ⟨p,none⟩).2).2).2).2 hs hl2.2) [0] rfl (bh .nil) (an (an .nil)) ?_);refine go 11 ?_;refine eo ((aO.mk (gP (bc s (aQ s ⟨p,none⟩).2.p).1) .empty [aO.mk k1 s1 a1,aO.mk k2 s2 a2]).d) [0] [iw s (ch s ⟨#[41]⟩ (bL n s (bL n s (aQ s (aQ s ⟨p,none⟩).2).2).2).2)] ?_
    ·rw [jo h5 h7 h10 h21 h27,hX1,hX2];exact⟨rfl,rfl⟩
end
section
open Go Go.Vd Go.RowKit
attribute [local irreducible] bq bu dh ak bJ
variable {gl:Nat→List D}
theorem xr(w:ByteArray):gP w=0∨((gP w=1∨gP w=2∨gP w=3)∧w≠ .empty):=by
 unfold gP;split
 ·rename_i h;subst h;exact .inr ⟨.inl rfl,by decide⟩
 ·split
  ·rename_i h;subst h;exact .inr ⟨.inr (.inl rfl),by decide⟩
  ·split
   ·rename_i h;subst h;exact .inr ⟨.inr (.inr rfl),by decide⟩
   ·exact .inl rfl
theorem xk{s:ByteArray}:∀(n:Nat) {r:RS},r.p≤s.size→∃x:eB,(bL n s r).1=x.cB∧vG x.cB∧x.weight+20*r.p≤10+20*(bL n s r).2.p:=by
 have hz:vG eB.zero.cB:=by simp[eB.cB,vG,ER]
 have hzz:j4=eB.zero.cB:=rfl;intro n
 induction n with
 |zero=>intro r hp;exact⟨.zero,rfl,hz,by simp[bL,eB.weight]⟩
 |succ n ih=>
  intro r hp;obtain⟨p,f⟩:=r;simp only at hp;cases f with
  |some a=>exact⟨.zero,rfl,hz,by simp[bL,eB.weight]⟩
  |none=>
   have hat:=fq (s:=s) hp;have h1:=cZ (s:=s) (r:=⟨p,none⟩) hp;have h2:=cZ (s:=s) (r:=(aQ s ⟨p,none⟩).2) h1.2;have h3:=eI n h2.2;have h4:=eI n h3.2;obtain⟨xa,ea,fa,wa⟩:=ih h2.2;obtain⟨xb,eb,fb,wb⟩:=ih h3.2;have h5:=bX (s:=s) (w:=⟨#[41]⟩) h3.2;have h6:=bX (s:=s) (w:=⟨#[41]⟩) h4.2;simp only at h1;by_cases c0:(bc s p).1=⟨#[48]⟩
   ·rw [mN c0];exact⟨.zero,rfl,hz,by simp only[eB.weight];omega⟩
   cases c1:dI (bc s p).1 with
   |true=>
    have hne:(bc s p).1≠ .empty:=by
     intro e;rw[e] at c1;simp[dI] at c1
    rw[mP c0 c1,iK hne];refine⟨.param (bc s p).1,rfl,by simp[eB.cB,vG,ER,hne],?_⟩;simp only[eB.weight];omega
   |false=>
    by_cases c2:(bc s p).1=⟨#[40]⟩
    ·have hne:(bc s p).1≠ .empty:=by rw[c2];decide
     have hp1:p+1≤(aQ s ⟨p,none⟩).2.p:=by
      rw[iK hne];have:(bc s p).1.size=1:=by rw[c2];rfl
      simp only;omega
     rcases xr (bc s (aQ s ⟨p,none⟩).2.p).1 with hk|⟨hk,hne2⟩
     ·rw [mQ c0 c1 c2 hk];exact⟨.zero,rfl,hz,by simp only[eB.weight,RS.ij];omega⟩
     ·have hp2:(aQ s ⟨p,none⟩).2.p+1≤(aQ s (aQ s ⟨p,none⟩).2).2.p:=by
       have h7:aQ s ⟨p,none⟩=((bc s p).1,⟨(bc s p).2.1+(bc s p).1.size,none⟩):=iK hne;rw[h7] at hne2 ⊢;simp only at hne2 ⊢;rw[iK hne2];have h8:=fq (s:=s) (p:=(bc s p).2.1+(bc s p).1.size) hat.2;have h9:=pM hne2;simp only;omega
      rcases hk with hk|hk|hk
      ·rw [oT c0 c1 c2 hk,ea];refine⟨.succ xa,rfl,by simp[eB.cB,vG,ER,fa],?_⟩;simp only[eB.weight];omega
      ·rw [jo c0 c1 c2 (by omega) (by omega),ea,eb,hk];refine⟨.max xa xb,rfl,by simp[eB.cB,vG,ER,fa,fb],?_⟩;simp only[eB.weight];omega
      ·rw [jo c0 c1 c2 (by omega) (by omega),ea,eb,hk];refine⟨.imax xa xb,rfl,by simp[eB.cB,vG,ER,fa,fb],?_⟩;simp only[eB.weight];omega
    ·rw [mS c0 c1 c2];exact⟨.zero,rfl,hz,by simp only[eB.weight,RS.ij];omega⟩
end
section
open Go Go.Vd Go.RowKit
def i64(n:Int):Prop:= -9223372036854775808≤n∧n≤9223372036854775807
structure Step where
 k:Int
 s:ByteArray
 t:ByteArray
 u:ByteArray
 a:Int
 b:Int
def Step.cells(o:Step):List D:=[.v (.int .i64 o.k),.v (.string o.s),.v (.string o.t),.v (.string o.u),.v (.int .i64 o.a),.v (.int .i64 o.b)]
def steps(l:List Step):List (List D):=l.map Step.cells
theorem tX(l:List Step):(steps l).length=l.length:=by simp[steps]
theorem vK{l:List Step}{i:Nat}(h:i<l.length):(steps l)[((i:Nat):Int).toNat]? =some [.v (.int .i64 l[i].k),.v (.string l[i].s),.v (.string l[i].t),.v (.string l[i].u),.v (.int .i64 l[i].a),.v (.int .i64 l[i].b)]:=by simp[steps,h,Step.cells]
end
section
open Go Go.Vd Go.RowKit Go.ChangeShapes Go.WideShapes
def rb(w:World):Mem:=fun b o=>(w.cell? ⟨b,o,none⟩).bind fun x=>if x.oneCell' then some x else none
variable {w:World}
theorem vP{b o:Nat}{x:Value}(h:w.cell? ⟨b,o,none⟩=some x)(h1:x.oneCell'=true):rb w b o=some x:=by simp[rb,h,h1]
variable {gl:Nat→List D}
theorem Nh(hg:∀b,eV (rb w) b 0 (gl b)):cU gl [] ⟨rb w,[]⟩ w:=by
 refine⟨rfl,by simp,by simp,by simp,fun b o x h=>?_,hg⟩;simp only[rb,Option.bind_eq_some_iff] at h;obtain⟨y,h1,h2⟩:=h;split at h2
 ·cases h2;exact⟨h1,by assumption⟩
 ·cases h2
theorem yA{P:Program}{f:FuncId}{ds:List D}{Q:D→Prop}{vs:List Value}(h:cC P gl f ds Q)(hg:∀b,eV (rb w) b 0 (gl b))(hd:bB ⟨rb w,[]⟩ (ds.map .d) vs):
 Calls P f ⟨vs⟩ w fun e w'=> ∃v d m,e=.returned v∧D.Den m d v∧Q d∧Below w.heap.size w w':=by
 refine(h _ w vs (Nh hg) hd).mono fun e w' he=>?_
 obtain⟨g',ob',hs,hst,_,_,he⟩:=he;have hb:Below w.heap.size w w':=⟨hst.fr.os,hst.fr.tape,hst.fr.output,hst.fr.size,fun k hk=>hst.fr.block k hk (fun hx=>by
  obtain⟨i,o,p,h1,_⟩:=hx;simp at h1)⟩
 cases e with
 |returned v=>
  obtain⟨s,h1,h2,d,h3,h4⟩:=he;cases h3;exact⟨v,d,_,rfl,h1,h4,hb⟩
 |panicked c=>obtain⟨v,s,_,_,_,d,h3,_⟩:=he;cases h3
 |outgrown=>exact he.elim
theorem C0{α:Type}{n:Nat}{p:Nat→α→Prop}(h:∀i,i<n→∃x,p i x):∃l:List α,l.length=n∧∀(i:Nat) x,l[i]? =some x→p i x:=by
 induction n with
 |zero=>exact⟨[],rfl,by simp⟩
 |succ n ih=>
  obtain⟨l,h1,h2⟩:=ih fun i hi=>h i (by omega)
  obtain⟨x,hx⟩:=h n (by omega);refine⟨l++[x],by simp[h1],fun i y hy=>?_⟩;by_cases hi:i<l.length
  ·rw [List.getElem?_append_left hi] at hy;exact h2 i y hy
  ·have hil:i=l.length:=by
    have:=(List.getElem?_eq_some_iff.1 hy).1;simp at this;omega
   subst hil;rw[List.getElem?_append_right (Nat.le_refl _),Nat.sub_self] at hy;simp at hy;subst hy;rw[h1];exact hx
theorem AV{α:Type}{m:Mem}{k b:Nat}(c:α→List D):∀{l:List α} {off:Nat},(∀ (i:Nat) x,l[i]? =some x→(c x).length=k∧eV m b (off+i*k) (c x))→ew m k b off (l.map c)
 |[],_,_=>trivial
 |x::r,off,h=>⟨by have:=h 0 x rfl;simpa using this,AV c fun i y hy=>by
  have:=h (i+1) y (by simpa using hy)
  rwa [show off+(i+1)*k=off+k+i*k by rw[Nat.add_mul];omega] at this⟩
section
variable {H:Type} {enc:TypeId×Value→H} {W:World} {sp:Nat→Bool} {hd:Bool}
variable {fuel:Nat} {cs:List Value} {x:DataW H×List MemPlace}
theorem qc{k:Nat}(h:DataW.trod enc Tryz.prog W 0 sp hd fuel 3 cs=some x):∃n:Int,cs=[.int .i64 n]∧i64 n:=by
 obtain⟨n,h1,_,h2⟩:=DataW.trod_int Re h;refine⟨n,h1,?_⟩;simp only[Lit.wf,Bool.and_eq_true,decide_eq_true_eq] at h2;exact⟨h2.1,h2.2⟩
theorem uU(h:DataW.trod enc Tryz.prog W 0 sp hd fuel 9 cs=some x):∃s:ByteArray,cs=[.string s]:=by
 obtain⟨s,h1,_⟩:=DataW.trod_string uP h;exact⟨s,h1⟩
end
end
section
open Go Go.Vd Go.RowKit Go.Extern
theorem yD(t:Addr)(w:World):(ReflectliteValue.unpack (.iface 117 (.pointer (some t)))).run Tryz.prog w
 =.ok (.agg #[.pointer (some ⟨2,117,none⟩),.pointer (some ⟨w.heap.size,0,none⟩),.int .u64 150]) (w.alloc (.cells #[.pointer (some t)] 117)):=by kernel_rfl
theorem Fj(a : Addr)(w : World) : (ReflectliteValue.methodAny (ReflectliteValue.valueError "reflectlite.Value.Type" 0) (fun t _ _ _ => ReflectliteType.toType t) #[.agg #[.pointer (some ⟨2, 117, none⟩), .pointer (some a), .int .u64 150]]).run Tryz.prog w
 =.ok (.iface 180 (.agg #[.pointer (some ⟨2,117,none⟩)])) w:=by kernel_rfl
theorem yE(h : Value)(w : World) : (Go.method 372 180 (.agg #[h]) "Kind").run Tryz.prog w = .ok (197, h) w := by kernel_rfl
theorem Fl(w:World):((ReflectliteType.abiMethod fun t=>(fun a:Nat=>Value.int IntKind.u8 (a:Int)) <$> Rtype.kind t) #[.pointer (some ⟨2,117,none⟩)]).run Tryz.prog w=.ok (.int .u8 22) w:=by kernel_rfl
theorem Ip(w:World):((ReflectliteType.abiMethod fun t=>(fun a:Nat=>Value.int IntKind.u8 (a:Int)) <$> Rtype.kind t) #[.pointer (some ⟨2,115,none⟩)]).run Tryz.prog w=.ok (.int .u8 22) w:=by kernel_rfl
theorem KC(z:Sem Value)(f:TypeId→Addr→Nat→Nat→Sem Value)(v:Value):
 ReflectliteValue.method z f #[v]=(do match ←ReflectliteValue.parts v with|none=>z|some (t,a,fl)=>f t a fl (fl%32)):=rfl
theorem vv(a:Addr)(w:World):(ReflectliteValue.parts (.agg #[.pointer (some ⟨2,117,none⟩),.pointer (some a),.int .u64 150])).run Tryz.prog w=.ok (some (117,a,150)) w:=by kernel_rfl
theorem Dl(a p:Addr)(W:World)(ha:W.cell? a=some (.pointer (some p))):
 (ReflectliteValue.method (ReflectliteValue.valueError "reflectlite.Value.IsNil" 0) ReflectliteValue.isNil #[.agg #[.pointer (some ⟨2, 117, none⟩), .pointer (some a), .int .u64 150]]).run Tryz.prog W = .ok (.bool false) W := by
 rw[KC];simp only[Sem.run_bind,vv,Result.andThen];simp[ReflectliteValue.isNil,loadVar,isAgg,underlying,Mm,ha,Result.andThen]
theorem yF(h : Value)(w : World) : (Go.method 372 180 (.agg #[h]) "Elem").run Tryz.prog w = .ok (208, .agg #[h]) w := by kernel_rfl
theorem rh(h : Value)(w : World) : (Go.method 372 180 (.agg #[h]) "Implements").run Tryz.prog w = .ok (209, .agg #[h]) w := by kernel_rfl
theorem pF(h : Value)(w : World) : (Go.method 372 180 (.agg #[h]) "AssignableTo").run Tryz.prog w = .ok (206, .agg #[h]) w := by kernel_rfl
theorem Fo(w:World):(ReflectliteType.method ReflectliteType.elem #[.agg #[.pointer (some ⟨2,117,none⟩)]]).run Tryz.prog w=.ok (.iface 180 (.agg #[.pointer (some ⟨2,115,none⟩)])) w:=by kernel_rfl
theorem vH(w : World) : (ReflectliteType.relation "Implements" ReflectliteType.implements_ #[.agg #[.pointer (some ⟨2, 115, none⟩)], .iface 180 (.agg #[.pointer (some ⟨2, 49, none⟩)])]).run Tryz.prog w = .ok (.bool true) w := by kernel_rfl
theorem Dj(v:Value)(w:World):(ReflectliteType.typeOf #[.iface 115 v]).run Tryz.prog w=.ok (.iface 180 (.agg #[.pointer (some ⟨2,115,none⟩)])) w:=by kernel_rfl
theorem vI(w : World) : (ReflectliteType.relation "AssignableTo" ReflectliteType.assignableTo #[.agg #[.pointer (some ⟨2, 115, none⟩)], .iface 180 (.agg #[.pointer (some ⟨2, 115, none⟩)])]).run Tryz.prog w = .ok (.bool true) w := by kernel_rfl
theorem AY(e:Addr)(w:World):(ReflectliteValue.unpack (.iface 115 (.pointer (some e)))).run Tryz.prog w
 =.ok (.agg #[.pointer (some ⟨2,115,none⟩),.pointer (some ⟨w.heap.size,0,none⟩),.int .u64 150]) (w.alloc (.cells #[.pointer (some e)] 115)):=by kernel_rfl
theorem AZ(w:World):(Rtype.elem? 117).run Tryz.prog w=.ok (some 115) w:=by kernel_rfl
theorem Me(p:Addr)(w:World):(ReflectliteValue.mk 115 p ReflectliteValue.flagAddr).run Tryz.prog w=.ok (.agg #[.pointer (some ⟨2,115,none⟩),.pointer (some p),.int .u64 406]) w:=by kernel_rfl
theorem Dm(a p:Addr)(W:World)(ha:W.cell? a=some (.pointer (some p))):
 (ReflectliteValue.method (ReflectliteValue.valueError "reflectlite.Value.Elem" 0) ReflectliteValue.elem #[.agg #[.pointer (some ⟨2, 117, none⟩), .pointer (some a), .int .u64 150]]).run Tryz.prog W
  =.ok (.agg #[.pointer (some ⟨2,115,none⟩),.pointer (some p),.int .u64 406]) W:=by
 rw[KC];simp only[Sem.run_bind,vv,Result.andThen];simp[ReflectliteValue.elem,loadVar,isAgg,underlying,Mm,ha,Result.andThen,AZ,Me]
theorem Ok(v x:Value):ReflectliteValue.set #[v,x]=(do
 let (some (dst,a,fl),some (src,b,_)):=(← ReflectliteValue.parts v,←ReflectliteValue.parts x)
  | unsupported (.noEntry "extern/(internal/reflectlite.Value).Set.zeroValue")
 if fl / ReflectliteValue.flagAddr % 2 == 0 then unsupported (.noEntry "extern/(internal/reflectlite.Value).Set.unaddressable")
 let val ←loadVar src b
 if ←Rtype.directlyAssignable dst src then storeVar dst a val
 else if ←Rtype.implements dst src then
  if (← Rtype.kind src)==20 then
   match val with
   | .nilIface => unsupported (.noEntry "extern/reflectlite: a nil value of one interface type handed on as a value of another")
   |_=>storeVar dst a val
  else storeVar dst a (.iface src val)
 else panicString ("reflectlite.Set: value of type " ++ (← Rtype.spelt src) ++ " is not assignable to type " ++ (← Rtype.spelt dst))
 pure (.tuple #[])):=rfl
theorem Dk(a:Addr)(w:World):(ReflectliteValue.parts (.agg #[.pointer (some ⟨2,115,none⟩),.pointer (some a),.int .u64 406])).run Tryz.prog w=.ok (some (115,a,406)) w:=by kernel_rfl
theorem Fk(a:Addr)(w:World):(ReflectliteValue.parts (.agg #[.pointer (some ⟨2,115,none⟩),.pointer (some a),.int .u64 150])).run Tryz.prog w=.ok (some (115,a,150)) w:=by kernel_rfl
theorem Dn(w:World):(Rtype.directlyAssignable 115 115).run Tryz.prog w=.ok true w:=by kernel_rfl
theorem KB(ta b e:Addr)(old:Value)(W:World)(hb:W.cell? b=some (.pointer (some e)))(ht:W.cell? ta=some old)(hf:W.frozen? ta=false):
 (ReflectliteValue.set #[.agg #[.pointer (some ⟨2,115,none⟩),.pointer (some ta),.int .u64 406],.agg #[.pointer (some ⟨2,115,none⟩),.pointer (some b),.int .u64 150]]).run Tryz.prog W
  =.ok (.tuple #[]) (W.setCell ta (.pointer (some e))):=by
 rw[Ok];simp only[Sem.run_bind,Dk,Fk,Result.andThen];simp[ReflectliteValue.flagAddr,loadVar,isAgg,underlying,Mn,hb,Result.andThen,Dn,storeVar,Value.cells,storeCells,Addr.add];rw[run_store Tryz.prog W ta _ _ (by rfl)];simp[ht,hf]
set_option maxHeartbeats 4000000 in
theorem Ol(e t:Addr)(old:Value)(w:World)(hg:w.cell? ⟨1,0,none⟩=some (.iface 180 (.agg #[.pointer (some ⟨2,49,none⟩)])))(ht0:w.cell? t=some old)(hf0:w.frozen? t=false):
 Calls Tryz.prog 54 #[.iface 115 (.pointer (some e)),.iface 117 (.pointer (some t))] w fun ev w'=>ev=.returned (.bool true)∧w'=((((w.alloc (.cells #[.pointer (some t)] 117)).alloc (.cells #[.pointer (some ⟨2,117,none⟩),.pointer (some ⟨w.heap.size,0,none⟩),.int .u64 150] 156)).alloc (.cells #[.pointer (some ⟨2,117,none⟩),.pointer (some ⟨w.heap.size,0,none⟩),.int .u64 150] 156)).alloc (.cells #[.pointer (some e)] 115)).setCell t (.pointer (some e)):=by
 have h6:=@run_callFunc_extern Tryz.prog 95 _ (fun args=>ReflectliteValue.unpack (args.getD 0 (.tuple #[]))) Tryz.func95 (by kernel_rfl) (by kernel_rfl) (by kernel_rfl) (by kernel_rfl);have h7 := @run_callFunc_extern Tryz.prog 96 _ (ReflectliteValue.methodAny (ReflectliteValue.valueError "reflectlite.Value.Type" 0) (fun t _ _ _ => ReflectliteType.toType t)) Tryz.func96 (by kernel_rfl) (by kernel_rfl) (by kernel_rfl) (by kernel_rfl)
 have h8 := @run_callFunc_extern Tryz.prog 97 _ (ReflectliteValue.method (ReflectliteValue.valueError "reflectlite.Value.IsNil" 0) ReflectliteValue.isNil) Tryz.func97 (by kernel_rfl) (by kernel_rfl) (by kernel_rfl) (by kernel_rfl)
 have h27:=@run_callFunc_extern Tryz.prog 197 _ (ReflectliteType.abiMethod fun t=>do pure (.int .u8 (← Rtype.kind t))) Tryz.func197 (by kernel_rfl) (by kernel_rfl) (by kernel_rfl) (by kernel_rfl);have h37:=@run_callFunc_extern Tryz.prog 208 _ (ReflectliteType.method ReflectliteType.elem) Tryz.func208 (by kernel_rfl) (by kernel_rfl) (by kernel_rfl) (by kernel_rfl);have h38 := @run_callFunc_extern Tryz.prog 209 _ (ReflectliteType.relation "Implements" ReflectliteType.implements_) Tryz.func209 (by kernel_rfl) (by kernel_rfl) (by kernel_rfl) (by kernel_rfl)
 have h10:=@run_callFunc_extern Tryz.prog 127 _ ReflectliteType.typeOf Tryz.func127 (by kernel_rfl) (by kernel_rfl) (by kernel_rfl) (by kernel_rfl);have h35 := @run_callFunc_extern Tryz.prog 206 _ (ReflectliteType.relation "AssignableTo" ReflectliteType.assignableTo) Tryz.func206 (by kernel_rfl) (by kernel_rfl) (by kernel_rfl) (by kernel_rfl)
 have h11 := @run_callFunc_extern Tryz.prog 128 _ (ReflectliteValue.method (ReflectliteValue.valueError "reflectlite.Value.Elem" 0) ReflectliteValue.elem) Tryz.func128 (by kernel_rfl) (by kernel_rfl) (by kernel_rfl) (by kernel_rfl)
 have h12:=@run_callFunc_extern Tryz.prog 129 _ ReflectliteValue.set Tryz.func129 (by kernel_rfl) (by kernel_rfl) (by kernel_rfl) (by kernel_rfl);have tO:=Dj;have mA:=pF;have a25:=vI;have v25:=AY;have f6:=yD;have f7:=Fj;have mK:=yE;have mE:=yF;have mI:=rh;have k27:=Fl;have k25:=Ip;have e27:=Fo;have i25:=vH;have n8:=Dl ⟨w.heap.size,0,none⟩ t ((w.alloc (.cells #[.pointer (some t)] 117)).alloc (.cells #[.pointer (some ⟨2,117,none⟩),.pointer (some ⟨w.heap.size,0,none⟩),.int .u64 150] 156)) (by simp);have hlt:1<w.heap.size:=by
  rcases Nat.lt_or_ge 1 w.heap.size with h|h
  ·exact h
  ·simp [World.cell?,Array.getElem?_eq_none h] at hg
 have hg2:((w.alloc (.cells #[.pointer (some t)] 117)).alloc (.cells #[.pointer (some ⟨2,117,none⟩),.pointer (some ⟨w.heap.size,0,none⟩),.int .u64 150] 156)).cell? ⟨1,0,none⟩=some (.iface 180 (.agg #[.pointer (some ⟨2,49,none⟩)])):=by
  rw[World.cell?_alloc_lt _ _ ⟨1,0,none⟩ (by simp;omega),World.cell?_alloc_lt _ _ ⟨1,0,none⟩ hlt];exact hg
 have htl:t.block<w.heap.size:=by
  rcases Nat.lt_or_ge t.block w.heap.size with h|h
  ·exact h
  ·simp [World.cell?,Array.getElem?_eq_none h] at ht0
 have el:=Dm ⟨w.heap.size,0,none⟩ t (((w.alloc (.cells #[.pointer (some t)] 117)).alloc (.cells #[.pointer (some ⟨2,117,none⟩),.pointer (some ⟨w.heap.size,0,none⟩),.int .u64 150] 156)).alloc (.cells #[.pointer (some ⟨2,117,none⟩),.pointer (some ⟨w.heap.size,0,none⟩),.int .u64 150] 156)) (by rw[World.cell?_alloc_lt _ _ ⟨w.heap.size,0,none⟩ (by simp;omega)];simp);have st:=KB t ⟨w.heap.size+1+1+1,0,none⟩ e old ((((w.alloc (.cells #[.pointer (some t)] 117)).alloc (.cells #[.pointer (some ⟨2,117,none⟩),.pointer (some ⟨w.heap.size,0,none⟩),.int .u64 150] 156)).alloc (.cells #[.pointer (some ⟨2,117,none⟩),.pointer (some ⟨w.heap.size,0,none⟩),.int .u64 150] 156)).alloc (.cells #[.pointer (some e)] 115))
  (by rw[World.cell?_alloc_at _ _ _ _ (by simp)];rfl)
  (by rw[World.cell?_alloc_lt _ _ t (by simp;omega),World.cell?_alloc_lt _ _ t (by simp;omega),World.cell?_alloc_lt _ _ t (by simp;omega),World.cell?_alloc_lt _ _ t htl];exact ht0)
  (by rw[World.frozen?_alloc_old _ _ t (by simp;omega),World.frozen?_alloc_old _ _ t (by simp;omega),World.frozen?_alloc_old _ _ t (by simp;omega),World.frozen?_alloc_old _ _ t (Nat.ne_of_lt htl)];exact hf0)
 go_enter Tryz.func54,Tryz.ntmps54
 go_wp2
 refine wp_loop_rounds 1 ?_;rw[rounds_succ]
 go_wp2
 go_ret
 exact⟨rfl,rfl⟩
end
end Go.Proofs.YtndbnldjidciiaaGreatDoor
namespace Go.Vd
open Go Go.RowKit
abbrev Oy:=ByteArray→Option Int
def eB.has:eB→ByteArray→Prop
 | .zero,_=>False
 | .succ a,p=>a.has p
 | .max a b,p=>a.has p∨b.has p
 | .imax a b,p=>a.has p∨b.has p
 | .param s,p=>p=s
structure Fits (z o:Oy) (σ:ByteArray→Int):Prop where
 pos:∀p,0≤σ p
 zero:∀p,z p≠none→σ p=0
 one:∀p,o p≠none→1≤σ p
def off(o:Oy)(σ:ByteArray→Int):ByteArray→Int:=fun p=>σ p-(o p).getD 0
def Sem(z o:Oy)(a b:eB):Prop:= ∀σ,Fits z o σ→a.ri σ≤b.ri σ
theorem ui{α:Type}:∀{a b:List α},a.Nodup→(∀ x∈a,x∈b)→a.length≤b.length
 |[],b,_,_=>by simp
 |x::r,b,hn,hs=>by
  obtain⟨s,t,rfl⟩:=List.append_of_mem (hs x List.mem_cons_self);simp only[List.nodup_cons] at hn;have:=ui (b:=s++t) hn.2 fun y hy=>by
   have h1:=hs y (List.mem_cons_of_mem _ hy);simp only[List.mem_append,List.mem_cons] at h1 ⊢;rcases h1 with h1|h1|h1
   ·exact .inl h1
   ·subst h1;exact absurd hy hn.1
   ·exact .inr h1
  simp only[List.length_append,List.length_cons] at this ⊢;omega
theorem eB.gA:∀(l:eB) {ah:List ByteArray} {p:ByteArray},p∈ah→p∈l.params ah
 | .zero,_,_,h=>h
 | .succ a,_,_,h=>a.gA h
 | .max a b,_,_,h=>b.gA (a.gA h)
 | .imax a b,_,_,h=>b.gA (a.gA h)
 | .param s,ah,p,h=>by
  simp only[eB.params];split
  ·exact h
  ·exact List.mem_append_left _ h
theorem eB.jt:∀(l:eB) {ah:List ByteArray} {p:ByteArray},l.has p→p∈l.params ah
 | .zero,_,_,h=>h.elim
 | .succ a,_,_,h=>a.jt (show a.has _ from h)
 | .max a b,_,_,h=>(show a.has _∨b.has _ from h).elim (fun h=>b.gA (a.jt h)) (fun h=>b.jt h)
 | .imax a b,_,_,h=>(show a.has _∨b.has _ from h).elim (fun h=>b.gA (a.jt h)) (fun h=>b.jt h)
 | .param s,ah,p,h=>by
  have e:p=s:=h;subst e;simp only[eB.params];split
  ·rename_i h2;exact iM.1 h2
  ·simp
end Go.Vd
namespace Go.Vd
open Go Go.RowKit
variable {p:Nat}
theorem cE(s:ByteArray){q i:Nat}(h:p+i<q)(hq:q≤s.size):bo (s.extract p q) i=bo s (p+i):=by
 unfold bo;have e:(s.extract p q).data=s.data.extract p q:=by simp
 rw[e];have hs:s.size=s.data.size:=rfl;simp only[Array.getD_eq_getD_getElem?,Array.getElem?_extract];rw[if_pos (by omega)]
variable {s:ByteArray}
theorem tY{f:Int→Bool}:∀{p j:Nat},p≤j→j<cX f s p→f (bo s j)=true:=by
 intro p
 induction h:s.size-p generalizing p with
 |zero=>
  intro j h1 h2;rw[jW (by omega)] at h2;omega
 |succ n ih=>
  intro j h1 h2;by_cases hc:p<s.size∧f (bo s p)=true
  ·rw [oC hc.1 hc.2] at h2;rcases Nat.eq_or_lt_of_le h1 with rfl|h3
   ·exact hc.2
   ·exact ih (by omega) (by omega) h2
  ·rw [jW hc] at h2;omega
structure ic (w:ByteArray):Prop where
 ne:0<w.size
 le:w.size≤40
 first:fX (bo w 0) true=true
 rest:∀i,i<w.size→fX (bo w i) false=true
theorem wc(hp:p≤s.size)(h:dI (bc s p).1=true):ic (bc s p).1:=by
 have h1:=fu q7 s p hp;unfold bc at h ⊢;simp only at h ⊢;generalize hi:cX q7 s p=i at h h1 ⊢;split at h
 ·simp [dI] at h
 rename_i hne;rw[if_neg hne];have hil:i<s.size:=by omega
 split at h
 ·rename_i hpar;have hb:bo (s.extract i (i+1)) 0=bo s i:=cE s (by omega) (by omega);simp only[dI,Bool.and_eq_true] at h;rw[hb] at h;have h2:=h.2;simp only[fX,decide_eq_true_eq] at h2;omega
 rename_i hpar;rw[if_neg hpar];have h2:i+1≤s.size:=by omega
 split at h
 ·rename_i hnm;rw[if_pos hnm];have h3:=fu (fX · false) s (i+1) h2;generalize hq:cX (fun x=>fX x false) s (i+1)=q at h h3 ⊢;split at h
  ·simp [dI] at h
  ·rename_i hl;rw[if_neg hl];have hsz:(s.extract i q).size=q-i:=by rw[ByteArray.size_extract];omega
   refine⟨by rw[hsz];omega,by rw[hsz];omega,?_,fun j hj=>?_⟩
   ·rw [cE s (by omega) h3.2];exact hnm
   ·rw [hsz] at hj;rw[cE s (by omega) h3.2];rcases Nat.eq_zero_or_pos j with rfl|hj0
    ·rw [Nat.add_zero];simp[fX] at hnm ⊢;omega
    ·exact tY (f:=fun x=>fX x false) (p:=i+1) (by omega) (by rw[hq];omega)
 ·rename_i hnm;rw[if_neg hnm];have hbad:∀q,i<q→q≤s.size→dI (s.extract i q)=false:=fun q h5 h6=>by
   unfold dI;rw[cE s (by omega) h6,Nat.add_zero];simp only[Bool.not_eq_true] at hnm;rw[hnm];simp
  have h4:=fu jM s (i+1) h2;generalize(if bo s i=35 then i+1 else i)=d at h ⊢;split at h
  ·split at h
   ·simp [dI] at h
   ·rw [hbad _ (by omega) h4.2] at h;cases h
  ·simp [dI] at h
end Go.Vd
namespace Go.Vd
open Go Go.RowKit
inductive ae where
 |mk (kind num:Int) (name:ByteArray) (levels:List aO) (args:List ae)
mutual
def ae.cells:ae→List D
 | .mk k n s ls args=>[.v (.int .i64 k),.v (.int .i64 n),.v (.string s),.sl 3 (bE ls),.sl 5 (ay args)]
def ay:List ae→List (List D)
 |[]=>[]
 |t::r=>t.cells::ay r
end
def ae.d(t:ae):D:=.agg t.cells
theorem ae.case(t:ae):∃k n s ls args,t=.mk k n s ls args:=by cases t;exact⟨_,_,_,_,_,rfl⟩
theorem aN:∀l:List ae,(ay l).length=l.length
 |[]=>rfl
 |l::r=>by simp[ay,aN r]
theorem gX:∀{l:List ae} {i:Nat} {x:ae},l[i]? =some x→(ay l)[i]? =some x.cells
 |[],i,x,h=>by simp at h
 |l::r,0,x,h=>by simp at h;subst h;simp[ay]
 |l::r,i+1,x,h=>by simpa[ay] using gX (l:=r) (i:=i) (by simpa using h)
variable {i:Nat}
theorem bV{l:List ae}{k n:Int}{s:ByteArray}{ls:List aO}{args:List ae}(h:l[i]? =some (.mk k n s ls args)):(ay l)[((i:Nat):Int).toNat]? =some [.v (.int .i64 k),.v (.int .i64 n),.v (.string s),.sl 3 (bE ls),.sl 5 (ay args)]:=by
 rw[Int.toNat_natCast,gX h];rfl
theorem dt(l m:List ae):ay (l++m)=ay l++ay m:=by
 induction l with
 |nil=>rfl
 |cons a r ih=>simp[ay,ih]
theorem bM{ls:List ae}(h:i<ls.length):∃k n s l args,ls[i]? =some (.mk k n s l args):=by
 have:ls[i]? =some ls[i]:=by simp[h]
 rw[this];cases ls[i];exact⟨_,_,_,_,_,rfl⟩
mutual
def ae.size:ae→Nat
 | .mk _ _ _ ls args=>1+bg ls+aj args
def aj:List ae→Nat
 |[]=>0
 |l::r=>l.size+aj r
end
theorem bF:∀{ls:List ae} {i:Nat} {l:ae},ls[i]? =some l→l.size≤aj ls
 |[],i,l,h=>by simp at h
 |a::r,0,l,h=>by simp at h;subst h;simp[aj]
 |a::r,i+1,l,h=>by simp at h;have:=bF h;simp[aj];omega
theorem yM:∀ls:List ae,ls.length≤aj ls
 |[]=>by simp
 |l::r=>by have:=yM r;cases l;simp[aj,ae.size];omega
mutual
def ae.same:ae→ae→Bool
 | .mk k n s ls a,.mk k2 n2 s2 ls2 a2=>decide (k=k2)&&decide (n=n2)&&decide (s=s2)&&fp ls ls2&&gO a a2
def gO:List ae→List ae→Bool
 |[],[]=>true
 |l::r,l2::r2=>l.same l2&&gO r r2
 |_,_=>false
end
theorem ae.jx(k n:Int)(s:ByteArray)(ls:List aO)(a:List ae)(k2 n2:Int)(s2:ByteArray)(ls2:List aO)(a2:List ae):ae.same (.mk k n s ls a) (.mk k2 n2 s2 ls2 a2)=(decide (k=k2)&&decide (n=n2)&&decide (s=s2)&&fp ls ls2&&gO a a2):=by simp[ae.same]
theorem y0:∀{a b:List ae},gO a b=true→a.length=b.length
 |[],[],_=>rfl
 |l::r,l2::r2,h=>by simp[gO] at h;simp[y0 h.2]
 |[],_::_,h=>by simp[gO] at h
 |_::_,[],h=>by simp[gO] at h
theorem y4:∀{a b:List ae} {x y:ae},a.length=b.length→gO (a++[x]) (b++[y])=(gO a b&&x.same y)
 |[],[],x,y,_=>by simp[gO]
 |l::r,l2::r2,x,y,h=>by simp[gO,y4 (a:=r) (b:=r2) (by simpa using h),Bool.and_assoc]
 |[],_::_,_,_,h=>by simp at h
 |_::_,[],_,_,h=>by simp at h
theorem DW{a b:List ae}{x y:ae}(hx:a[i]? =some x)(hy:b[i]? =some y):gO (a.take (i+1)) (b.take (i+1))=(gO (a.take i) (b.take i)&&x.same y):=by
 have h1:=(List.getElem?_eq_some_iff.1 hx).1;have h2:=(List.getElem?_eq_some_iff.1 hy).1;rw[List.take_add_one,List.take_add_one,hx,hy];exact y4 (by simp;omega)
theorem u5:∀{a b:List ae} {i:Nat} {x y:ae},a[i]? =some x→b[i]? =some y→x.same y=false→gO a b=false
 |[],_,i,_,_,h,_,_=>by simp at h
 |_::_,[],i,_,_,_,h,_=>by simp at h
 |l::r,l2::r2,0,x,y,h1,h2,h3=>by simp at h1 h2;subst h1 h2;simp[gO,h3]
 |l::r,l2::r2,i+1,x,y,h1,h2,h3=>by simp[gO];intro _;exact u5 (i:=i) (by simpa using h1) (by simpa using h2) h3
mutual
theorem aO.qE:∀l:aO,l.same l=true
 | .mk k s a=>by rw[aO.jx];simp[rL a]
theorem rL:∀l:List aO,fp l l=true
 |[]=>rfl
 |t::r=>by simp[fp,t.qE,rL r]
end
mutual
theorem ae.qE:∀t:ae,t.same t=true
 | .mk k n s ls a=>by rw[ae.jx];simp[rL ls,wz a]
theorem wz:∀l:List ae,gO l l=true
 |[]=>rfl
 |t::r=>by simp[gO,t.qE,wz r]
end
def kS(t:ByteArray):Nat→Int
 |0=>0
 |k+1=>10*kS t k+(bo t k-48)
def uN(t:ByteArray):Prop:= ∀i:Nat,(i:Int)<t.size→48≤bo t i∧bo t i≤57
theorem wR{t:ByteArray}(h:uN t):∀k:Nat,k≤t.size→k≤5→0≤kS t k∧kS t k≤99999
 |0,_,_=>by simp[kS]
 |1,h1,h2=>by have:=h 0 (by omega);simp only[kS];omega
 |2,h1,h2=>by have:=h 0 (by omega);have:=h 1 (by omega);simp only[kS];omega
 |3,h1,h2=>by have:=h 0 (by omega);have:=h 1 (by omega);have:=h 2 (by omega);simp only[kS];omega
 |4,h1,h2=>by have:=h 0 (by omega);have:=h 1 (by omega);have:=h 2 (by omega);have:=h 3 (by omega);simp only[kS];omega
 |5,h1,h2=>by have:=h 0 (by omega);have:=h 1 (by omega);have:=h 2 (by omega);have:=h 3 (by omega);have:=h 4 (by omega);simp only[kS];omega
 |_+6,_,h2=>by omega
def kJ(s:ByteArray)(r:RS):ByteArray:=if (bc s r.p).2.2=false∨r.f≠none then .empty else(bc s r.p).1
def cT(s:ByteArray)(r:RS):ByteArray×RS:=
 let t:=bc s r.p
 if t.2.2=false∨dI t.1=false then(.empty,r.fail t.2.1)
 else match r.f with
  |none=>(t.1,⟨t.2.1+t.1.size,none⟩)
  |some a=>(.empty,⟨r.p,some a⟩)
def db:Nat→ByteArray→RS→List aO×RS
 |0,_,r=>([],r)
 |n+1,s,r=>
  if r.f=none∧kJ s r≠⟨#[41]⟩ then
   let a:=bL (s.size+1) s r
   let b:=db n s a.2
   (a.1::b.1,b.2)
  else([],r)
def fk:List ByteArray:=[.empty,⟨#[115,111,114,116]⟩,⟨#[99,111,110,115,116]⟩,⟨#[97,112,112]⟩,⟨#[108,97,109]⟩,⟨#[112,105]⟩,⟨#[108,101,116]⟩]
def fB(w:ByteArray):Nat:=
 if w=⟨#[115,111,114,116]⟩ then 1 else if w=⟨#[99,111,110,115,116]⟩ then 2 else if w=⟨#[97,112,112]⟩ then 3
 else if w=⟨#[108,97,109]⟩ then 4 else if w=⟨#[112,105]⟩ then 5 else if w=⟨#[108,101,116]⟩ then 6 else 0
theorem xq(w:ByteArray):fB w≤6:=by
 unfold fB;repeat' split
 all_goals omega
variable {w:ByteArray}
theorem xp(h1:1≤i)(h:i<fk.length):fk[i]=w↔fB w=i:=by
 constructor
 ·rintro rfl;rcases i with _|_|_|_|_|_|_|i
  ·omega
  all_goals first
   |rfl
   |(simp[fk] at h;omega)
 ·intro e;unfold fB at e
  repeat' split at e
  all_goals (subst e;first|omega|(rename_i h2;exact h2.symm)|(simp_all [fk]))
def oU(w:ByteArray)(i:Nat):Nat:=if fB w<i then fB w else 0
theorem JH(w:ByteArray):oU w 7=fB w:=by have:=xq w;unfold oU;rw[if_pos (by omega)]
theorem xn(h1:1≤i)(h:i<fk.length)(e:fk[i]=w):oU w (i+1)=i:=by
 have:=(xp h1 h).1 e;unfold oU;rw[if_pos (by omega)];exact this
theorem zv(h1:1≤i)(h:i<fk.length)(e:¬fk[i]=w):oU w (i+1)=oU w i:=by
 have:¬fB w=i:=fun h2=>e ((xp h1 h).2 h2)
 unfold oU;by_cases h3:fB w<i
 ·rw [if_pos h3,if_pos (by omega)]
 ·rw [if_neg h3,if_neg (by omega)]
def aP:ae:=.mk 0 0 .empty [] []
def dW(f:RS→ae×RS):Nat→RS→List ae×RS
 |0,r=>([],r)
 |n+1,r=>let b:=dW f n r;let a:=f b.2;(b.1++[a.1],a.2)
def partsOf(k:Nat):Nat:=if k=1∨k=2 then 0 else if k=6 then 3 else 2
def ja(s:ByteArray)(k:Nat)(r2:RS):ByteArray×List aO×RS:=
 if k=1 then(.empty,[(bL (s.size+1) s r2).1],(bL (s.size+1) s r2).2)
 else if k=2 then((cT s r2).1,(db (s.size+2) s (cT s r2).2).1,(db (s.size+2) s (cT s r2).2).2)
 else(.empty,[],r2)
def vi(t:ByteArray):Prop:=t≠ .empty∧(bo t 0=35∨t=⟨#[40]⟩)
instance (t:ByteArray):Decidable (vi t):=inferInstanceAs (Decidable (_∧_))
def bT:Nat→ByteArray→RS→ae×RS
 |0,_,r=>(aP,r)
 |n+1,s,r=>
  match r.f with
  |some _=>(aP,r)
  |none=>
   let t:=bc s r.p
   if ¬vi t.1 then(aP,r.fail t.2.1)
   else if t.1≠⟨#[40]⟩ then(.mk 0 (kS (t.1.extract 1 t.1.size) (t.1.size-1)) .empty [] [],(aQ s r).2)
   else
    let r1:=(aQ s r).2
    let w:=bc s r1.p
    let k:=fB w.1
    if k=0 then(aP,r1.fail w.2.1)
    else
     let h:=ja s k (aQ s r1).2
     let a:=dW (bT n s) (partsOf k) h.2.2
     (.mk k 0 h.1 h.2.1 a.1,ch s ⟨#[41]⟩ a.2)
def gh(s:ByteArray):ae×Int×Int:=
 if s.size>20000 then(aP,2,0)
 else
  let a:=bT (s.size+1) s ⟨0,none⟩
  match (iv s a.2).f with
  |none=>(a.1,0,0)
  |some at'=>(aP,1,at')
variable {r:RS}
theorem eD{s:ByteArray}(hp:r.p≤s.size):r.p≤(cT s r).2.p∧(cT s r).2.p≤s.size:=by
 have hat:=fq (s:=s) hp;obtain⟨p,f⟩:=r;simp only at hp hat;unfold cT;dsimp only;split
 ·rw [RS.ij];exact⟨Nat.le_refl _,hp⟩
 ·cases f with
  |none=>dsimp only;exact⟨by omega,hat.2⟩
  |some a=>exact⟨Nat.le_refl _,hp⟩
theorem El{s:ByteArray}:∀(n:Nat) {r:RS},r.p≤s.size→r.p≤(db n s r).2.p∧(db n s r).2.p≤s.size:=by
 intro n
 induction n with
 |zero=>intro r hp;exact⟨Nat.le_refl _,hp⟩
 |succ n ih=>
  intro r hp;simp only[db];split
  ·have h1:=eI (s:=s) (s.size+1) hp;have h2:=ih h1.2;exact⟨Nat.le_trans h1.1 h2.1,h2.2⟩
  ·exact ⟨Nat.le_refl _,hp⟩
theorem tw{s:ByteArray}(k:Nat)(hp:r.p≤s.size):r.p≤(ja s k r).2.2.p∧(ja s k r).2.2.p≤s.size:=by
 unfold ja;split
 ·exact eI (s:=s) (s.size+1) hp
 ·split
  ·have h1:=eD (s:=s) hp;have h2:=El (s.size+2) h1.2;exact⟨Nat.le_trans h1.1 h2.1,h2.2⟩
  ·exact ⟨Nat.le_refl _,hp⟩
theorem jZ{s:ByteArray}{f:RS→ae×RS}(hf:∀r:RS,r.p≤s.size→r.p≤(f r).2.p∧(f r).2.p≤s.size):∀(n:Nat) {r:RS},r.p≤s.size→r.p≤(dW f n r).2.p∧(dW f n r).2.p≤s.size:=by
 intro n
 induction n with
 |zero=>intro r hp;exact⟨Nat.le_refl _,hp⟩
 |succ n ih=>
  intro r hp;have h1:=ih hp;have h2:=hf _ h1.2;exact⟨Nat.le_trans h1.1 h2.1,h2.2⟩
theorem wG(f:RS→ae×RS):∀(n:Nat) (r:RS),(dW f n r).1.length=n:=by
 intro n
 induction n with
 |zero=>intro r;rfl
 |succ n ih=>intro r;simp[dW,ih]
theorem et{s:ByteArray}:∀(n:Nat) (r:RS),r.p≤s.size→r.p≤(bT n s r).2.p∧(bT n s r).2.p≤s.size:=by
 intro n
 induction n with
 |zero=>intro r hp;exact⟨Nat.le_refl _,hp⟩
 |succ n ih=>
  intro r hp;obtain⟨p,f⟩:=r;simp only at hp;cases f with
  |some a=>exact⟨Nat.le_refl _,hp⟩
  |none=>
   have h1:=cZ (s:=s) (r:=⟨p,none⟩) hp;have h2:=cZ (s:=s) (r:=(aQ s ⟨p,none⟩).2) h1.2;simp only at h1;simp only[bT];split
   ·rw [RS.ij];exact⟨Nat.le_refl _,hp⟩
   ·split
    ·exact h1
    ·split
     ·rw [RS.ij];exact h1
     ·have h3:=tw (s:=s) (fB (bc s (aQ s ⟨p,none⟩).2.p).1) h2.2;have h4:=jZ ih (partsOf (fB (bc s (aQ s ⟨p,none⟩).2.p).1)) h3.2;have h5:=bX (s:=s) (w:=⟨#[41]⟩) h4.2;exact⟨Nat.le_trans h1.1 (Nat.le_trans h2.1 (Nat.le_trans h3.1 (Nat.le_trans h4.1 h5.1))),h5.2⟩
theorem GP{s:ByteArray}{p:Nat}(hp:p≤s.size)(h0:(bc s p).1≠ .empty)(h:bo (bc s p).1 0=35):(bc s p).1.size≤6∧2≤(bc s p).1.size∧uN ((bc s p).1.extract 1 (bc s p).1.size):=by
 have hle:=fu q7 s p hp;revert h0 h;unfold bc;dsimp only;split
 ·intro h0;exact absurd rfl h0
 ·rename_i hn;have hlt:cX q7 s p<s.size:=by omega
  split
  ·rename_i hc;intro _ h;rw[cE s (by omega) (by omega),Nat.add_zero] at h;omega
  ·split
   ·rename_i hc hnm;have h3:=fu (fX · false) s (cX q7 s p+1) (by omega);split
    ·intro h0;exact absurd rfl h0
    ·intro _ h;rw[cE s (by omega) (by omega),Nat.add_zero] at h;rw[h] at hnm;exact absurd hnm (by decide)
   ·split
    ·have h3:=fu jM s (cX q7 s p+1) (by omega);by_cases h35:bo s (cX q7 s p)=35
     ·simp only[if_pos h35];split
      ·intro h0;exact absurd rfl h0
      ·rename_i hd;intro _ h;simp only[ByteArray.size_extract];refine⟨by omega,by omega,fun i hi=>?_⟩;simp only[ByteArray.size_extract] at hi;rw[cE _ (by omega) (by simp only[ByteArray.size_extract];omega),cE s (by omega) (by omega)];have:=tY (f:=jM) (s:=s) (p:=cX q7 s p+1) (j:=cX q7 s p+(1+i)) (by omega) (by omega)
       simpa[jM] using this
     ·simp only[if_neg h35];split
      ·intro h0;exact absurd rfl h0
      ·intro _ h;rw[cE s (by omega) (by omega),Nat.add_zero] at h;exact absurd h h35
    ·intro h0;exact absurd rfl h0
theorem Bk{s:ByteArray}{p:Nat}(hp:p≤s.size)(h0:(bc s p).1≠ .empty)(h:bo (bc s p).1 0=35):(bc s p).1.size≤6∧1≤(bc s p).1.size∧uN ((bc s p).1.extract 1 (bc s p).1.size):=by
 have:=GP hp h0 h;exact⟨this.1,by omega,this.2.2⟩
section
variable {s:ByteArray} {p n:Nat}
theorem tU(h:¬vi (bc s p).1):bT (n+1) s ⟨p,none⟩=(aP,(RS.mk p none).fail (bc s p).2.1):=by simp only[bT];rw[if_pos h]
theorem tT(h:vi (bc s p).1)(h1:(bc s p).1≠⟨#[40]⟩):bT (n+1) s ⟨p,none⟩=(.mk 0 (kS ((bc s p).1.extract 1 (bc s p).1.size) ((bc s p).1.size-1)) .empty [] [],(aQ s ⟨p,none⟩).2):=by
 simp only[bT];rw[if_neg (by simpa using h),if_pos h1]
theorem rE(h1:(bc s p).1=⟨#[40]⟩)(h2:fB (bc s (aQ s ⟨p,none⟩).2.p).1=0):bT (n+1) s ⟨p,none⟩=(aP,(aQ s ⟨p,none⟩).2.fail (bc s (aQ s ⟨p,none⟩).2.p).2.1):=by
 simp only[bT];rw[if_neg (by rw[h1];decide),if_neg (by simpa using h1),if_pos h2]
theorem rD(h1:(bc s p).1=⟨#[40]⟩){k:Nat}(h2:fB (bc s (aQ s ⟨p,none⟩).2.p).1=k)(h3:¬k=0){nm:ByteArray}{L:List aO}{r3:RS}(h4:ja s k (aQ s (aQ s ⟨p,none⟩).2).2=(nm,L,r3)):
 bT (n+1) s ⟨p,none⟩=(.mk k 0 nm L (dW (bT n s) (partsOf k) r3).1,ch s ⟨#[41]⟩ (dW (bT n s) (partsOf k) r3).2):=by
 simp only[bT];rw[if_neg (by rw[h1];decide),if_neg (by simpa using h1),h2,if_neg h3,h4]
end
theorem D9{s:ByteArray}(h:¬s.size>20000)(hf:¬bC (iv s (bT (s.size+1) s ⟨0,none⟩).2).f=0):
 gh s=(aP,bC (iv s (bT (s.size+1) s ⟨0,none⟩).2).f,eF (iv s (bT (s.size+1) s ⟨0,none⟩).2).f):=by
 unfold gh;rw[if_neg h];simp only;cases hf2:(iv s (bT (s.size+1) s ⟨0,none⟩).2).f with
 |none=>rw[hf2] at hf;exact absurd rfl hf
 |some a=>rfl
theorem BT{s:ByteArray}(h:¬s.size>20000)(hf:bC (iv s (bT (s.size+1) s ⟨0,none⟩).2).f=0):
 gh s=((bT (s.size+1) s ⟨0,none⟩).1,bC (iv s (bT (s.size+1) s ⟨0,none⟩).2).f,eF (iv s (bT (s.size+1) s ⟨0,none⟩).2).f):=by
 unfold gh;rw[if_neg h];simp only;cases hf2:(iv s (bT (s.size+1) s ⟨0,none⟩).2).f with
 |none=>rfl
 |some a=>rw[hf2] at hf;cases hf
end Go.Vd
namespace Go.Proofs.YtndbnldjidciiaaGreatDoor
section
open Go Go.Vd Go.RowKit
mutual
def bZ(F:ae→Int→ae):ae→Int→ae
 | .mk k n s ls args,d=>if k=0 then F (.mk k n s ls args) d else .mk k n s ls (bO F (decide (4≤k)) args d)
def bO(F:ae→Int→ae)(b:Bool):List ae→Int→List ae
 |[],_=>[]
 |t::r,d=>bZ F t (if b&&r.isEmpty then d+1 else d)::bO F b r d
end
theorem fA(F:ae→Int→ae)(b:Bool)(d:Int):∀l:List ae,(bO F b l d).length=l.length
 |[]=>by simp[bO]
 |t::r=>by simp[bO,fA F b d r]
theorem nW(F:ae→Int→ae)(b:Bool)(d:Int):∀{l:List ae} {i:Nat} {t:ae},l[i]? =some t→(bO F b l d)[i]? =some (bZ F t (if b=true∧i+1=l.length then d+1 else d))
 |[],i,t,h=>by simp at h
 |a::r,0,t,h=>by
  simp at h;subst h;simp only[bO,List.getElem?_cons_zero];cases r<;>simp
 |a::r,i+1,t,h=>by
  have:=nW F b d (l:=r) (i:=i) (t:=t) (by simpa using h);simp only[bO,List.getElem?_cons_succ,this,List.length_cons,Nat.add_right_cancel_iff]
mutual
def yH(P:Int→Int→Prop):ae→Int→Prop
 | .mk k n s ls args,d=>if k=0 then P n d else z8 P (decide (4≤k)) args d
def z8(P:Int→Int→Prop)(b:Bool):List ae→Int→Prop
 |[],_=>True
 |t::r,d=>yH P t (if b&&r.isEmpty then d+1 else d)∧z8 P b r d
end
def pA(B:Int)(t:ae):Prop:=yH (fun n _=>0≤n∧n≤B) t 0
def dJ(m from':Int):ae→Int→ae
 | .mk k n s ls args,d=>if n≥from'+d then .mk k (n+m) s ls args else .mk k n s ls args
def dw(t:ae)(m from':Int):ae:=if m=0 then t else bZ (dJ m from') t 0
def dc(v:ae):ae→Int→ae
 | .mk k n s ls args,d=>if n-d<0 then .mk k n s ls args else if n-d<1 then dw v d 0 else .mk k (n-1) s ls args
def dj(t v:ae):ae:=bZ (dc v) t 0
def OO:List D:=[.v (.int .i64 0),.v (.int .i64 0),.v (.string .empty),.v (.slice none 0 0),.v (.slice none 0 0)]
def ue(L:List ae)(i n:Nat):List (List D):=ay (L.take i)++List.replicate (n-i) OO
variable {L:List ae} {i n:Nat}
theorem BI(h:i≤L.length)(hn:i≤n):(ue L i n).length=n:=by
 simp only[ue,List.length_append,aN,List.length_take,List.length_replicate];omega
variable {t:ae}
theorem BH(h:L[i]? =some t)(hn:i<n):(ue L i n).set i t.cells=ue L (i+1) n:=by
 have hi:=(List.getElem?_eq_some_iff.1 h).1;have hl:(ay (L.take i)).length=i:=by rw[aN,List.length_take];omega
 unfold ue;rw[List.set_append_right _ _ (by omega),hl,Nat.sub_self,List.take_add_one,h];simp only[Option.toList_some,dt,List.append_assoc];rw[show n-i=(n-(i+1))+1 by omega,List.replicate_succ];rfl
theorem BJ(h:L.length=n):ue L n n=ay L:=by
 unfold ue;rw[Nat.sub_self,List.take_of_length_le (by omega)];simp
theorem bF:∀{l:List ae} {i:Nat} {t:ae},l[i]? =some t→t.size≤aj l
 |[],i,t,h=>by simp at h
 |a::r,0,t,h=>by simp at h;subst h;simp[aj]
 |a::r,i+1,t,h=>by
  have:=bF (l:=r) (i:=i) (t:=t) (by simpa using h);simp[aj];omega
theorem br:∀l:List ae,l.length≤aj l
 |[]=>by simp
 | .mk k n s ls args::r=>by have:=br r;simp[aj,ae.size];omega
theorem zY{P:Int→Int→Prop}{b:Bool}{d:Int}:∀{l:List ae} {i:Nat} {t:ae},z8 P b l d→l[i]? =some t→yH P t (if b=true∧i+1=l.length then d+1 else d)
 |[],i,t,_,h=>by simp at h
 |a::r,0,t,hp,h=>by
  simp at h;subst h;have:=hp.1;cases r<;>simpa using this
 |a::r,i+1,t,hp,h=>by
  have:=zY (l:=r) (i:=i) (t:=t) hp.2 (by simpa using h)
  simpa only[List.length_cons,Nat.add_right_cancel_iff] using this
mutual
theorem Dp{P:Int→Prop}:∀(t:ae) (d e:Int),yH (fun n _=>P n) t d→yH (fun n _=>P n) t e
 | .mk k n s ls args,d,e,h=>by
  simp only[yH] at h ⊢;by_cases hk:k=0
  ·rw [if_pos hk] at h ⊢;exact h
  ·rw [if_neg hk] at h ⊢;exact zZ args _ d e h
theorem zZ{P:Int→Prop}:∀(l:List ae) (b:Bool) (d e:Int),z8 (fun n _=>P n) b l d→z8 (fun n _=>P n) b l e
 |[],_,_,_,_=>trivial
 |t::r,b,d,e,h=>⟨Dp t _ _ h.1,zZ r b d e h.2⟩
end
variable {B:Int} {s:ByteArray} {ls:List aO} {args:List ae}
theorem Ck{k n:Int}(h:pA B (.mk k n s ls args))(hk:¬k=0)(hi:args[i]? =some t):pA B t:=by
 unfold pA at h ⊢;simp only[yH,if_neg hk] at h;exact Dp _ _ _ (zY h hi)
theorem Cj{n:Int}(h:pA B (.mk 0 n s ls args)):0≤n∧n≤B:=by
 unfold pA at h
 simpa only[yH,if_true] using h
end
section
open Go Go.Vd Go.RowKit
mutual
def eS(G:ae→Int→Bool):ae→Int→Bool
 | .mk k n s ls args,d=>G (.mk k n s ls args) d||iC G (decide (4≤k)) args d
def iC(G:ae→Int→Bool)(b:Bool):List ae→Int→Bool
 |[],_=>false
 |t::r,d=>eS G t (if b&&r.isEmpty then d+1 else d)||iC G b r d
end
theorem pK{G:ae→Int→Bool}{b:Bool}{d:Int}:∀{l:List ae} {i:Nat} {t:ae},l[i]? =some t→eS G t (if b=true∧i+1=l.length then d+1 else d)=true→iC G b l d=true
 |[],i,t,h,_=>by simp at h
 |a::r,0,t,h,hg=>by
  simp at h;subst h;simp only[iC,Bool.or_eq_true];left;cases r<;>simpa using hg
 |a::r,i+1,t,h,hg=>by
  simp only[iC,Bool.or_eq_true];right;exact pK (l:=r) (i:=i) (t:=t) (by simpa using h) (by simpa only[List.length_cons,Nat.add_right_cancel_iff] using hg)
theorem oE{G:ae→Int→Bool}{b:Bool}{d:Int}:∀{l:List ae},(∀ (i:Nat) t,l[i]? =some t→eS G t (if b=true∧i+1=l.length then d+1 else d)=false)→iC G b l d=false
 |[],_=>rfl
 |a::r,h=>by
  simp only[iC,Bool.or_eq_false_iff];refine⟨?_,oE fun i t hi=>?_⟩
  ·have:=h 0 a rfl;cases r<;>simpa using this
  ·have:=h (i+1) t (by simpa using hi)
   simpa only[List.length_cons,Nat.add_right_cancel_iff] using this
def bd:ae→ae×List ae
 | .mk k n s ls [f,a]=>if k=3 then((bd f).1,(bd f).2++[a]) else(.mk k n s ls [f,a],[])
 |t=>(t,[])
def bw(f:ae)(bs:List ae):ae:=bs.foldl (fun f a=>.mk 3 0 .empty [] [f,a]) f
def q8:ae→Prop
 | .mk k n s ls [f,a]=>k=3→q8 f
 | .mk k n s ls _=> ¬k=3
variable {k n:Int} {s:ByteArray} {ls:List aO} {args:List ae}
theorem wk(h:q8 (.mk k n s ls args))(hk:k=3):∃k1 n1 s1 l1 a1 k2 n2 s2 l2 a2,args=[.mk k1 n1 s1 l1 a1,.mk k2 n2 s2 l2 a2]∧q8 (.mk k1 n1 s1 l1 a1):=by
 match args,h with
 |[⟨k1,n1,s1,l1,a1⟩,⟨k2,n2,s2,l2,a2⟩],h=>exact⟨k1,n1,s1,l1,a1,k2,n2,s2,l2,a2,rfl,by simp only[q8] at h;exact h hk⟩
 |[],h=>exact absurd hk (by simpa only[q8] using h)
 |[a],h=>exact absurd hk (by simpa only[q8] using h)
 |a::b::c::r,h=>exact absurd hk (by simpa only[q8] using h)
theorem je{f a:ae}:bd (.mk 3 n s ls [f,a])=((bd f).1,(bd f).2++[a]):=by
 simp only[bd,if_true]
theorem j9(h:¬k=3):bd (.mk k n s ls args)=(.mk k n s ls args,[]):=by
 match args with
 |[f,a]=>simp only[bd,if_neg h]
 |[]=>rfl
 |[a]=>rfl
 |a::b::c::r=>rfl
end
section
open Go Go.Vd Go.RowKit
theorem jD(F:ae→Int→ae)(b:Bool)(r:List ae)(d:Int):(bO F b r d).isEmpty=r.isEmpty:=by cases r<;>simp[bO]
mutual
theorem qO{F G H:ae→Int→ae}(hv:∀n s ls args (j:Int),0≤j→bZ G (F (.mk 0 n s ls args) j) j=H (.mk 0 n s ls args) j):∀(t:ae) (j:Int),0≤j→bZ G (bZ F t j) j=bZ H t j
 | .mk k n s ls args,j,hj=>by
  by_cases hk:k=0
  ·subst hk;rw[bZ,if_pos rfl,hv n s ls args j hj,bZ,if_pos rfl]
  ·rw [bZ,if_neg hk,bZ,if_neg hk,bZ,if_neg hk,w0 hv args _ j hj]
theorem w0{F G H:ae→Int→ae}(hv:∀n s ls args (j:Int),0≤j→bZ G (F (.mk 0 n s ls args) j) j=H (.mk 0 n s ls args) j):∀(l:List ae) (b:Bool) (j:Int),0≤j→bO G b (bO F b l j) j=bO H b l j
 |[],b,j,_=>rfl
 |t::r,b,j,hj=>by
  simp only[bO,jD];rw[qO hv t _ (by split<;>omega),w0 hv r b j hj]
end
mutual
theorem um{F:ae→Int→ae}(hv:∀n s ls args (j:Int),F (.mk 0 n s ls args) j=.mk 0 n s ls args):∀(t:ae) (j:Int),bZ F t j=t
 | .mk k n s ls args,j=>by
  by_cases hk:k=0
  ·subst hk;rw[bZ,if_pos rfl,hv]
  ·rw [bZ,if_neg hk,wZ hv args]
theorem wZ{F:ae→Int→ae}(hv:∀n s ls args (j:Int),F (.mk 0 n s ls args) j=.mk 0 n s ls args):∀(l:List ae) (b:Bool) (j:Int),bO F b l j=l
 |[],b,j=>rfl
 |t::r,b,j=>by
  simp only[bO];rw[um hv t,wZ hv r]
end
theorem dX(t:ae)(m fr:Int):dw t m fr=bZ (dJ m fr) t 0:=by
 unfold dw;split
 ·rename_i h;subst h;exact(um (fun n s ls args j=>by rw[dJ];split<;>simp) t 0).symm
 ·rfl
theorem cH(F:ae→Int→ae)(n:Int)(s:ByteArray)(ls:List aO)(args:List ae)(j:Int):bZ F (.mk 0 n s ls args) j=F (.mk 0 n s ls args) j:=by rw[bZ,if_pos rfl]
end
section
open Go Go.Vd Go.RowKit
theorem sH{x:eB}(h:j4=x.cB):∀w,x.has w→ic w:=by
 cases x<;>simp[j4,eB.cB] at h;intro w hw;exact hw.elim
theorem Hg{s:ByteArray}:∀(n:Nat) {r:RS},r.p≤s.size→∀x:eB,(bL n s r).1=x.cB→∀w,x.has w→ic w:=by
 intro n
 induction n with
 |zero=>intro r hp x h;exact sH h
 |succ n ih=>
  intro r hp x h;obtain⟨p,f⟩:=r;simp only at hp;cases f with
  |some a=>exact sH h
  |none=>
   have h1:=cZ (s:=s) (r:=⟨p,none⟩) hp;have h2:=cZ (s:=s) (r:=(aQ s ⟨p,none⟩).2) h1.2;have h3:=eI n h2.2;by_cases c0:(bc s p).1=⟨#[48]⟩
   ·rw [mN c0] at h;exact sH h
   cases c1:dI (bc s p).1 with
   |true=>
    rw[mP c0 c1] at h;cases x<;>simp[eB.cB] at h;intro w hw;have e:w=_:=hw;rw[e,←h];exact wc hp c1
   |false=>
    by_cases c2:(bc s p).1=⟨#[40]⟩
    ·rcases xr (bc s (aQ s ⟨p,none⟩).2.p).1 with hk|⟨hk,hne2⟩
     ·rw [mQ c0 c1 c2 hk] at h;exact sH h
     ·rcases hk with hk|hk|hk
      ·rw [oT c0 c1 c2 hk] at h;cases x<;>simp[eB.cB] at h;intro w hw;exact ih h2.2 _ h w hw
      ·rw [jo c0 c1 c2 (by omega) (by omega),hk] at h;cases x<;>simp[eB.cB] at h;intro w hw;rcases hw with hw|hw
       ·exact ih h2.2 _ h.1 w hw
       ·exact ih h3.2 _ h.2 w hw
      ·rw [jo c0 c1 c2 (by omega) (by omega),hk] at h;cases x<;>simp[eB.cB] at h;intro w hw;rcases hw with hw|hw
       ·exact ih h2.2 _ h.1 w hw
       ·exact ih h3.2 _ h.2 w hw
    ·rw [mS c0 c1 c2] at h;exact sH h
end
end Go.Proofs.YtndbnldjidciiaaGreatDoor
namespace Go.Vd
open Go Go.RowKit
inductive dN where
 |mk (kind:Int) (name:ByteArray) (params:List ByteArray) (ty val:ae) (arity:Int) (ctors:List (ByteArray×ae))
def gL(l:List (ByteArray×ae)):List (List D):=l.map fun c=>.v (.string c.1)::c.2.cells
def dN.cells:dN→List D
 | .mk k s ps t v a cs=>.v (.int .i64 k)::.v (.string s)::.sl 1 (strs ps)::(t.cells++(v.cells++[.v (.int .i64 a),.sl 6 (gL cs)]))
def dN.d(x:dN):D:=.agg x.cells
def lk(l:List dN):List (List D):=l.map dN.cells
theorem dN.case(x:dN):∃k s ps k1 n1 s1 l1 a1 k2 n2 s2 l2 a2 a cs,x=.mk k s ps (.mk k1 n1 s1 l1 a1) (.mk k2 n2 s2 l2 a2) a cs:=by
 obtain⟨k,s,ps,⟨k1,n1,s1,l1,a1⟩,⟨k2,n2,s2,l2,a2⟩,a,cs⟩:=x;exact⟨_,_,_,_,_,_,_,_,_,_,_,_,_,_,_,rfl⟩
theorem dN.Dc(k:Int)(s:ByteArray)(ps:List ByteArray)(k1 n1:Int)(s1:ByteArray)(l1:List aO)(a1:List ae)(k2 n2:Int)(s2:ByteArray)(l2:List aO)(a2:List ae)(a:Int)(cs:List (ByteArray×ae)):
 (dN.mk k s ps (.mk k1 n1 s1 l1 a1) (.mk k2 n2 s2 l2 a2) a cs).cells=[.v (.int .i64 k),.v (.string s),.sl 1 (strs ps),.v (.int .i64 k1),.v (.int .i64 n1),.v (.string s1),.sl 3 (bE l1),.sl 5 (ay a1),.v (.int .i64 k2),.v (.int .i64 n2),.v (.string s2),.sl 3 (bE l2),.sl 5 (ay a2),.v (.int .i64 a),.sl 6 (gL cs)]:=rfl
theorem iR(l:List (ByteArray×ae)):(gL l).length=l.length:=by simp[gL]
theorem xL(l:List dN):(lk l).length=l.length:=by simp[lk]
theorem Kk(l m:List (ByteArray×ae)):gL (l++m)=gL l++gL m:=by simp[gL]
theorem C7(l m:List dN):lk (l++m)=lk l++lk m:=by simp[lk]
variable {i:Nat} {nm s:ByteArray}
theorem o9{l:List (ByteArray×ae)}{k n:Int}{ls:List aO}{args:List ae}(h:l[i]? =some (nm,.mk k n s ls args)):(gL l)[((i:Nat):Int).toNat]? =some [.v (.string nm),.v (.int .i64 k),.v (.int .i64 n),.v (.string s),.sl 3 (bE ls),.sl 5 (ay args)]:=by
 simp[gL,h,ae.cells]
variable {ps:List ByteArray} {a:Int}
theorem N8{l:List dN}{k:Int}{k1 n1:Int}{s1:ByteArray}{l1:List aO}{a1:List ae}{k2 n2:Int}{s2:ByteArray}{l2:List aO}{a2:List ae}{cs:List (ByteArray×ae)}
 (h:l[i]? =some (.mk k s ps (.mk k1 n1 s1 l1 a1) (.mk k2 n2 s2 l2 a2) a cs)):(lk l)[((i:Nat):Int).toNat]? =some [.v (.int .i64 k),.v (.string s),.sl 1 (strs ps),.v (.int .i64 k1),.v (.int .i64 n1),.v (.string s1),.sl 3 (bE l1),.sl 5 (ay a1),.v (.int .i64 k2),.v (.int .i64 n2),.v (.string s2),.sl 3 (bE l2),.sl 5 (ay a2),.v (.int .i64 a),.sl 6 (gL cs)]:=by
 simp[lk,h,dN.Dc]
theorem qX{l:List (ByteArray×ae)}(h:i<l.length):∃nm k n s ls args,l[i]? =some (nm,.mk k n s ls args):=by
 have:l[i]? =some l[i]:=by simp[h]
 rw[this];obtain⟨nm,⟨k,n,s,ls,args⟩⟩:=l[i];exact⟨_,_,_,_,_,_,rfl⟩
def dQ:Nat→ByteArray→RS→List ByteArray×RS
 |0,_,r=>([],r)
 |n+1,s,r=>
  if r.f=none∧kJ s r≠⟨#[41]⟩ then
   let a:=cT s r
   let b:=dQ n s a.2
   (a.1::b.1,b.2)
  else([],r)
def jQ:ByteArray:=⟨#[99,116,111,114]⟩
def eP(s:ByteArray)(r:RS):(ByteArray×ae)×RS:=
 let c:=cT s (ch s jQ (ch s ⟨#[40]⟩ r))
 let t:=bT (s.size+1) s c.2
 ((c.1,t.1),ch s ⟨#[41]⟩ t.2)
def dM:Nat→ByteArray→RS→List (ByteArray×ae)×RS
 |0,_,r=>([],r)
 |n+1,s,r=>
  if r.f=none∧kJ s r=⟨#[40]⟩ then
   let a:=eP s r
   let b:=dM n s a.2
   (a.1::b.1,b.2)
  else([],r)
def vh(w:ByteArray):Nat:=
 if w=⟨#[97,120,105,111,109]⟩ then 1 else if w=⟨#[100,101,102]⟩ then 2 else if w=⟨#[105,110,100,117,99,116,105,118,101]⟩ then 3 else 0
theorem JI(w:ByteArray):vh w≤3:=by
 unfold vh;repeat' split
 all_goals omega
def qq(t:ByteArray×Nat×Bool):Prop:=t.1≠ .empty∧48≤bo t.1 0∧bo t.1 0≤57∧t.1.size≤2
instance (t:ByteArray×Nat×Bool):Decidable (qq t):=inferInstanceAs (Decidable (_∧_))
def bN(s:ByteArray)(r:RS):Nat×ByteArray×List ByteArray×RS:=
 let r1:=ch s ⟨#[40]⟩ r
 let k:=vh (bc s r1.p).1
 if k=0 then(0,.empty,[],r1.fail (bc s r1.p).2.1)
 else
  let nm:=cT s (aQ s r1).2
  let ps:=dQ (s.size+2) s (ch s ⟨#[40]⟩ nm.2)
  (k,nm.1,ps.1,ch s ⟨#[41]⟩ ps.2)
def fU(s:ByteArray)(k:Nat)(r:RS):Int×RS:=if k=3 then(kS (bc s r.p).1 (bc s r.p).1.size,(aQ s r).2) else(0,r)
def rz(s:ByteArray)(k:Nat)(r:RS):ae×RS:=if k=2 then bT (s.size+1) s r else(aP,r)
def nn(s:ByteArray)(k:Nat)(r:RS):List (ByteArray×ae)×RS:=if k=3 then dM (s.size+2) s r else([],r)
def iQ(s:ByteArray)(k:Nat)(nm:ByteArray)(ps:List ByteArray)(a:Int)(r:RS):dN×RS:=
 let t:=bT (s.size+1) s r
 let v:=rz s k t.2
 let c:=nn s k v.2
 (.mk k nm ps t.1 v.1 a c.1,ch s ⟨#[41]⟩ c.2)
def eE(s:ByteArray)(r:RS):dN×RS:=
 let h:=bN s r
 if h.1=0 then(.mk 0 .empty [] aP aP 0 [],h.2.2.2)
 else if h.1=3∧¬qq (bc s h.2.2.2.p) then(.mk 3 h.2.1 h.2.2.1 aP aP 0 [],h.2.2.2.fail (bc s h.2.2.2.p).2.1)
 else iQ s h.1 h.2.1 h.2.2.1 (fU s h.1 h.2.2.2).1 (fU s h.1 h.2.2.2).2
def atEnd(s:ByteArray)(r:RS):Prop:=(bc s r.p).2.2=true∧(bc s r.p).1=.empty
instance (s:ByteArray) (r:RS):Decidable (atEnd s r):=inferInstanceAs (Decidable (_∧_))
def fD:Nat→ByteArray→RS→List dN×RS
 |0,_,r=>([],r)
 |n+1,s,r=>
  if r.f=none∧¬atEnd s r then
   let a:=eE s r
   let b:=fD n s a.2
   (a.1::b.1,b.2)
  else([],r)
def eX(s:ByteArray):List dN×Int×Int:=
 match (fD (s.size+2) s ⟨0,none⟩).2.f with
 |none=>((fD (s.size+2) s ⟨0,none⟩).1,0,0)
 |some a=>([],1,a)
def fQ(s:ByteArray):List dN×Int×Int:=if s.size>200000 then([],2,0) else eX s
theorem zm:∀(n:Nat) {r:RS},r.p≤s.size→r.p≤(dQ n s r).2.p∧(dQ n s r).2.p≤s.size:=by
 intro n
 induction n with
 |zero=>intro r hp;exact⟨Nat.le_refl _,hp⟩
 |succ n ih=>
  intro r hp;simp only[dQ];split
  ·have h1:=eD (s:=s) hp;have h2:=ih h1.2;exact⟨Nat.le_trans h1.1 h2.1,h2.2⟩
  ·exact ⟨Nat.le_refl _,hp⟩
variable {r:RS}
theorem tF(hp:r.p≤s.size):r.p≤(eP s r).2.p∧(eP s r).2.p≤s.size:=by
 have h1:=bX (s:=s) (w:=⟨#[40]⟩) hp;have h2:=bX (s:=s) (w:=jQ) h1.2;have h3:=eD (s:=s) h2.2;have h4:=et (s:=s) (s.size+1) _ h3.2;have h5:=bX (s:=s) (w:=⟨#[41]⟩) h4.2;unfold eP;exact⟨Nat.le_trans h1.1 (Nat.le_trans h2.1 (Nat.le_trans h3.1 (Nat.le_trans h4.1 h5.1))),h5.2⟩
theorem zR:∀(n:Nat) {r:RS},r.p≤s.size→r.p≤(dM n s r).2.p∧(dM n s r).2.p≤s.size:=by
 intro n
 induction n with
 |zero=>intro r hp;exact⟨Nat.le_refl _,hp⟩
 |succ n ih=>
  intro r hp;simp only[dM];split
  ·have h1:=tF (s:=s) hp;have h2:=ih h1.2;exact⟨Nat.le_trans h1.1 h2.1,h2.2⟩
  ·exact ⟨Nat.le_refl _,hp⟩
theorem nk(hp:r.p≤s.size):r.p≤(bN s r).2.2.2.p∧(bN s r).2.2.2.p≤s.size:=by
 have h1:=bX (s:=s) (w:=⟨#[40]⟩) hp;have h2:=cZ (s:=s) h1.2;have h3:=eD (s:=s) h2.2;have h4:=bX (s:=s) (w:=⟨#[40]⟩) h3.2;have h5:=zm (s:=s) (s.size+2) h4.2;have h6:=bX (s:=s) (w:=⟨#[41]⟩) h5.2;unfold bN;dsimp only;split
 ·rw [RS.ij];exact h1
 ·exact ⟨Nat.le_trans h1.1 (Nat.le_trans h2.1 (Nat.le_trans h3.1 (Nat.le_trans h4.1 (Nat.le_trans h5.1 h6.1)))),h6.2⟩
variable {k:Nat}
theorem ow(hp:r.p≤s.size):r.p≤(fU s k r).2.p∧(fU s k r).2.p≤s.size:=by
 have h2:=cZ (s:=s) hp;unfold fU;split
 ·exact h2
 ·exact ⟨Nat.le_refl _,hp⟩
theorem vJ(hp:r.p≤s.size):r.p≤(rz s k r).2.p∧(rz s k r).2.p≤s.size:=by
 have h2:=et (s:=s) (s.size+1) r hp;unfold rz;split
 ·exact h2
 ·exact ⟨Nat.le_refl _,hp⟩
theorem Kn(hp:r.p≤s.size):r.p≤(nn s k r).2.p∧(nn s k r).2.p≤s.size:=by
 have h2:=zR (s:=s) (s.size+2) hp;unfold nn;split
 ·exact h2
 ·exact ⟨Nat.le_refl _,hp⟩
theorem vo(hp:r.p≤s.size):r.p≤(iQ s k nm ps a r).2.p∧(iQ s k nm ps a r).2.p≤s.size:=by
 have h1:=et (s:=s) (s.size+1) r hp;have h2:=vJ (s:=s) (k:=k) h1.2;have h3:=Kn (s:=s) (k:=k) h2.2;have h4:=bX (s:=s) (w:=⟨#[41]⟩) h3.2;unfold iQ;exact⟨Nat.le_trans h1.1 (Nat.le_trans h2.1 (Nat.le_trans h3.1 h4.1)),h4.2⟩
theorem xM(hp:r.p≤s.size):r.p≤(eE s r).2.p∧(eE s r).2.p≤s.size:=by
 have h1:=nk (s:=s) hp;unfold eE;dsimp only;split
 ·exact h1
 ·split
  ·rw [RS.ij];exact h1
  ·have h2:=ow (s:=s) (k:=(bN s r).1) h1.2;have h3:=vo (s:=s) (k:=(bN s r).1) (nm:=(bN s r).2.1) (ps:=(bN s r).2.2.1) (a:=(fU s (bN s r).1 (bN s r).2.2.2).1) h2.2;exact⟨Nat.le_trans h1.1 (Nat.le_trans h2.1 h3.1),h3.2⟩
theorem iP(r:RS)(x:Nat):(r.fail x).f≠none:=by obtain⟨a,f⟩:=r;cases f<;>simp[RS.fail]
variable {w:ByteArray}
theorem jd(h:(ch s w r).f=none):r.f=none:=by
 obtain⟨p,f⟩:=r;unfold ch at h;dsimp only at h;split at h
 ·exact absurd h (iP _ _)
 ·cases f with
  |none=>rfl
  |some a=>cases h
theorem Jz(h:(aQ s r).2.f=none):r.f=none:=by
 obtain⟨p,f⟩:=r;unfold aQ at h;dsimp only at h;split at h
 ·exact absurd h (iP _ _)
 ·cases f with
  |none=>rfl
  |some a=>cases h
theorem Ay(h:(cT s r).2.f=none):r.f=none:=by
 obtain⟨p,f⟩:=r;unfold cT at h;dsimp only at h;split at h
 ·exact absurd h (iP _ _)
 ·cases f with
  |none=>rfl
  |some a=>cases h
theorem rC{n:Nat}(h:(bT n s r).2.f=none):r.f=none:=by
 obtain⟨p,f⟩:=r;cases f with
 |none=>rfl
 |some a=>cases n<;>cases h
theorem vN{s:ByteArray}:∀{n:Nat} {r:RS},(dQ n s r).2.f=none→r.f=none
 |0,r,h=>h
 |n+1,r,h=>by
  simp only[dQ] at h;split at h
  ·exact Ay (vN h)
  ·exact h
theorem N9(h:(eP s r).2.f=none):r.f=none:=jd (jd (Ay (rC (jd h))))
theorem AW{s:ByteArray}:∀{n:Nat} {r:RS},(dM n s r).2.f=none→r.f=none
 |0,r,h=>h
 |n+1,r,h=>by
  simp only[dM] at h;split at h
  ·exact N9 (AW h)
  ·exact h
theorem JP(h:(bN s r).2.2.2.f=none):(ch s ⟨#[40]⟩ r).f=none:=by
 unfold bN at h;dsimp only at h;split at h
 ·exact absurd h (iP _ _)
 ·exact Jz (Ay (jd (vN (jd h))))
theorem GA(h:(fU s k r).2.f=none):r.f=none:=by
 unfold fU at h;split at h
 ·exact Jz h
 ·exact h
theorem Ml(h:(rz s k r).2.f=none):r.f=none:=by
 unfold rz at h;split at h
 ·exact rC h
 ·exact h
theorem Km(h:(nn s k r).2.f=none):r.f=none:=by
 unfold nn at h;split at h
 ·exact AW h
 ·exact h
theorem IQ(h:(iQ s k nm ps a r).2.f=none):r.f=none:=
 rC (Ml (Km (jd h)))
theorem N7(h:(eE s r).2.f=none):(ch s ⟨#[40]⟩ r).f=none:=by
 unfold eE at h;dsimp only at h;split at h
 ·exact JP h
 ·split at h
  ·exact absurd h (iP _ _)
  ·exact JP (GA (IQ h))
theorem yP(hw:w≠ .empty)(hp:r.p≤s.size)(h:(ch s w r).f=none):r.p<(ch s w r).p:=by
 have hat:=fq (s:=s) hp;obtain⟨p,f⟩:=r;unfold ch at h ⊢;dsimp only at h ⊢;split at h
 ·exact absurd h (iP _ _)
 ·rename_i hn;rw[if_neg hn];cases f with
  |none=>
   have:(bc s p).1=w:=Classical.byContradiction fun e=>hn (.inr e)
   have h2:0<(bc s p).1.size:=by
    rcases Nat.eq_zero_or_pos (bc s p).1.size with h3|h3
    ·exact absurd (this▸ByteArray.size_eq_zero_iff.1 h3) hw
    ·exact h3
   simp only at hat ⊢;omega
  |some a=>cases h
theorem Ha(hp:r.p≤s.size)(h:(cT s r).2.f=none):r.p<(cT s r).2.p:=by
 have hat:=fq (s:=s) hp;obtain⟨p,f⟩:=r;unfold cT at h ⊢;dsimp only at h ⊢;split at h
 ·exact absurd h (iP _ _)
 ·rename_i hn;rw[if_neg hn];cases f with
  |none=>
   have h2:0<(bc s p).1.size:=by
    rcases Nat.eq_zero_or_pos (bc s p).1.size with h3|h3
    ·exfalso;apply hn;right;rw[ByteArray.size_eq_zero_iff.1 h3];rfl
    ·exact h3
   simp only at hat ⊢;omega
  |some a=>cases h
theorem H0(hp:r.p≤s.size)(h:(eP s r).2.f=none):r.p<(eP s r).2.p:=by
 have h1:=yP (w:=⟨#[40]⟩) (by decide) hp (jd (Ay (rC (jd h))));have h0:=bX (s:=s) (w:=⟨#[40]⟩) hp;have h2:=bX (s:=s) (w:=jQ) h0.2;have h3:=eD (s:=s) h2.2;have h4:=et (s:=s) (s.size+1) _ h3.2;have h5:=bX (s:=s) (w:=⟨#[41]⟩) h4.2;have:(eP s r).2=ch s ⟨#[41]⟩ (bT (s.size+1) s (cT s (ch s jQ (ch s ⟨#[40]⟩ r))).2).2:=rfl;rw[this];omega
theorem HR(hp:r.p≤s.size)(h:(eE s r).2.f=none):r.p<(eE s r).2.p:=by
 have h1:=yP (w:=⟨#[40]⟩) (by decide) hp (N7 h);have h2:=bX (s:=s) (w:=⟨#[40]⟩) hp;have key:(ch s ⟨#[40]⟩ r).p≤(bN s r).2.2.2.p:=by
  have h3:=cZ (s:=s) h2.2;have h4:=eD (s:=s) h3.2;have h5:=bX (s:=s) (w:=⟨#[40]⟩) h4.2;have h6:=zm (s:=s) (s.size+2) h5.2;have h7:=bX (s:=s) (w:=⟨#[41]⟩) h6.2;unfold bN;dsimp only;split
  ·rw [RS.ij];exact Nat.le_refl _
  ·exact Nat.le_trans h3.1 (Nat.le_trans h4.1 (Nat.le_trans h5.1 (Nat.le_trans h6.1 h7.1)))
 have h8:=nk (s:=s) hp;have h9:(bN s r).2.2.2.p≤(eE s r).2.p:=by
  unfold eE;dsimp only;split
  ·exact Nat.le_refl _
  ·split
   ·rw [RS.ij];exact Nat.le_refl _
   ·have h2:=ow (s:=s) (k:=(bN s r).1) h8.2;have h3:=vo (s:=s) (k:=(bN s r).1) (nm:=(bN s r).2.1) (ps:=(bN s r).2.2.1) (a:=(fU s (bN s r).1 (bN s r).2.2.2).1) h2.2;exact Nat.le_trans h2.1 h3.1
 omega
variable {m:Nat}
theorem Ed(h:¬(r.f=none∧¬kJ s r=⟨#[41]⟩)):dQ m s r=([],r):=by
 cases m with
 |zero=>rfl
 |succ m=>simp only[dQ];rw[if_neg h]
variable {r0 r':RS}
theorem Ee{acc:List ByteArray}{x:ByteArray}(hinv:r'.p≤s.size∧acc.length+m=s.size+2∧(r'.f=none→s.size-r'.p<m)∧dQ (s.size+2) s r0=(acc++(dQ m s r').1,(dQ m s r').2))
 (h:r'.f=none∧¬kJ s r'=⟨#[41]⟩) (hX:(cT s r').1=x):
 (cT s r').2.p≤s.size∧(acc++[x]).length+(m-1)=s.size+2∧((cT s r').2.f=none→s.size-(cT s r').2.p<m-1)∧
  dQ (s.size+2) s r0=(acc++[x]++(dQ (m-1) s (cT s r').2).1,(dQ (m-1) s (cT s r').2).2):=by
 obtain⟨h1,h2,h3,h4⟩:=hinv;have hm:=h3 h.1;obtain⟨m,rfl⟩:∃k,m=k+1:=⟨m-1,by omega⟩;have hle:=eD (s:=s) h1;refine⟨hle.2,by simp;omega,fun hf=>by have:=Ha h1 hf;omega,?_⟩;rw[h4];simp only[dQ];rw[if_pos h,←hX];simp
theorem E5(h:¬(r.f=none∧kJ s r=⟨#[40]⟩)):dM m s r=([],r):=by
 cases m with
 |zero=>rfl
 |succ m=>simp only[dM];rw[if_neg h]
theorem E6{acc:List (ByteArray×ae)}{x:ByteArray×ae}(hinv:r'.p≤s.size∧acc.length+m=s.size+2∧(r'.f=none→s.size-r'.p<m)∧dM (s.size+2) s r0=(acc++(dM m s r').1,(dM m s r').2))
 (h:r'.f=none∧kJ s r'=⟨#[40]⟩) (hX:(eP s r').1=x):
 (eP s r').2.p≤s.size∧(acc++[x]).length+(m-1)=s.size+2∧((eP s r').2.f=none→s.size-(eP s r').2.p<m-1)∧
  dM (s.size+2) s r0=(acc++[x]++(dM (m-1) s (eP s r').2).1,(dM (m-1) s (eP s r').2).2):=by
 obtain⟨h1,h2,h3,h4⟩:=hinv;have hm:=h3 h.1;obtain⟨m,rfl⟩:∃k,m=k+1:=⟨m-1,by omega⟩;have hle:=tF (s:=s) h1;refine⟨hle.2,by simp;omega,fun hf=>by have:=H0 h1 hf;omega,?_⟩;rw[h4];simp only[dM];rw[if_pos h,←hX];simp
theorem uC(h:¬(r.f=none∧¬atEnd s r)):fD m s r=([],r):=by
 cases m with
 |zero=>rfl
 |succ m=>simp only[fD];rw[if_neg h]
theorem HE{acc:List dN}{x:dN}(hinv:r'.p≤s.size∧acc.length+m=s.size+2∧(r'.f=none→s.size-r'.p<m)∧fD (s.size+2) s r0=(acc++(fD m s r').1,(fD m s r').2))
 (h:r'.f=none∧¬atEnd s r') (hX:(eE s r').1=x):
 (eE s r').2.p≤s.size∧(acc++[x]).length+(m-1)=s.size+2∧((eE s r').2.f=none→s.size-(eE s r').2.p<m-1)∧
  fD (s.size+2) s r0=(acc++[x]++(fD (m-1) s (eE s r').2).1,(fD (m-1) s (eE s r').2).2):=by
 obtain⟨h1,h2,h3,h4⟩:=hinv;have hm:=h3 h.1;obtain⟨m,rfl⟩:∃k,m=k+1:=⟨m-1,by omega⟩;have hle:=xM (s:=s) h1;refine⟨hle.2,by simp;omega,fun hf=>by have:=HR h1 hf;omega,?_⟩;rw[h4];simp only[fD];rw[if_pos h,←hX];simp
end Go.Vd
namespace Go.Proofs.YtndbnldjidciiaaGreatDoor
section
open Go Go.Vd Go.RowKit
attribute [local irreducible] bq bu dh ak bJ
variable {gl:Nat→List D}
theorem uf(s:ByteArray)(r:RS)(hs:s.size≤1099511627776)(hp:r.p≤s.size):
 er Tryz.prog gl 93 [iw s r] [.b0 0 0] fun out ob'=>out=.ret (.d (.v (.string (kJ s r))))∧ob'=[iw s r]:=by
 obtain⟨p,f⟩:=r;simp only at hp;cases f with
 |none=>
  refine bS Tryz.func93 Tryz.ntmps93 1 ?_;refine gc 8 ?_;refine oc (ck pD rfl rfl (c6 s p (bC none) (eF none) hs hp) [0] rfl (bh .nil) (an .nil) ?_);refine ko 10 [5,3,0] 5 ?_;apply nD (yt:=20) (d:=14) 6 rfl rfl rfl (.none rfl) rfl rfl
  case h1=>
   intro hb4 hK;have hc:=hb4;(try simp only[dq,Int.reduceEq,Int.reduceNe,Int.reduceLT,Int.reduceLE,bC,eF] at hc);refine lS ?_ (hbw:=by exact hb4);refine go 1 ?_;refine lS ?_ (hbw:=by exact hb4);refine go 1 ?_;refine lS ?_ (hbw:=by exact hb4);refine go 1 ?_;refine lS ?_ (hbw:=by exact hb4);refine go 1 ?_;refine lS ?_ (hbw:=by exact hb4);refine go 1 ?_;refine lS ?_ (hbw:=by exact hb4);refine go 1 ?_;exact hK [_,_,_,_,_,_] rfl rfl
  case h2=>
   intro hb4 hK;refine lN ?_ (hbw:=by exact hb4);refine lN ?_ (hbw:=by exact hb4);refine lN ?_ (hbw:=by exact hb4);refine lN ?_ (hbw:=by exact hb4);refine lN ?_ (hbw:=by exact hb4);refine lN ?_ (hbw:=by exact hb4);exact hK [_,_,_,_,_,_] rfl
  refine go 2 ?_;refine cd (fun h2=>?_) (fun h2=>?_)
  ·(try simp only[dq,Int.reduceEq,Int.reduceNe,Int.reduceLT,Int.reduceLE,bC,eF] at h2)
   refine kc 0 [] 7 ?_;refine sy [0] [iw s ⟨p,none⟩] ?_
   ·refine ⟨?_,rfl⟩;unfold kJ;dsimp only;rw[if_pos (by simp_all)];rfl
  (try simp only[dq,Int.reduceEq,Int.reduceNe,Int.reduceLT,Int.reduceLE,bC,eF] at h2);refine kc 2 [3] 7 ?_;refine sy [0] [iw s ⟨p,none⟩] ?_
  ·refine ⟨?_,rfl⟩;unfold kJ;dsimp only;rw[if_neg (by simp_all)]
 |some a=>
  refine bS Tryz.func93 Tryz.ntmps93 1 ?_;refine gc 8 ?_;refine oc (ck pD rfl rfl (c6 s p (bC (some a)) (eF (some a)) hs hp) [0] rfl (bh .nil) (an .nil) ?_);refine ko 10 [5,3,0] 5 ?_;apply nD (yt:=20) (d:=14) 6 rfl rfl rfl (.none rfl) rfl rfl
  case h1=>
   intro hb4 hK;have hc:=hb4;(try simp only[dq,Int.reduceEq,Int.reduceNe,Int.reduceLT,Int.reduceLE,bC,eF] at hc);refine lS ?_ (hbw:=by exact hb4);refine go 1 ?_;refine lS ?_ (hbw:=by exact hb4);refine go 1 ?_;refine lS ?_ (hbw:=by exact hb4);refine go 1 ?_;refine lS ?_ (hbw:=by exact hb4);refine go 1 ?_;refine lS ?_ (hbw:=by exact hb4);refine go 1 ?_;refine lS ?_ (hbw:=by exact hb4);refine go 1 ?_;exact hK [_,_,_,_,_,_] rfl rfl
  case h2=>
   intro hb4 hK;refine lN ?_ (hbw:=by exact hb4);refine lN ?_ (hbw:=by exact hb4);refine lN ?_ (hbw:=by exact hb4);refine lN ?_ (hbw:=by exact hb4);refine lN ?_ (hbw:=by exact hb4);refine lN ?_ (hbw:=by exact hb4);exact hK [_,_,_,_,_,_] rfl
  refine go 2 ?_;refine vS (fun h2=>?_) (fun h2=>?_)
  ·simp only[dq,Int.reduceEq,Int.reduceNe,Int.reduceLT,Int.reduceLE,bC,eF] at h2
  (try simp only[dq,Int.reduceEq,Int.reduceNe,Int.reduceLT,Int.reduceLE,bC,eF] at h2);refine kc 0 [] 7 ?_;refine sy [0] [iw s ⟨p,some a⟩] ?_
  ·refine ⟨?_,rfl⟩;unfold kJ;dsimp only;rw[if_pos (by simp)];rfl
theorem qN(s:ByteArray)(r:RS)(hs:s.size≤1099511627776)(hp:r.p≤s.size):
 er Tryz.prog gl 92 [iw s r] [.b0 0 0] fun out ob'=>out=.ret (.d (.v (.string (cT s r).1)))∧ob'=[iw s (cT s r).2]:=by
 have hat:=fq (s:=s) hp;obtain⟨p,f⟩:=r;simp only at hat hp;cases f with
 |none=>
  refine bS Tryz.func92 Tryz.ntmps92 1 ?_;refine gc 8 ?_;refine oc (ck pD rfl rfl (c6 s p (bC none) (eF none) hs hp) [0] rfl (bh .nil) (an .nil) ?_);refine ko 9 [5,4,3,0] 3 ?_;refine oc (cv Gv rfl rfl (ng (bc s p).1) (an .nil) ?_);refine go 9 ?_;apply nD (yt:=19) (d:=17) 2 rfl rfl rfl (.none rfl) rfl rfl
  case h1=>
   intro hb4 hK;have hc:=hb4;(try simp only[dq,Int.reduceEq,Int.reduceNe,Int.reduceLT,Int.reduceLE,bC,eF,RS.fail] at hc);refine lS ?_ (hbw:=by exact hb4);refine go 1 ?_;refine lS ?_ (hbw:=by exact hb4);refine go 1 ?_;exact hK [_,_] rfl rfl
  case h2=>
   intro hb4 hK;refine lN ?_ (hbw:=by exact hb4);refine lN ?_ (hbw:=by exact hb4);exact hK [_,_] rfl
  refine go 2 ?_;refine cd (fun h3=>?_) (fun h3=>?_)
  ·(try simp only[dq,Int.reduceEq,Int.reduceNe,Int.reduceLT,Int.reduceLE,bC,eF,RS.fail] at h3)
   refine kc 0 [4,3,0] 3 ?_;refine oc (ck uJ rfl rfl (eJ s (bc s p).2.1 ⟨p,none⟩) [0] rfl (bh .nil) (an (an .nil)) ?_);refine go 13 ?_;refine vS (fun h5=>?_) (fun h5=>?_)
   ·simp only[dq,Int.reduceEq,Int.reduceNe,Int.reduceLT,Int.reduceLE,bC,eF,RS.fail] at h5
   (try simp only[dq,Int.reduceEq,Int.reduceNe,Int.reduceLT,Int.reduceLE,bC,eF,RS.fail] at h5);refine kc 0 [] 7 ?_;refine sy [0] [iw s (RS.fail (bc s p).2.1 ⟨p,none⟩)] ?_
   ·unfold cT;simp only;rw[if_pos (by simp_all)];exact⟨rfl,rfl⟩
  (try simp only[dq,Int.reduceEq,Int.reduceNe,Int.reduceLT,Int.reduceLE,bC,eF,RS.fail] at h3);refine kc 3 [4,3,0] 10 ?_;refine cd (fun h5=>?_) (fun h5=>?_)
  ·simp only[dq,Int.reduceEq,Int.reduceNe,Int.reduceLT,Int.reduceLE,bC,eF,RS.fail] at h5
  (try simp only[dq,Int.reduceEq,Int.reduceNe,Int.reduceLT,Int.reduceLE,bC,eF,RS.fail] at h5);refine kc 2 [4,3,0] 6 ?_;refine o1 (cF ?_);refine ko 5 [3] 7 ?_;refine sy [0] [iw s ⟨(bc s p).2.1+(bc s p).1.size,none⟩] ?_
  ·unfold cT;simp only;rw[if_neg (by simp_all)];exact⟨rfl,rfl⟩
 |some a=>
  refine bS Tryz.func92 Tryz.ntmps92 1 ?_;refine gc 8 ?_;refine oc (ck pD rfl rfl (c6 s p (bC (some a)) (eF (some a)) hs hp) [0] rfl (bh .nil) (an .nil) ?_);refine ko 9 [5,4,3,0] 3 ?_;refine oc (cv Gv rfl rfl (ng (bc s p).1) (an .nil) ?_);refine go 9 ?_;apply nD (yt:=19) (d:=17) 2 rfl rfl rfl (.none rfl) rfl rfl
  case h1=>
   intro hb4 hK;have hc:=hb4;(try simp only[dq,Int.reduceEq,Int.reduceNe,Int.reduceLT,Int.reduceLE,bC,eF,RS.fail] at hc);refine lS ?_ (hbw:=by exact hb4);refine go 1 ?_;refine lS ?_ (hbw:=by exact hb4);refine go 1 ?_;exact hK [_,_] rfl rfl
  case h2=>
   intro hb4 hK;refine lN ?_ (hbw:=by exact hb4);refine lN ?_ (hbw:=by exact hb4);exact hK [_,_] rfl
  refine go 2 ?_;refine vS (fun h3=>?_) (fun h3=>?_)
  ·(try simp only[dq,Int.reduceEq,Int.reduceNe,Int.reduceLT,Int.reduceLE,bC,eF,RS.fail] at h3)
   refine kc 3 [4,3,0] 10 ?_;refine vS (fun h5=>?_) (fun h5=>?_)
   ·simp only[dq,Int.reduceEq,Int.reduceNe,Int.reduceLT,Int.reduceLE,bC,eF,RS.fail] at h5
   (try simp only[dq,Int.reduceEq,Int.reduceNe,Int.reduceLT,Int.reduceLE,bC,eF,RS.fail] at h5);refine kc 0 [] 7 ?_;refine sy [0] [iw s ⟨p,some a⟩] ?_
   ·unfold cT;simp only;split<;>exact⟨rfl,rfl⟩
  (try simp only[dq,Int.reduceEq,Int.reduceNe,Int.reduceLT,Int.reduceLE,bC,eF,RS.fail] at h3);refine kc 0 [4,3,0] 3 ?_;refine oc (ck uJ rfl rfl (eJ s (bc s p).2.1 ⟨p,some a⟩) [0] rfl (bh .nil) (an (an .nil)) ?_);refine go 13 ?_;refine vS (fun h5=>?_) (fun h5=>?_)
  ·simp only[dq,Int.reduceEq,Int.reduceNe,Int.reduceLT,Int.reduceLE,bC,eF,RS.fail] at h5
  (try simp only[dq,Int.reduceEq,Int.reduceNe,Int.reduceLT,Int.reduceLE,bC,eF,RS.fail] at h5);refine kc 0 [] 7 ?_;refine sy [0] [iw s ⟨p,some a⟩] ?_
  ·unfold cT;simp only;split<;>exact⟨rfl,rfl⟩
theorem vd(t:ByteArray)(h5:t.size≤5)(hd:uN t):cC Tryz.prog gl 90 [.v (.string t)] (· =.v (.int .i64 (kS t t.size))):=by
 refine bD Tryz.func90 Tryz.ntmps90 ?_;refine kc 17 [4,3,0] 0 ?_;refine lP (ι:=Nat) (fun i=>[(4,int i),(3,int (kS t i))]) [0] (fun i=>i≤t.size) (fun i=>t.size-i) (0) rfl ?I1 ?M1 ?H1
 case I1=>
  exact Nat.zero_le _
 case M1=>
  exact mz
 case H1=>
  rintro i hinv
  try dsimp only at hinv
  refine kc 0 [4,3,0] 9 ?_;refine cJ (fun h3=>?_) (fun h3=>?_)
  ·refine kc 5 [3] 7 ?_;refine ez ?_;have hi:i=t.size:=by omega
   subst hi;rfl
  refine kc 4 [4,3,0] 0 ?_;have hdi:=hd i (by omega);have hnb:=wR hd i (by omega) (by omega);have hw:IntKind.wrap .i64 (K8 (bo t ((i:Nat):Int).toNat) 48)=bo t i-48:=by rw[Int.toNat_natCast,DL hdi];exact Dx (by omega)
  refine gc 2 ?_;refine o1 (AN rfl rfl rfl (by omega) ?_);refine go 2 ?_;refine o1 (Fe uP ?_);refine o1 (LD rfl rfl rfl ?_);refine o1 (Gf Re Rr rfl rfl ?_);refine o1 (cF ?_);refine ko 4 [3,4,0] 2 ?_;refine o1 (cF ?_);refine go 2 ?_;rw[hw];refine bi (i+1) rfl ?_ mz;exact⟨by omega,by omega⟩
end
end Go.Proofs.YtndbnldjidciiaaGreatDoor
