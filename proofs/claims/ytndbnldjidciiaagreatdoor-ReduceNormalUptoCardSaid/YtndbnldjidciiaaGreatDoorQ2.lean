/-
  What is proved here: lemmas of part 2, for the theorem of the last part.
-/
import Derived.Test.YtndbnldjidciiaaGreatDoorQ1
import Derived.Carry
import Derived.Lib.ConvBytes
import Derived.Laws.BytesString
import Derived.Laws.Cells
import Derived.Laws.OwnMore
import Derived.Deep.Upon
import Derived.Test.YtndbnldjidciiaaGreatDoorRows
import Derived.KernelRfl
import Derived.ProofKit
import Derived.LaidMore
import Derived.OpenShut
import Derived.Stop.Joined
import Derived.LaidEql
import Derived.RowKitTokens
set_option linter.unusedSimpArgs false
set_option linter.unusedVariables false
set_option linter.unusedSectionVars false
namespace Go.Vd
open Go Go.RowKit
theorem du:(∀ (p:Prop) [Decidable p],(decide p=true)=p)∧(∀ (p:Prop) [Decidable p],(decide p=false)= ¬p)∧(∀ b:Bool,((!b)=true)=(b=false))∧(∀ b:Bool,((!b)=false)=(b=true))∧((!true)=false)∧((!false)=true)
 ∧(∀ a b:Int,(¬ a<b)=(b≤a))∧(∀ a b:Int,(¬ a≤b)=(b<a))∧(∀ a b:Bool,((a&&b)=true)=(a=true∧b=true))∧(∀ a b:Bool,((a||b)=true)=(a=true∨b=true))∧(∀ a b:Bool,((a&&b)=false)=(a=false∨b=false))∧(∀ a b:Bool,((a||b)=false)=(a=false∧b=false))
 ∧((false=true)=False)∧((true=false)=False)∧((¬ True)=False)∧((¬ False)=True)∧(∀ [Decidable True],decide True=true)∧(∀ [Decidable False],decide False=false)
 ∧(∀ p:Prop,(True∧p)=p)∧(∀ p:Prop,(p∧True)=p)∧(∀ p:Prop,(False∧p)=False)∧(∀ p:Prop,(p∧False)=False)∧(∀ p:Prop,(True∨p)=True)∧(∀ p:Prop,(p∨True)=True)∧(∀ p:Prop,(False∨p)=p)∧(∀ p:Prop,(p∨False)=p)
 ∧(∀ b:Bool,(true&&b)=b)∧(∀ b:Bool,(false&&b)=false)∧(∀ b:Bool,(b&&true)=b)∧(∀ b:Bool,(b&&false)=false)∧(∀ b:Bool,(true||b)=true)∧(∀ b:Bool,(false||b)=b)∧(∀ b:Bool,(b||true)=true)∧(∀ b:Bool,(b||false)=b)
 ∧(∀ n:Nat,(n:Int).toNat=n)∧(∀ n:Nat,((n:Int)+1).toNat=n+1):=by
 repeat' apply And.intro
 all_goals first
  |rfl
  |(intros;simp;done)
  |(intro a b;exact propext Int.not_lt)
  |(intro a b;exact propext Int.not_le)
  |(intros;omega)
  |(intro a b;cases a<;>cases b<;>simp)
section
variable {P:Program} {GL:Nat→List D} {n0:Nat} {Pn:pG}
variable {c2:Code} {Q:Ex→St→Prop} {σ:St}
theorem sr{id:Nat}{l:List Oper}(h:bA P GL n0 Pn l l (Ex.seq (fun σ'=>bu P GL n0 Pn c2 Q σ') Q) σ):bu P GL n0 Pn (.seq (.region id l.toArray false) c2) Q σ:=wJ (mQ h)
theorem nx{ops:List Oper}(h:bu P GL n0 Pn c2 Q σ):bA P GL n0 Pn ops [] (Ex.seq (fun σ'=>bu P GL n0 Pn c2 Q σ') Q) σ:=vU (wF h)
variable {n:Nat} {sl sl':List (Nat×SV)} {ob:List Ob}
theorem kp(L:List Nat){c:Code}(h:bu P GL n0 Pn c Q ⟨n,sl',ob⟩)(hk:jb sl L=some sl':=by exact rfl):bu P GL n0 Pn c Q ⟨n,sl,ob⟩:=zk L hk h
variable {c:Operand} {c1:Code} {b:Bool}
theorem cd(h1:b=true→bu P GL n0 Pn c1 Q σ)(h2:b=false→bu P GL n0 Pn c2 Q σ)(hc:bT GL σ.sl c=some (.d (.v (.bool b))):=by exact rfl):bu P GL n0 Pn (.cond c c1 c2) Q σ:=j0 hc h1 h2
theorem v5(h2:b=false→bu P GL n0 Pn c2 Q σ)(h1:b=true→bu P GL n0 Pn c1 Q σ)(hc:bT GL σ.sl c=some (.d (.v (.bool b))):=by exact rfl):bu P GL n0 Pn (.cond c c1 c2) Q σ:=j0 hc h1 h2
variable {fuel:Nat} {listed:Array Bool}
theorem OZ{l:List Oper}{L:List (Nat×Nat)}(d:Nat)
 (h1:b=true→bL P GL n0 Pn l fuel listed L Q ⟨n,(d,.d (.v (.bool true)))::sl,ob⟩) (h2:b=false→bL P GL n0 Pn l fuel listed L Q ⟨n,(d,.d (.v (.bool false)))::sl,ob⟩) (hb:gK d sl=some (.d (.v (.bool b))):=by exact rfl):bL P GL n0 Pn l fuel listed L Q ⟨n,sl,ob⟩:=Af d hb h1 h2
theorem Fw{l:List Oper}{L:List (Nat×Nat)}(d:Nat)
 (h2:b=false→bL P GL n0 Pn l fuel listed L Q ⟨n,(d,.d (.v (.bool false)))::sl,ob⟩) (h1:b=true→bL P GL n0 Pn l fuel listed L Q ⟨n,(d,.d (.v (.bool true)))::sl,ob⟩) (hb:gK d sl=some (.d (.v (.bool b))):=by exact rfl):bL P GL n0 Pn l fuel listed L Q ⟨n,sl,ob⟩:=Af d hb h1 h2
variable {o:Oper} {t:Nat} {ob':List Ob} {K:St→Prop} {f:FuncId} {args:Array Operand} {ts:Array TypeId} {svs m:List SV}
theorem ck{sl1:List (Nat×SV)}{ob1 obr obn:List Ob}{obc:List Ob}{argsc:List SV}{r r':SV}(hc:ai P f=true)(ho:o.op=.call { callee:=.value (.func f),args:=args,argTypes:=ts })(ha:De GL sl args.toList=some svs)(ht:et P GL f obc argsc fun out ob2=>out=.ret r∧ob2=ob')(ix:List Nat)(hra:ml ix argsc=some m)(hfit:ch ob ix obc ix)(hfa:ic ob svs m)
 (hK:K ⟨n,(t,r')::sl1,obn⟩) (hdst:o.dst=some t:=by exact rfl) (htn:Nat.blt t n=true:=by exact rfl) (hnd:fA ix=true:=by exact rfl) (hno:fV obc=true:=by exact rfl) (hit:oT ix ob=true:=by exact rfl)
 (e1:nW (names ix ob.length (ob'.length-ix.length)) ob'=some obr:=by exact rfl) (e2:rl ix ob=some ob1:=by exact rfl) (e3:iO ix ob1 obr=some obn:=by exact rfl) (e4:uE ix sl=some sl1:=by exact rfl) (e5:r.ja (names ix ob.length (ob'.length-ix.length))=some r':=by exact rfl):di P GL n0 Pn (· ∈ix) o ⟨n,sl,ob⟩ K:=
 aN hc ho ha hdst htn ht ix hfit hnd hno hit hra hfa (fun s ob2 hq=>by
  obtain⟨h1,rfl⟩:=hq;cases h1;exact⟨_,_,_,_,_,e1,e2,e3,e4,e5,hK⟩) (fun s ob2 hq=>by cases hq.1)
variable {d:D}
theorem cv{argsc:List D}(hc:ai P f=true)(ho:o.op=.call { callee:=.value (.func f),args:=args,argTypes:=ts })(ha:De GL sl args.toList=some svs)(ht:cD P GL f argsc (· =d))(hfa:ic ob svs (argsc.map .d))(hK:K ⟨n,(t,.d d)::sl,ob⟩)
 (hdst:o.dst=some t:=by exact rfl) (htn:Nat.blt t n=true:=by exact rfl):di P GL n0 Pn (fun _=>False) o ⟨n,sl,ob⟩ K:=
 bJ hc ho ha hdst htn ht hfa fun d' hd=>by cases hd;exact hK
variable {s:SV} {l:List SV}
theorem an(h:ic ob l m):ic ob (s::l) (s::m):=.cons (.refl s) h
theorem bo(h:ic ob l m)(hd:s.gW=some d:=by exact rfl):ic ob (s::l) (.d d::m):=.cons (.gW hd) h
theorem yH:ic ob [] []:=.nil
variable {k:Nat}
theorem LO(h:ic ob l m):ic ob (.d (.v (.slice none 0 0))::l) (.d (.sl k [])::m):=.cons .LB h
variable {ρ:List Nat}
theorem cH:ch ob ρ [] []:=.nil
variable {r:List Ob} {i:Nat} {is:List Nat} {lc:List SV} {ty:TypeId}
theorem bj(hr:ch ob ρ r is)(hi:cY i ob=some (.cells l ty):=by exact rfl)(h:ml ρ lc=some l:=by exact rfl):ch ob ρ (.cells lc ty::r) (i::is):=.cons hi (.cells h (ic.rfl _)) hr
theorem Bi(hf:ic ob l m)(hr:ch ob ρ r is)(hi:cY i ob=some (.cells l ty):=by exact rfl)(h:ml ρ lc=some m:=by exact rfl):ch ob ρ (.cells lc ty::r) (i::is):=.cons hi (.cells h hf) hr
variable {e:TypeId}
theorem cr(hr:ch ob ρ r is)(hi:cY i ob=some (.row e k):=by exact rfl):ch ob ρ (.row e k::r) (i::is):=.cons hi .row hr
theorem qx(hr:ch ob ρ r is)(hi:cY i ob=some (.bX e k):=by exact rfl):ch ob ρ (.row e k::r) (i::is):=.cons hi .Pr hr
theorem Iz(hr:ch ob ρ r is)(hi:cY i ob=some (.bX e k):=by exact rfl):ch ob ρ (.bX e k::r) (i::is):=.cons hi .MJ hr
theorem ya{ls:List (List D)}{q:Option (Option Nat×Nat)}(hr:ch ob ρ r is)(hi:cY i ob=some (.buf e k ls q):=by exact rfl):ch ob ρ (.buf e k ls q::r) (i::is):=.cons hi .buf hr
theorem OA(hr:ch ob ρ r is)(hi:cY i ob=some (.bX e k):=by exact rfl):ch ob ρ (.buf e k [] none::r) (i::is):=.cons hi .NM hr
theorem RB{o:Ob}(hr:ch ob ρ r is)(hi:cY i ob=some o:=by exact rfl):ch ob ρ (.dead::r) (i::is):=.cons hi .dead hr
theorem dC:oD ob ρ sl []:=.nil
theorem ef{s':SV}{r:List (Nat×SV)}(h:s.ja ρ=some s')(hf:Fit ob (oK t sl) s')(hr:oD ob ρ sl r):oD ob ρ sl ((t,s)::r):=.cons h hf hr
theorem aJ{r:List (Nat×SV)}(hr:oD ob ρ sl r)(h:s.ja ρ=some (oK t sl):=by exact rfl):oD ob ρ sl ((t,s)::r):=.cons h (.refl _) hr
theorem mo(hob:ch ob ρ ob' ρ)(hsl:oD ob ρ sl sl')(hp:pre 0 n0 ρ=true:=by exact rfl)(hnd:fA ρ=true:=by exact rfl)(hno:fV ob'=true:=by exact rfl):pH n0 ⟨n,sl,ob⟩ ⟨n,sl',ob'⟩ ρ:=CD hp hnd hno hob hsl
end
end Go.Vd
namespace Go.Vd
open Go Go.RowKit
section
variable {P:Program} {GL:Nat→List D} {n0:Nat} {Pn:pG}
end
end Go.Vd
namespace Go.Vd
open Go Go.RowKit
section
variable {P:Program} {GL:Nat→List D} {o:Oper} {σ:St} {K:SV→List Nat→Prop}
def Lj(m n:Int):Int:=IntKind.wrap .u8 (m-n)
theorem LP{T T':TypeId}{x y:Operand}{m n:Int}(ho:o.op=.binOp .sub T x y T')(hx:bT GL σ.sl x=some (.d (.v (.int .u8 m))))(hy:bT GL σ.sl y=some (.d (.v (.int .u8 n))))(hK:K (.d (.v (.int .u8 (Lj m n)))) []):ak P GL o σ K:=
 gU ho hx hy rfl (by simp) (fun w=>by simp only[binOp,Op.intArith,ne_eq,not_true_eq_false,if_false];rfl) hK
end
variable {c:Int}
theorem DX(h:48≤c∧c≤57):Lj c 48=c-48:=by
 unfold Lj IntKind.wrap;simp[IntKind.bits,IntKind.signed];omega
theorem DM(h:0≤c∧c≤255):IntKind.wrap .i64 c=c:=by
 unfold IntKind.wrap;simp[IntKind.bits,IntKind.signed];omega
end Go.Vd
namespace Go.Vd
open Go Go.RowKit
theorem Fp(s:ByteArray):(s.data.toList.map fun c=>(c.toNat:Int)).foldl (fun r n=>r.push (UInt8.ofNat n.toNat)) ByteArray.empty=s:=by
 have h:∀(l:List UInt8) (r:ByteArray),(l.map fun c=>(c.toNat:Int)).foldl (fun r n=>r.push (UInt8.ofNat n.toNat)) r=⟨⟨r.data.toList++l⟩⟩:=by
  intro l
  induction l with
  |nil=>intro r;simp
  |cons c l ih=>
   intro r;simp only[List.map_cons,List.foldl_cons];rw[ih];simp[ByteArray.push]
 rw[h];rfl
theorem Bc{P:Program}{GL:Nat→List D}{o:Oper}{σ:St}{K:SV→List Nat→Prop}{src dst e:TypeId}{x:Operand}{s:ByteArray}{i:Nat}{ls:List (List D)}(hu:P.underlying src=some (.slice e))(he:P.underlying e=some (.int .u8))(hd:P.underlying dst=some .string)(ho:o.op=.convert src dst x)
 (hx:bT GL σ.sl x=some (.own i 1 ls)) (hls:ls=nO s) (hne:s≠ .empty) (hK:K (.d (.v (.string s))) []):ak P GL o σ K:=fun B g a w hr=>by
 subst hls;obtain⟨ad,cap,h1,hc,hd'⟩:(D.sl 1 (nO s)).Den g.m (a.eval x):=wT (hr.fk hx);obtain⟨b,off,rfl,hd2⟩:=hd' (Iy hne);have hm:∀(j:Nat) c,s.data.toList[j]? =some c→g.m b (off+j)=some (.int .u8 c.toNat):=fun j c hj=>by
  have hj2:(nO s)[j]? =some [.v (.int .u8 c.toNat)]:=by simp only[nO,List.getElem?_map,hj,Option.map_some]
  obtain⟨⟨y,hy,hyd⟩,_⟩:=(hd2.get hj2).2;rw[Nat.mul_one] at hy;rw[hy];exact congrArg some hyd
 refine⟨s.data.toList.zipIdx.map fun p=>(⟨b,off+p.2,none⟩,.int .u8 p.1.toNat),.d (.v (.string s)),.string s,[],fun w' hcw=>?_,fun p hp=>?_,fun p hp=>?_,rfl,hK⟩
 ·have hl:(loadCells ⟨b,off,none⟩ (nO s).length).run P w'=.ok ((s.data.toList.map fun c=>(c.toNat:Int)).map (Value.int .u8)).toArray w':=by
   have:=run_loadCells_list (P:=P) w' ⟨b,off,none⟩ ((s.data.toList.map fun c=>(c.toNat:Int)).map (Value.int .u8)) (fun j v hj=>by
    rw[fG];simp only[List.getElem?_map] at hj;cases hjc:s.data.toList[j]? with
    |none=>rw[hjc] at hj;cases hj
    |some c=>
     rw[hjc] at hj;simp only[Option.map_some,Option.some.injEq] at hj;subst hj;exact hcw _ (List.mem_map.2 ⟨(c,j),List.mem_zipIdx_iff_getElem?.2 hjc,rfl⟩))
   simpa[nO] using this
  simp only[execOp,ho,h1,Sem.run_bind,run_convert_bytes_string w' src dst e _ _ _ hu he hd,run_bytesToString w' _ _ _ _ hl,Result.andThen_ok,Fp];rfl
 ·obtain ⟨⟨c,j⟩,hq,rfl⟩:=List.mem_map.1 hp;rw[List.mem_zipIdx_iff_getElem?] at hq;exact(hr.store.sat _ _ _ (hm j c hq)).1
 ·obtain ⟨⟨c,j⟩,hq,rfl⟩:=List.mem_map.1 hp;rw[List.mem_zipIdx_iff_getElem?] at hq;exact⟨rfl,.inl (hm j c hq)⟩
end Go.Vd
namespace Go.Vd
open Go Go.RowKit
end Go.Vd
namespace Go.Vd
open Go Go.RowKit
theorem dI.split{m:Mem}:∀{l r:List D} {vs:List Value},dI m (l++r) vs→dI m l (vs.take l.length)∧dI m r (vs.drop l.length)
 |[],r,vs,h=>by simpa[dI] using h
 |d::l,r,vs,h=>by
  obtain⟨x,l',e,h1,h2⟩:=h;subst e;have ih:=dI.split h2;exact⟨⟨x,_,by simp,h1,ih.1⟩,by simpa using ih.2⟩
theorem Gz{m:Mem}{k:Nat}:∀{ls:List (List D)} {xs:List Value} {r:Nat} {el:List D},(∀ x∈ls,x.length=k)→dI m ls.flatten xs→ls[r]? =some el→dI m el ((xs.drop (r*k)).take k)
 |[],_,r,el,_,_,h=>by simp at h
 |a::ls,xs,0,el,hk,hd,h=>by
  simp at h;subst h;have:=(dI.split (l:=a) (r:=ls.flatten) (by simpa using hd)).1;rw[hk a (by simp)] at this
  simpa using this
 |a::ls,xs,r+1,el,hk,hd,h=>by
  have h2:=(dI.split (l:=a) (r:=ls.flatten) (by simpa using hd)).2;rw[hk a (by simp)] at h2;have:=Gz (fun x hx=>hk x (by simp[hx])) h2 (r:=r) (by simpa using h);rw[List.drop_drop] at this
  rwa [show(r+1)*k=k+r*k by rw[Nat.add_mul];omega]
theorem vv{k:Nat}:∀{ls:List (List D)},(∀ x∈ls,x.length=k)→ls.flatten.length=ls.length*k
 |[],_=>by simp
 |a::ls,h=>by
  simp only[List.flatten_cons,List.length_append,List.length_cons];rw[h a (by simp),vv fun x hx=>h x (by simp[hx]),Nat.add_mul];omega
theorem Gy{m:Mem}{k:Nat}:∀{ls:List (List D)} {xs:List Value} {r:Nat} {ds:List D} {vs:List Value},(∀ x∈ls,x.length=k)→dI m ls.flatten xs→r<ls.length→ds.length=k→dI m ds vs→dI m (ls.set r ds).flatten (xs.take (r*k)++vs++xs.drop (r*k+k))
 |[],_,r,_,_,_,_,h,_,_=>by simp at h
 |a::ls,xs,0,ds,vs,hk,hd,_,hl,hv=>by
  have h2:=(dI.split (l:=a) (r:=ls.flatten) (by simpa using hd)).2;rw[hk a (by simp)] at h2
  simpa using hv.append h2
 |a::ls,xs,r+1,ds,vs,hk,hd,h,hl,hv=>by
  have h1:=dI.split (l:=a) (r:=ls.flatten) (by simpa using hd);rw[hk a (by simp)] at h1;have ih:=Gy (fun x hx=>hk x (by simp[hx])) h1.2 (r:=r) (ds:=ds) (vs:=vs) (by simpa using h) hl hv;have hx:=h1.1.length;have e:xs.take ((r+1)*k)++vs++xs.drop ((r+1)*k+k)=xs.take k++((xs.drop k).take (r*k)++vs++(xs.drop k).drop (r*k+k)):=by
   rw[List.drop_drop,show(r+1)*k+k=k+(r*k+k) by rw[Nat.add_mul];omega,show(r+1)*k=k+r*k by rw[Nat.add_mul];omega,List.take_add];simp only[List.append_assoc]
  rw[List.set_cons_succ,List.flatten_cons,e];exact h1.1.append ih
theorem pW{α:Type}(z:List α):∀(n i:Nat),i<n*z.length→(List.replicate n z).flatten[i]? =z[i%z.length]?
 |0,i,h=>by omega
 |n+1,i,h=>by
  rw[List.replicate_succ,List.flatten_cons,List.getElem?_append];split
  ·rename_i hi;rw[Nat.mod_eq_of_lt hi]
  ·rename_i hi;rw[pW z n _ (by rw[Nat.add_mul] at h;omega)];rw[Nat.mod_eq_sub_mod (by omega:z.length≤i)]
variable {k:Nat}
theorem uA{z:Array Value}(hz:z.size=k)(n:Nat):(madeCells z (n*k)).toList=(List.replicate n z.toList).flatten:=by
 apply List.ext_getElem?;intro i;by_cases hi:i<n*k
 ·have h0:0<k:=Nat.pos_of_ne_zero fun h=>by rw[h,Nat.mul_zero] at hi;omega
  have hm:i%z.size<z.size:=Nat.mod_lt _ (by omega);have hl:z.toList.length=k:=by simp[hz]
  rw[pW _ n i (by rw[hl];exact hi)];simp only[madeCells,Array.toList_map,Array.toList_range,List.getElem?_map,List.getElem?_range hi,Option.map_some,hl];rw[getElem!_pos z _ hm,Array.getElem?_toList,Array.getElem?_eq_getElem (by rw[← hz];exact hm)];simp only[hz]
 ·rw [List.getElem?_eq_none (by rw[Array.length_toList,size_madeCells];omega),List.getElem?_eq_none];rw[List.length_flatten,List.map_replicate,List.sum_replicate_nat];simp only[Array.length_toList,hz];omega
section
variable {P:Program} {GL:Nat→List D} {n0:Nat} {Pn:pG} {o:Oper}
variable {σ:St} {T:TypeId} {x:Operand} {m:Nat}
theorem gI{K:SV→List Nat→Prop}{i:Nat}(hu:P.underlying T=some (.slice (bl P T).elem))(ho:o.op=.call { callee:=.builtin .len,args:= #[x],argTypes:= #[T] })
 (hx:bT GL σ.sl x=some (.arr i m)) (hK:K (.d (.v (.int .i64 m))) []):ak P GL o σ K:=eg fun B g a w hr=>by
 obtain⟨b,cap,_,h1⟩:=hr.fk hx;exact⟨.d (.v (.int .i64 m)),.int .i64 m,fun w'=>by simp[execOp,ho,h1,resolve,invoke,builtin,Builtin.len_,run_underlying hu,goInt],rfl,hK⟩
variable {ob:List Ob} {g:Gh} {w:World} {q cap:Nat} {b:Option Nat}
theorem sP(hs:cX GL ob g w){e:Nat}{ls:List (List D)}{pq:Option (Option Nat×Nat)}(hi:ob[q]? =some (.buf e k ls pq))(hp:g.gs[q]? =some (.row b cap m)):
 m=ls.length∧(∀ x∈ls,x.length=k)∧(∃ xs,w.ownsRow 0 e k (.slice (b.map fun c=>⟨c,0,none⟩) m cap) m xs∧dI g.m ls.flatten xs∧∀u∈xs,u.oneCell'=true)∧∀c,b=some c→∀o,g.m c o=none:=⟨(hs.gX _ _ _ hi hp).1,(hs.gX _ _ _ hi hp).2.1,(hs.gX _ _ _ hi hp).2.2.1,(hs.gX _ _ _ hi hp).2.2.2.1⟩
theorem Oz(hs:cX GL ob g w){e:Nat}{ls:List (List D)}{r:Option Nat×Nat}(hi:ob[q]? =some (.buf e k ls (some r)))(hp:g.gs[q]? =some (.row b cap m)):r=(b,cap):=(hs.gX _ _ _ hi hp).2.2.2.2 r rfl
variable {e:TypeId} {ti:TI}
theorem dL{pq:Option (Option Nat×Nat)}{K:SV→List Nat→Prop}{i:Operand}{ls:List (List D)}{j:Int}{kd:IntKind}(hu:P.underlying T=some (.slice (bl P T).elem))(hT:bl P (bl P T).elem=ti)(hok:ti.ok=true)(hs:ti.size=k)(ho:o.op=.indexAddr T x i)
 (hx:bT GL σ.sl x=some (.arr q m)) (hi:bT GL σ.sl i=some (.d (.v (.int kd j)))) (hq:cY q σ.ob=some (.buf e k ls pq)) (h01:0≤j∧j<m) (hK:K (.bp q (j.toNat*k)) []):ak P GL o σ K:=eg fun B g a w hr=>by
 obtain⟨h0,h1⟩:=h01;obtain⟨b,cap,hb,hv⟩:=hr.fk hx;obtain⟨hm,_,⟨xs,hown,_⟩,_⟩:=sP hr.store (bR hq) hb;cases b with
 |none=>
  exfalso
  rcases hown.2 with⟨_,h2⟩|⟨g0,c0,cur,h2,_⟩
  ·omega
  ·cases h2
 |some b=>
  have h2:a.eval i=.int kd j:=hr.fk hi;rw[← hT] at hok;obtain⟨inf,d,hi',hd',hs',_⟩:=th hok;refine⟨.bp q (j.toNat*k),.pointer (some ⟨b,j.toNat*k,none⟩),fun w'=>?_,⟨b,cap,m,hb,rfl⟩,hK⟩;rw[hT,hs] at hs';simp only[Option.map_some] at hv;simp[execOp,ho,hv,h2,Instr.indexAt,run_underlying hu,asIntOf,h0,h1,sizeOf,typeInfo,hi',←hs',fG]
variable {n t off r:Nat} {sl:List (Nat×SV)} {K:St→Prop} {ty:TypeId}
theorem lk{pq:Option (Option Nat×Nat)}{T:Nat→Prop}{ls:List (List D)}{el:List D}(hT:bl P ty=ti)(hok:ti.ok=true)(hag:ti.agg=true)(ho:o.op=.load ty x)(hd:o.dst=some t)(ht:Nat.blt t n=true)
 (hx:bT GL sl x=some (.bp q off)) (hi:cY q ob=some (.buf e k ls pq)) (hk:ti.size=k) (hoff:off=r*k) (he:ls[r]? =some el) (h:K ⟨n,(t,.d (.agg el))::sl,ob⟩):di P GL n0 Pn T o ⟨n,sl,ob⟩ K:=
 tx hd ht fun B g a w hr=>by
  subst hT;obtain⟨b,cap,m,hb,hv⟩:=hr.fk hx;obtain⟨hm,hl,⟨xs,hown,hdx,_⟩,_⟩:=sP hr.store (bR hi) hb;have hel:=Gz hl hdx he;have hr0:=(List.getElem?_eq_some_iff.1 he).1;have hlen:((xs.drop (r*k)).take k).length=(bl P ty).size:=by rw[hel.length,hk];exact hl el (List.mem_of_getElem? he)
  have hcell:=(qN (b:=b) hown).2;have hrun:=iG hok (w:=w) (b:=b) (off:=off) hlen (fun j y hj=>by
   rw[List.getElem?_take] at hj;split at hj
   ·rw [List.getElem?_drop] at hj;rw[hoff];exact hcell _ y hj
   ·cases hj) (fun hn=>by rw[hag] at hn;cases hn)
  rw[hag] at hrun;exact⟨.d (.agg el),.agg ⟨(xs.drop (r*k)).take k⟩,by simp only[execOp,ho,hv,Instr.loadAt,Instr.sureAddr,Sem.run_bind,Sem.run_pure,hrun,Result.andThen_ok,if_true],⟨_,rfl,hel⟩,h⟩
variable {ob':List Ob}
theorem fO{pq:Option (Option Nat×Nat)}{y:Operand}{s:SV}{cs:List SV}{ds:List D}{ls:List (List D)}(hT:bl P ty=ti)(hok:ti.ok=true)(ho:o.op=.store ty x y)(hd:o.dst=none)
 (hx:bT GL sl x=some (.bp q off)) (hy:bT GL sl y=some s) (hi:cY q ob=some (.buf e k ls pq)) (hk:ti.size=k) (hc:jQ ti.agg s=some cs) (hcd:ub cs=some ds) (hsz:Nat.beq cs.length ti.size=true) (hone:gO cs=true) (hno:gC q ob=true) (hoff:off=r*k∧r<ls.length)
 (hob:gT q (.buf e k (ls.set r ds) pq) ob=some ob') (h:K ⟨n,sl,ob'⟩):di P GL n0 Pn (fun j=>j=q) o ⟨n,sl,ob⟩ K:=fun B hB g a w hr next Q hK hP=>by
 subst hT;obtain⟨hoff,hr0⟩:=hoff;obtain⟨b,cap,m,hb,hpx⟩:=hr.fk hx;have hi':=bR hi;obtain⟨hm,hl,⟨xs,hown,hdx,h1x⟩,hmn⟩:=sP hr.store hi' hb;rcases hown.2 with⟨h2,_⟩|⟨b1,cap1,cur,e1,_,hh,hle,hcm,hcs,htk⟩
 ·cases h2
 simp only[Option.map_some,Value.slice.injEq,Option.some.injEq,Addr.mk.injEq] at e1;obtain⟨⟨rfl,_,_⟩,_,rfl⟩:=e1;obtain⟨ti,d,hinf,hdd,hsi,_⟩:=th hok;have hcd0:=jw hc (hr.fk hy);have hcd1:=bC.gW _ hcd0 hcd;have hcl:=hcd0.length;have hsz':cs.length=(bl P ty).size:=by simpa using hsz
 have hnl:(a.eval y).cells.toList.length=k:=by omega
 have hdl:ds.length=k:=by have:=hcd1.length;omega
 have hin:off+k≤m*k:=by rw[hoff,hm];have:=Nat.mul_le_mul_right k (show r+1≤ls.length by omega);rw[Nat.add_mul] at this;omega
 have hin2:m*k≤cap*k:=Nat.mul_le_mul_right k hle;have hst:=run_storeCells_at (P:=P) b off e (a.eval y).cells.toList 0 cur w hh (by omega) (jK hone hcd0);simp only[Nat.add_zero] at hst;have hrun:(execOp a.eval o).run P w=.ok .skip (w.setRow b (cur.toList.take off++(a.eval y).cells.toList++cur.toList.drop (off+(a.eval y).cells.toList.length)).toArray):=by
  have hsz2:(a.eval y).cells.size=ti.size:=by simpa using(show(a.eval y).cells.toList.length=ti.size by omega)
  simp only[execOp,ho,hpx,Instr.storeAt,Instr.sureAddr,storeVar,sizeOf,typeInfo,Sem.run_bind,Sem.run_pure,Result.andThen_ok,run_program,hinf,hsz2];simp only[ne_eq,not_true_eq_false,if_false];rw[hst];simp
 rw[hnl] at hrun;unfold Oper.wp;rw[hrun];show next (a.put o.dst _) _
 rw[hd];have hcurl:cur.toList.length=cap*k:=by simpa using hcs
 have hxl:=hown.1;have hx1:xs.take off=cur.toList.take off:=by rw[← htk,List.take_take,Nat.min_eq_left (by omega)]
 have hx2:xs.drop (off+k)=(cur.toList.drop (off+k)).take (m*k-(off+k)):=by rw[← htk,List.drop_take]
 have hnew:(w.setRow b (cur.toList.take off++(a.eval y).cells.toList++cur.toList.drop (off+k)).toArray).ownsRow 0 e k (.slice ((some b).map fun c=>⟨c,0,none⟩) m cap) m (xs.take off++(a.eval y).cells.toList++xs.drop (off+k)):=by
  refine⟨?_,.inr ⟨b,cap,_,rfl,Nat.zero_le _,setRow_heap w b _ _ _ _ hh,hle,hcm,?_,?_⟩⟩
  ·simp only[List.length_append,List.length_take,List.length_drop];omega
  ·simp only[List.size_toArray,List.length_append,List.length_take,List.length_drop];omega
  ·rw [hx1,hx2];show List.take (m*k) (cur.toList.take off++(a.eval y).cells.toList++cur.toList.drop (off+k))=_;have hpl:(cur.toList.take off++(a.eval y).cells.toList).length=off+k:=by simp only[List.length_append,List.length_take];omega
   rw[List.take_append,hpl,List.take_of_length_le (by omega)]
 have hset:=eT hob;obtain⟨h1,h2⟩:=hr.Lc (w':=w.setRow b (cur.toList.take off++(a.eval y).cells.toList++cur.toList.drop (off+k)).toArray) (o':=.buf e k (ls.set r ds) pq) hi' hb rfl ⟨rfl,rfl,rfl,by simp,fun c _ hc=>setRow_other w _ _ _ hc⟩
  ⟨by
   rw[List.length_set];exact hm,fun x hx=>by
   rcases List.mem_or_eq_of_mem_set hx with h3|h3
   ·exact hl x h3
   ·rw [h3];exact hdl,⟨_,hnew,by rw[hoff];exact Gy hl hdx hr0 hdl hcd1,fun u hu=>by
   simp only[List.mem_append] at hu;rcases hu with(hu|hu)|hu
   ·exact h1x u (List.mem_of_mem_take hu)
   ·exact jK hone hcd0 u hu
   ·exact h1x u (List.mem_of_mem_drop hu)⟩,hmn,(hr.store.gX _ _ _ hi' hb).2.2.2.2⟩ (.inl rfl) (oU hno) (fun k f dn cur e=>by cases e) (hmn b rfl)
 rw[← hset.1] at h1;exact hK _ _ _ _ h1 h2 h
theorem wU{j:Nat}{T:Nat→Prop}{size bytes:Nat}{c:Nat}(TS:iY P ty e size bytes)(hT:bl P e=ti)(ho:o.op=.makeSlice ty x x)
 (hd:o.dst=some t) (ht:Nat.blt t n=true) (hx:bT GL sl x=some (.d (.v (.int .i64 (c:Nat))))) (hone:ti.zero.all (·.oneCell')=true) (hl:ob.length=j) (hb:bytes*c≤281474976710656∧c≤maxLen) (hob:ib ob [.buf e size (List.replicate c (ti.zero.map .v)) none]=some ob')
 (h:K ⟨n,(t,.arr j c)::sl,ob'⟩):di P GL n0 Pn T o ⟨n,sl,ob⟩ K:=fun B hB g a w hr next Q hK hP=>by
 subst hl hT;obtain⟨hb2,hb3⟩:=hb;rw[fj hob] at h;have hinfo:=TS.info;have hzero:=TS.zero;cases hi:P.info? e with
 |none=>simp[hi] at hinfo
 |some i=>
 rw[hi] at hinfo hzero;simp only[Option.map_some,Option.some.injEq,Prod.mk.injEq,Option.bind_some] at hinfo hzero;cases hz:i.zero with
 |none=>simp[hz] at hzero
 |some z=>
 rw[hz] at hzero;simp only[Option.map_some,Option.some.injEq] at hzero;obtain⟨q1,q2⟩:=hinfo;have hze:(bl P e).zero=z.cells.toList:=by simp[bl,hi,hz]
 rw[hze] at h hone;have hxe:a.eval x=.int .i64 (c:Nat):=hr.fk hx;obtain⟨w',hrun,hown,hgr⟩:=run_make_full (P:=P) w 0 ty e i z size TS.under hi hz q1 .i64 .i64 c (by rw[q2];exact hb2) hb3 (Nat.zero_le _);have hbytes:(i.bytes:Int)*(c:Int)≤281474976710656:=by
  have h:((i.bytes*c:Nat):Int)≤281474976710656:=by rw[q2];omega
  rwa [Int.natCast_mul] at h
 have hrun1:=run_make (P:=P) w ty e i z TS.under hi hz .i64 .i64 (c:Int) (c:Int) (by omega) (Int.le_refl _) hbytes (by simp[maxLen] at hb3;omega);simp only[Int.toNat_natCast] at hrun1;rw[hrun1] at hrun;cases hrun;have hrun2:(execOp a.eval o).run P w=.ok (.value (.slice (some ⟨w.heap.size,0,none⟩) c c)) (w.alloc (.cells (madeCells z.cells (c*i.size)) e)):=by
  simp only[execOp,ho,hxe,Sem.run_bind,hrun1,Result.andThen_ok,Sem.run_pure]
 unfold Oper.wp;rw[hrun2];show next (a.put o.dst _) _
 rw[hd];have hm0:∀o,g.m w.heap.size o=none:=fun o=>by
  cases hx:g.m w.heap.size o with
  |none=>rfl
  |some x=>have:=hr.store.jl hx;omega
 have hone2:∀u∈z.cells.toList,u.oneCell'=true:=fun u hu=>List.all_eq_true.1 hone u hu
 have hflat:((List.replicate c (z.cells.toList.map D.v)).flatten)=((List.replicate c z.cells.toList).flatten).map D.v:=by
  rw[List.map_flatten,List.map_replicate]
 have hdv:∀l:List Value,dI g.m (l.map D.v) l:=fun l=>by
  induction l with
  |nil=>rfl
  |cons x r ih=>exact⟨x,r,rfl,rfl,ih⟩
 rw[uA hzero] at hown;obtain⟨h1,h2⟩:=hr.AK (w':=w.alloc (.cells (madeCells z.cells (c*i.size)) e)) ((Fr.refl _ w).alloc _) (fP.refl _) (fun b o x h1 h2=>by rw[h2] at h1;cases h1) (o':=.buf e size (List.replicate c (z.cells.toList.map .v)) none) (pl:=.row (some w.heap.size) c c)
  ⟨by simp,fun x hx=>by rw[(List.mem_replicate.1 hx).2];simpa using hzero,⟨_,hown,by rw[hflat];exact hdv _,fun u hu=>by
   obtain⟨l,hl,hu⟩:=List.mem_flatten.1 hu;rw[(List.mem_replicate.1 hl).2] at hu;exact hone2 u hu⟩,(fun c hc o=>by cases hc;exact hm0 o),fun r e=>by cases e⟩ (fun b hb=>by simp only[cP,dU,Option.some.injEq] at hb;omega) (fun i f dn cur e=>by cases e)
 refine hK _ _ _ _ (h1.ri (s:=.arr ob.length c) ht ⟨some w.heap.size,c,?_,rfl⟩) ⟨h2.1,fun i b o _=>h2.2 i b o (fun x=>x)⟩ h;show(g.gs++[_])[ob.length]? =_;have hl2:ob.length=g.gs.length:=hr.store.len;rw[hl2];simp
end
end Go.Vd
namespace Go.Vd
open Go Go.RowKit
section
variable {P:Program} {GL:Nat→List D} {n0:Nat} {Pn:pG}
variable {B:Bs} {n i:Nat} {sl sl':List (Nat×SV)} {ob ob1:List Ob} {g:Gh} {a:Act} {w:World}
theorem cE.Gp(h:cE GL B ⟨n,sl,ob⟩ g a w){o:Ob}{pl:Pl}{q:Option (Nat×List (List D))}{ds:List D}(ho:ob[i]? =some o)(hnm:∀f,o≠ .fK f)(hpl:g.gs[i]? =some pl)
 {m':Mem} (hmle:fP g.m m') (hF:Fz i q ds g ⟨m',g.gs⟩) (hsat:∀c off x,m' c off=some x→w.cell? ⟨c,off,none⟩=some x∧x.oneCell'=true) (hnew:∀c off,g.m c off=none→(cP o pl c→False)→m' c off=none)
 (hsl:sn i q ds sl=some sl') (hob:sH i q ds ob=some ob1):cE GL B ⟨n,sl',ob1.set i .dead⟩ ⟨m',g.gs⟩ a w:=by
 have hget:=tH hob;have hil:=(List.getElem?_eq_some_iff.1 ho).1;have hlen:=h.store.len;have hneb:∀(j:Nat) oj pj c,j≠i→ob[j]? =some oj→g.gs[j]? =some pj→cP oj pj c→cP o pl c→False:=fun j oj pj c hj h1 h2 h3 e=>
  hj (h.store.oz j i oj o pj _ c h1 ho h2 hpl h3 e)
 refine⟨h.defers,h.size,fun t=>tG hF hsl (h.da t),?_,?_⟩
 ·refine h.store.step (p:=fun j=>j=i) hmle (fun _ _ h=>h) (fun _ _ _ h=>h) hsat (by simp[hget.1,hlen]) (fun j o1 hj h1=>?_) (fun j k f dn cur h1=>?_) (fun j k f dn cur hj h1 hk=>?_)
   (fun j o1 q c hj h1 h2 h3=>⟨rfl,fun off hn=>?_⟩) (fun j o1 hj h1=>?_) (fun j o1 q c hj h1 h2 h3=>?_) (fun i j oi oj pi pj b hi hj _ _ _ _ _ _=>hi.trans hj.symm)
  ·rw [List.getElem?_set_ne (Ne.symm hj)] at h1;obtain⟨o,e1,e2⟩:=hget.2 j o1 h1;exact⟨o,e1,(Ob.pF hF e2).1⟩
  ·by_cases hj:j=i
   ·subst hj;rw[List.getElem?_set_self (by rw[hget.1];exact hil)] at h1;cases h1
   ·rw [List.getElem?_set_ne (Ne.symm hj)] at h1;obtain⟨o0,e1,e2⟩:=hget.2 j _ h1;have e3:=(Ob.pF hF e2).2.1 _ _ _ _ rfl;subst e3;have e4:=h.store.eD j k f dn cur e1;have hk:k≠i:=fun e=>by subst e;rw[ho] at e4;cases e4;exact hnm f rfl
    rw[List.getElem?_set_ne (Ne.symm hk)];have hkl:=(List.getElem?_eq_some_iff.1 e4).1;obtain⟨o5,e5,e6⟩:=hget.2 k ob1[k] (by simp[hget.1,hkl]);rw[e4] at e5;cases e5;rw[List.getElem?_eq_getElem (by rw[hget.1];exact hkl),(Ob.pF hF e6).2.2 f rfl]
  ·rw [List.getElem?_set_ne (Ne.symm hj)] at h1;obtain⟨o0,e1,e2⟩:=hget.2 j _ h1;have e3:=(Ob.pF hF e2).2.1 _ _ _ _ rfl;subst e3 hk;have e4:=h.store.eD j k f dn cur e1;rw[ho] at e4;cases e4;exact hnm f rfl
  ·exact hnew c off hn (hneb j o1 q c hj h1 h2 h3)
  ·subst hj;rw[List.getElem?_set_self (by rw[hget.1];exact hil)] at h1;cases h1;exact⟨_,hpl,trivial⟩
  ·subst hj;rw[List.getElem?_set_self (by rw[hget.1];exact hil)] at h1;cases h1;cases h3
 ·refine h.fI.step (X:=fun c=>cP o pl c) (Fr.refl _ w) (fun c e=>h.fI.own i _ _ c ho hpl e) hmle (fun c off x hx hn=>?_) (fun j o1 p c h1 h2 h3=>?_) (fun _ _ h=>h)
  ·refine .inl (Classical.byContradiction fun hc=>?_);have:=hnew c off hn hc;simp only at hx;rw[this] at hx;cases hx
  ·by_cases hj:j=i
   ·subst hj;rw[List.getElem?_set_self (by rw[hget.1];exact hil)] at h1;cases h1;cases h3
   ·rw [List.getElem?_set_ne (Ne.symm hj)] at h1;obtain⟨o0,e1,e2⟩:=hget.2 j o1 h1;refine .inl (h.fI.own j o0 p c e1 h2 ?_);cases o0<;>simp only[Ob.fz,Option.bind_eq_some_iff,Option.some.injEq] at e2
    case cells l ty=>obtain⟨l',_,rfl⟩:=e2;cases p<;>exact h3
    all_goals (subst e2;exact h3)
theorem ph{m:Mem}{k b:Nat}:∀{ls:List (List D)} {xs:List Value} {off:Nat},(∀ x∈ls,x.length=k)→dI m ls.flatten xs→(∀ i x,xs[i]? =some x→m b (off+i)=some x)→ey m k b off ls
 |[],_,_,_,_,_=>trivial
 |a::ls,xs,off,hk,hd,hm=>by
  have h1:=dI.split (l:=a) (r:=ls.flatten) (by simpa using hd);have ha:=hk a (by simp);rw[ha] at h1;refine⟨⟨ha,eX.tA h1.1 fun i x hx=>?_⟩,ph (fun x hx=>hk x (by simp[hx])) h1.2 fun i x hx=>?_⟩
  ·rw [List.getElem?_take] at hx;split at hx
   ·exact hm i x hx
   ·cases hx
  ·rw [List.getElem?_drop] at hx;have:=hm _ x hx
   rwa [show off+k+i=off+(k+i) by omega]
variable {e k:Nat}
theorem cE.LN(h:cE GL B ⟨n,sl,ob⟩ g a w){ls:List (List D)}{pq:Option (Option Nat×Nat)}(ho:ob[i]? =some (.buf e k ls pq))
 (hsl:sn i (some (k,ls)) [] sl=some sl') (hob:sH i (some (k,ls)) [] ob=some ob1):∃g',cE GL B ⟨n,sl',ob1.set i .dead⟩ g' a w:=by
 obtain⟨pl,hpl⟩:=h.store.place ho;have hok:=h.store.gX _ _ _ ho hpl;cases pl with
 |loc b=>exact hok.elim
 |row b c m=>
  obtain⟨hm,hl,⟨xs,hown,hdx,h1x⟩,hmn⟩:=sP h.store ho hpl;cases b with
  |none=>
   have hm0:m=0:=by
    rcases hown.2 with⟨_,h2⟩|⟨g0,c0,cur,h2,_⟩
    ·exact h2
    ·cases h2
   have hls:ls=[]:=List.length_eq_zero_iff.1 (by omega);refine⟨⟨g.m,g.gs⟩,h.Gp (q:=some (k,ls)) (ds:=[]) ho (fun f e=>by cases e) hpl (fP.refl _) ⟨fP.refl _,fun _ _ h=>h,fun b hb=>trivial,fun r n y hr hd=>?_⟩ h.store.sat (fun _ _ h _=>h) hsl hob⟩;cases hr;obtain⟨b',cap,hb,e⟩:=hd;rw[hpl] at hb;cases hb;exact⟨none,c,by rw[e,hls,hm0];rfl,by simp[hls],fun h=>absurd hls h⟩
  |some b=>
   have hrow:=qN (b:=b) hown;have hmle:fP g.m (eV g.m b xs):=fP.set fun off x hx=>by rw[hmn b rfl] at hx;cases hx
   refine⟨⟨eV g.m b xs,g.gs⟩,h.Gp (q:=some (k,ls)) (ds:=[]) ho (fun f e=>by cases e) hpl hmle ⟨hmle,fun _ _ h=>h,fun b hb=>trivial,fun r n y hr hd=>?_⟩ (fun c' off x hx=>?_) (fun c' off hn hc=>?_) hsl hob⟩
   ·cases hr;obtain⟨b',cap,hb,e⟩:=hd;rw[hpl] at hb;cases hb;refine⟨some ⟨b,0,none⟩,c,by rw[e,hm];rfl,by rw[← hm];exact hrow.1,fun _=>⟨b,0,rfl,?_⟩⟩;refine ph hl (dI.mono hmle _ hdx) fun i x hx=>?_
    show eV _ _ _ _ _=_;unfold eV;rw[if_pos rfl,Nat.zero_add];exact hx
   ·simp only[eV] at hx;by_cases hcb:c'=b
    ·subst hcb;rw[if_pos rfl] at hx;exact⟨hrow.2 off x hx,h1x x (List.mem_of_getElem? hx)⟩
    ·rw [if_neg hcb] at hx;exact h.store.sat c' off x hx
   ·unfold eV;rw[if_neg (fun e=>hc (by rw[e];rfl))];exact hn
variable {ops l:List Oper} {Q:Ex→St→Prop}
theorem p8{ob':List Ob}(i:Nat){ls:List (List D)}{pq:Option (Option Nat×Nat)}(ho:cY i ob=some (.buf e k ls pq))(hsl:sn i (some (k,ls)) [] sl=some sl')(hob:sH i (some (k,ls)) [] ob=some ob1)(hob':gT i .dead ob1=some ob')
 (h:bA P GL n0 Pn ops l Q ⟨n,sl',ob'⟩):bA P GL n0 Pn ops l Q ⟨n,sl,ob⟩:=fun B hB a w ⟨g,hr⟩=>by
 obtain⟨g',hr'⟩:=hr.LN (bR ho) hsl hob;rw[← (eT hob').1] at hr';exact h B hB a w ⟨g',hr'⟩
def CK(r:Option Nat×Nat)(m:Nat):D:=.v (.slice (r.1.map fun b=>⟨b,0,none⟩) m r.2)
variable {t m:Nat}
theorem cE.Q1(h:cE GL B ⟨n,sl,ob⟩ g a w){ls:List (List D)}{pq:Option (Option Nat×Nat)}(ho:ob[i]? =some (.buf e k ls pq))(ht:gK t sl=some (.arr i m))(htn:Nat.blt t n=true):
 ∃r,cE GL B ⟨n,(t,.d (CK r m))::sl,ob.set i (.buf e k ls (some r))⟩ g a w:=by
 have hd:=h.da t;have hv:(SV.arr i m).Den g (a.tmps.getD t undef):=by rw[← fu ht];exact hd
 obtain⟨b,cap,hb,hval⟩:=hv;have hok:=h.store.gX _ _ _ ho hb;have hil:=(List.getElem?_eq_some_iff.1 ho).1;refine⟨(b,cap),h.defers,h.size,fun t'=>?_,?_,?_⟩
 ·rw [eM];split
  ·rename_i e;subst e;exact hval
  ·exact h.da t'
 ·refine ⟨by simpa using h.store.len,fun j o p h1 h2=>?_,fun j q f dn cur h1=>?_,fun i1 j1 oi oj pi pj c h1 h2 h3 h4 h5 h6=>?_,h.store.sat,h.store.ET⟩
  ·by_cases hj:j=i
   ·subst hj;rw[List.getElem?_set_self hil] at h1;cases h1;rw[hb] at h2;cases h2;exact⟨hok.1,hok.2.1,hok.2.2.1,hok.2.2.2.1,fun r e=>by cases e;rfl⟩
   ·rw [List.getElem?_set_ne (Ne.symm hj)] at h1;exact h.store.gX j o p h1 h2
  ·have hj:j≠i:=fun e=>by subst e;rw[List.getElem?_set_self hil] at h1;cases h1
   rw[List.getElem?_set_ne (Ne.symm hj)] at h1;have h2:=h.store.eD j q f dn cur h1;have hq:q≠i:=fun e=>by subst e;rw[ho] at h2;cases h2
   rw[List.getElem?_set_ne (Ne.symm hq)];exact h2
  ·have key:∀(j:Nat) o p c,(ob.set i (.buf e k ls (some (b,cap))))[j]? =some o→g.gs[j]? =some p→cP o p c→∃o0,ob[j]? =some o0∧cP o0 p c:=fun j o p c h1 h2 h3=>by
    by_cases hj:j=i
    ·subst hj;rw[List.getElem?_set_self hil] at h1;cases h1;exact⟨_,ho,by cases p<;>exact h3⟩
    ·rw [List.getElem?_set_ne (Ne.symm hj)] at h1;exact⟨o,h1,h3⟩
   obtain⟨o1,a1,a2⟩:=key i1 oi pi c h1 h3 h5;obtain⟨o2,b1,b2⟩:=key j1 oj pj c h2 h4 h6;exact h.store.oz i1 j1 o1 o2 pi pj c a1 b1 h3 h4 a2 b2
 ·refine ⟨h.fI.fr,h.fI.mem,h.fI.new,fun j o p c h1 h2 h3=>?_,h.fI.at'⟩;by_cases hj:j=i
  ·subst hj;rw[List.getElem?_set_self hil] at h1;cases h1;exact h.fI.own j _ p c ho h2 (by cases p<;>exact h3)
  ·rw [List.getElem?_set_ne (Ne.symm hj)] at h1;exact h.fI.own j o p c h1 h2 h3
variable {r:Option Nat×Nat}
theorem cE.Nr(h:cE GL B ⟨n,sl,ob⟩ g a w){ls:List (List D)}(ho:ob[i]? =some (.buf e k ls (some r)))(ht:gK t sl=some (.d (CK r m)))(hm:m=ls.length):
 cE GL B ⟨n,(t,.arr i m)::sl,ob⟩ g a w:=by
 obtain⟨p,hp⟩:=h.store.place ho;have hok:=h.store.gX _ _ _ ho hp;cases p with
 |loc b=>exact hok.elim
 |row b cap n'=>
  have hr:=Oz h.store ho hp;subst hr;have hn:n'=ls.length:=hok.1;refine⟨h.defers,h.size,fun t'=>?_,h.store,h.fI⟩;rw[eM];split
  ·rename_i e;subst e;have hd:=h.da t;have hv:a.tmps.getD t undef=.slice (b.map fun b=>⟨b,0,none⟩) m cap:=by
    have:(SV.d (CK (b,cap) m)).Den g (a.tmps.getD t undef):=by rw[← fu ht];exact hd
    exact this
   exact⟨b,cap,by rw[hm,←hn];exact hp,hv⟩
  ·exact h.da t'
theorem Cn(i t:Nat){ls:List (List D)}{pq:Option (Option Nat×Nat)}(ho:cY i ob=some (.buf e k ls pq))(ht:gK t sl=some (.arr i m))(htn:Nat.blt t n=true)
 (h:∀r ob',gT i (.buf e k ls (some r)) ob=some ob'→bA P GL n0 Pn ops l Q ⟨n,(t,.d (CK r m))::sl,ob'⟩):bA P GL n0 Pn ops l Q ⟨n,sl,ob⟩:=fun B hB a w ⟨g,hr⟩=>by
 obtain⟨r,hr'⟩:=hr.Q1 (bR ho) ht htn;have hil:=(List.getElem?_eq_some_iff.1 (bR ho)).1;have hset:∀(j:Nat) (y:Ob) (l:List Ob),j<l.length→gT j y l=some (l.set j y):=by
  intro j
  induction j with
  |zero=>intro y l hl;cases l with
   |nil=>simp at hl
   |cons a r=>rfl
  |succ j ih=>intro y l hl;cases l with
   |nil=>simp at hl
   |cons a r=>simp[gT,ih y r (by simpa using hl)]
 exact h r _ (hset i _ ob hil) B hB a w ⟨g,hr'⟩
theorem oQ(i t:Nat){ls:List (List D)}(ho:cY i ob=some (.buf e k ls (some r)))(ht:gK t sl=some (.d (CK r m)))(hm:m=ls.length)
 (h:bA P GL n0 Pn ops l Q ⟨n,(t,.arr i m)::sl,ob⟩):bA P GL n0 Pn ops l Q ⟨n,sl,ob⟩:=fun B hB a w ⟨g,hr⟩=>h B hB a w ⟨g,hr.Nr (bR ho) ht hm⟩
end
end Go.Vd
namespace Go.Vd
open Go Go.RowKit
section
variable {GL:Nat→List D} {B:Bs} {σ:St} {g:Gh} {a:Act} {w:World}
variable {i n:Nat} {e:TypeId} {sl':List (Nat×SV)} {ob':List Ob}
theorem cE.Qo(h:cE GL B σ g a w){w':World}{o:Ob}{b:Option Nat}{cap:Nat}{k:Nat}{ls ls':List (List D)}{pq:Option (Option Nat×Nat)}(ho:σ.ob[i]? =some o)(hor:o=.buf e k ls pq∨o=.bX e k)(hpl:g.gs[i]? =some (.row b cap n))(hf:Fr (fun c=>b=some c∧o=.buf e k ls pq) w w')
 {m':Mem} (hm:fP g.m m') {c cap' n':Nat} (hc:(b=some c∧o=.buf e k ls pq)∨w.heap.size≤c)
 (hnew:∀d off x,m' d off=some x→g.m d off=none→d=c) (hsat:∀off x,m' c off=some x→w'.cell? ⟨c,off,none⟩=some x∧x.oneCell'=true)
 (hold:∀d off x,b=some d→g.m d off=some x→w'.cell? ⟨d,off,none⟩=some x)
 (hok:eS ⟨m',g.gs.set i (.row (some c) cap' n')⟩ w' (.buf e k ls' none) (.row (some c) cap' n'))
 (hsl:Bo i σ.sl=some sl') (hob:Bp i σ.ob=some ob'):
 cE GL B ⟨σ.n,sl',ob'.set i (.buf e k ls' none)⟩ ⟨m',g.gs.set i (.row (some c) cap' n')⟩ a w'∧tU (fun j=>j=i) σ.ob g w ⟨m',g.gs.set i (.row (some c) cap' n')⟩ w':=by
 have hlen:=h.store.len;have hi:=(List.getElem?_eq_some_iff.1 ho).1;have hob2:=qY hob;have hself:(g.gs.set i (.row (some c) cap' n'))[i]? =some (.row (some c) cap' n'):=List.getElem?_set_self (by omega);have hgs:∀(j:Nat) q,j≠i→g.gs[j]? =some q→(g.gs.set i (.row (some c) cap' n'))[j]? =some q:=fun j q hj hq=>by rw[List.getElem?_set_ne (Ne.symm hj)];exact hq
 have hat:∀(j d:Nat),g.gs[j]? =some (.loc d)→(g.gs.set i (.row (some c) cap' n'))[j]? =some (.loc d):=fun j d hd=>hgs j _ (fun e=>by subst e;rw[hpl] at hd;cases hd) hd
 have hkl:Nj (fun j=>Nat.beq j i) g ⟨m',g.gs.set i (.row (some c) cap' n')⟩:=⟨hm,fun j q hq hj=>hgs j q (fun e=>by subst e;simp at hj) hq,hat⟩;have hbr:∀d,b=some d∧o=.buf e k ls pq→cP o (.row b cap n) d:=fun d hd=>by rw[hd.2,hd.1];rfl
 have hne:∀(j:Nat) oj pj d,j≠i→σ.ob[j]? =some oj→g.gs[j]? =some pj→cP oj pj d→¬(b=some d∧o=.buf e k ls pq)∧d≠c:=fun j oj pj d hj h1 h2 h3=>by
  have h4:¬(b=some d∧o=.buf e k ls pq):=fun hd=>hj (h.store.oz j i oj o pj _ d h1 ho h2 hpl h3 (hbr d hd))
  refine⟨h4,fun e=>?_⟩;subst e;rcases hc with hc|hc
  ·exact h4 hc
  ·have:=h.store.lt h1 h2 h3;omega
 refine⟨⟨h.defers,h.size,fun t=>?_,?_,?_⟩,hm,fun j d oj hj h1 h2 h3=>⟨hat j d h2,hf.block d (h.store.lt h1 h2 (eP h3)) (hne j oj _ d hj h1 h2 (eP h3)).1⟩⟩
 ·show (oK t sl').Den _ _;rw[tE hsl];exact SV.Den.kill hkl _ (h.da t)
 ·refine h.store.step (p:=fun j=>j=i) hm hat hgs (fun d off x hx=>?_) (by simp[hob2.1,hlen]) (fun j o1 hj h1=>?_) (fun j q f dn cur h1=>?_) (fun j q f dn cur hj h1 hk=>?_)
   (fun j o1 q d hj h1 h2 h3=>⟨hf.block d (h.store.lt h1 h2 h3) (hne j o1 q d hj h1 h2 h3).1,fun off hn=>?_⟩) (fun j o1 hj h1=>?_) (fun j o1 q d hj h1 h2 h3=>?_) (fun i j oi oj pi pj b hi hj _ _ _ _ _ _=>hi.trans hj.symm)
  ·by_cases hdc:d=c
   ·subst hdc;exact hsat off x hx
   ·cases hg:g.m d off with
    |none=>exact absurd (hnew d off x hx hg) hdc
    |some y=>
     have e1:=hm d off y hg;simp only at hx;rw[e1] at hx;cases hx;have hs:=h.store.sat d off x hg;refine⟨?_,hs.2⟩;by_cases hbd:b=some d∧o=.buf e k ls pq
     ·exact hold d off x hbd.1 hg
     ·rw [World.cell?_of_block (w:=w) (hf.block d (h.store.jl hg) hbd)];exact hs.1
  ·rw [List.getElem?_set_ne (Ne.symm hj)] at h1;obtain⟨o2,h2,h3⟩:=hob2.2 j o1 h1;exact⟨o2,h2,iV.kO hkl h3⟩
  ·by_cases hj:j=i
   ·subst hj;rw[List.getElem?_set_self (by rw[hob2.1];exact hi)] at h1;cases h1
   ·rw [List.getElem?_set_ne (Ne.symm hj)] at h1;obtain⟨o2,h2,h3⟩:=hob2.2 j _ h1;have h4:o2=.jM q f dn cur:=by
     cases o2<;>simp only[Ob.kO,Option.bind_eq_some_iff,Option.some.injEq] at h3
     case cells=>obtain⟨_,_,h3⟩:=h3;cases h3
     all_goals (cases h3;try rfl)
    subst h4;have h5:=h.store.eD j q f dn cur h2;have hq:q≠i:=fun e=>by subst e;rw[ho] at h5;cases h5;rcases hor with hor|hor<;>cases hor
    rw[List.getElem?_set_ne (Ne.symm hq)];have h6:q<ob'.length:=by rw[hob2.1];exact(List.getElem?_eq_some_iff.1 h5).1
    obtain⟨o3,h7,h8⟩:=hob2.2 q ob'[q] (by simp[h6]);rw[h5] at h7;cases h7;simp[Ob.kO] at h8;rw[List.getElem?_eq_getElem h6,←h8]
  ·rw [List.getElem?_set_ne (Ne.symm hj)] at h1;obtain⟨o2,h2,h3⟩:=hob2.2 j _ h1;have h4:o2=.jM q f dn cur:=by
    cases o2<;>simp only[Ob.kO,Option.bind_eq_some_iff,Option.some.injEq] at h3
    case cells=>obtain⟨_,_,h3⟩:=h3;cases h3
    all_goals (cases h3;try rfl)
   have hk:q=i:=hk;subst h4 hk;have h5:=h.store.eD j _ f dn cur h2;rw[ho] at h5;cases h5;rcases hor with hor|hor<;>cases hor
  ·cases hx:m' d off with
   |none=>exact hx
   |some x=>exact absurd (hnew d off x hx hn) (hne j o1 q d hj h1 h2 h3).2
  ·subst hj;rw[List.getElem?_set_self (by rw[hob2.1];exact hi)] at h1;cases h1;exact⟨_,hself,hok⟩
  ·subst hj;rw[List.getElem?_set_self (by rw[hob2.1];exact hi)] at h1;cases h1;simp only at h2;rw[hself] at h2;cases h2;simp only[cP,dU,Option.some.injEq] at h3;subst h3;rcases hc with hc|hc
   ·exact .inl ⟨_,o,_,rfl,ho,hpl,hbr _ hc⟩
   ·exact .inr hc
 ·have hX:∀d,b=some d∧o=.buf e k ls pq→B.X d∨B.w.heap.size≤d:=fun d hd=>h.fI.own i o _ d ho hpl (hbr d hd)
  refine h.fI.step hf hX hm (fun d off x hx hn=>by
   have:=hnew d off x hx hn;subst this;exact hc) (fun j o1 p d h1 h2 h3=>?_) hat
  by_cases hj:j=i
  ·subst hj;rw[List.getElem?_set_self (by rw[hob2.1];exact hi)] at h1;cases h1;simp only at h2;rw[hself] at h2;cases h2;simp only[cP,dU,Option.some.injEq] at h3;subst h3;rcases hc with hc|hc
   ·exact .inl (hX _ hc)
   ·exact .inr hc
  ·rw [List.getElem?_set_ne (Ne.symm hj)] at h1;simp only at h2;rw[List.getElem?_set_ne (Ne.symm hj)] at h2;obtain⟨o2,h4,h5⟩:=hob2.2 j o1 h1;refine .inl (h.fI.own j o2 p d h4 h2 ?_);rcases(iV.kO hkl h5).cb h3 (fun _ _=>trivial) with h6|⟨e',k',rfl⟩
   ·exact h6
   ·simp [Ob.kO] at h5;subst h5;simp[cP,dU] at h3
end
section
variable {P:Program} {GL:Nat→List D} {n0:Nat} {Pn:pG}
theorem uX{m:Mem}{k b:Nat}:∀{news:List (List D)} {off:Nat},ey m k b off news→∃nv,nv.length=news.length*k∧dI m news.flatten nv∧(∀ i x,nv[i]? =some x→m b (off+i)=some x)∧∀e∈news,e.length=k
 |[],off,_=>⟨[],by simp,rfl,by simp,by simp⟩
 |e::r,off,⟨⟨h0,h1⟩,h2⟩=>by
  obtain⟨vs,hv,hc⟩:=h1.G1;obtain⟨nv,h3,h4,h5,h6⟩:=uX h2;have hl:=hv.length;refine⟨vs++nv,by simp[h3,hl,h0,Nat.add_mul];omega,by simpa using hv.append h4,fun i x hx=>?_,fun a ha=>by
   rcases List.mem_cons.1 ha with rfl|ha
   ·exact h0
   ·exact h6 a ha⟩
  rw[List.getElem?_append] at hx;split at hx
  ·exact hc i x hx
  ·have:=h5 _ x hx
   rwa [show off+k+(i-vs.length)=off+i by omega] at this
variable {o:Oper} {n t i m size bytes:Nat} {sl sl':List (Nat×SV)} {ob ob1 ob':List Ob} {K:St→Prop} {ty e:TypeId} {s x:Operand} {sx:SV}
theorem wY{ls news:List (List D)}{pq:Option (Option Nat×Nat)}{or:Ob}(TS:iY P ty e size bytes)(ho:o.op=.call { callee:=.builtin .append,args:= #[s,x],argTypes:= #[ty,ty] })
 (hd:o.dst=some t) (ht:Nat.blt t n=true) (hs:(bT GL sl s=some (.arr i m)∧or=.buf e size ls pq)∨(bT GL sl s=some (.d (.v (.slice none 0 0)))∧ls=[]∧or=.bX e size)) (hi:cY i ob=some or) (hx:bT GL sl x=some sx) (hxD:sx.gW=some (.sl size news))
 (hsz:0<size) (hne:news≠[]) (h63:ls.length+news.length≤maxLen∧(ls.length+news.length)*bytes≤140737488355328) (hsl:Bo i sl=some sl') (hob:Bp i ob=some ob1) (hob':gT i (.buf e size (ls++news) none) ob1=some ob')
 (h:K ⟨n,(t,.arr i (ls++news).length)::sl',ob'⟩):di P GL n0 Pn (fun j=>j=i) o ⟨n,sl,ob⟩ K:=fun B hB g a w hr next Q hK hP=>by
 have hi':=bR hi;rw[(eT hob').1] at h;have hrow:∃b cap xs,g.gs[i]? =some (.row b cap ls.length)∧a.eval s=.slice (b.map fun b=>⟨b,0,none⟩) ls.length cap∧w.ownsRow 0 e size (a.eval s) ls.length xs∧dI g.m ls.flatten xs∧(∀ u∈xs,u.oneCell'=true)∧(∀ c,b=some c→∀o,g.m c o=none)∧(∀ x∈ls,x.length=size):=by
  rcases hs with⟨hs,rfl⟩|⟨hs,rfl,rfl⟩
  ·obtain ⟨b,cap,h1,h2⟩:=hr.fk hs;obtain⟨hm,hl,⟨xs,hown,hdx,h1x⟩,hmn⟩:=sP hr.store hi' h1;subst hm;exact⟨b,cap,xs,h1,h2,by rw[h2];exact hown,hdx,h1x,hmn,hl⟩
  ·have hv:a.eval s=.slice none 0 0:=hr.fk hs;obtain⟨p,hp⟩:=hr.store.place hi';have hok:=hr.store.gX _ _ _ hi' hp;simp only[eS] at hok;subst hok;exact⟨none,0,[],hp,hv,by rw[hv];exact⟨by simp,.inl ⟨rfl,rfl⟩⟩,rfl,(by simp),(fun c hc=>by cases hc),(by simp)⟩
 obtain⟨b,cap,xs,hpl,hval,hown,hdx,h1x,hmn,hll⟩:=hrow;obtain⟨ax,capx,hvx,hlx,hdx0⟩:=SV.Den.gW _ (hr.fk hx) hxD;obtain⟨bx,offx,rfl,hdx2⟩:=hdx0 hne;obtain⟨nv,hnl,hnd,hnv,hnk⟩:=uX hdx2;have hm:0<news.length:=List.length_pos_iff.2 hne;have hncell:∀j u,nv[j]? =some u→w.cell? ((⟨bx,offx,none⟩:Addr).add j)=some u:=fun j u hu=>by
  rw[fG];exact(hr.store.sat _ _ _ (hnv j u hu)).1
 have hnone:∀u∈nv,u.oneCell'=true:=fun u hu=>by
  obtain⟨j,hj⟩:=List.getElem?_of_mem hu;exact(hr.store.sat _ _ _ (hnv j u hj)).2
 obtain⟨v',w',hrun,hrow',hfr0,k,hk1,hk2,hk3,c',rfl⟩:=FZ (P:=P) (ty:=o.type) TS hsz hown (a:=⟨bx,offx,none⟩) (c:=capx) hnl hm hncell hnone h63.1 h63.2;have hrun2:(execOp a.eval o).run P w=.ok (.value (.slice (some ⟨k,0,none⟩) (ls.length+news.length) c')) w':=by
  unfold execOp;simp only[ho,resolve,invoke,builtin,Sem.run_bind,Sem.run_pure,Result.andThen_ok,List.map_toArray,List.map_cons,List.map_nil,hvx,hrun]
 unfold Oper.wp;rw[hrun2];show next (a.put o.dst _) _
 rw[hd];have hob2:(a.eval s).ownBlock=b:=by rw[hval];cases b<;>rfl
 rw[hob2] at hk2;have hnk0:∀off,g.m k off=none:=fun off=>by
  rcases hk2 with h5|h5
  ·exact hmn k h5 off
  ·cases hx:g.m k off with
   |none=>rfl
   |some y=>have:=hr.store.jl hx;omega
 have hbo:∀d,b=some d→or=.buf e size ls pq:=fun d hd=>by
  rcases hs with⟨_,h6⟩|⟨_,_,rfl⟩
  ·exact h6
  ·have hok:=hr.store.gX _ _ _ hi' hpl;simp only[eS,Pl.row.injEq] at hok;rw[hok.1] at hd;cases hd
 have hor:or=.buf e size ls pq∨or=.bX e size:=by
  rcases hs with⟨_,h6⟩|⟨_,_,h6⟩
  ·exact .inl h6
  ·exact .inr h6
 have hfr2:Fr (fun c=>b=some c∧or=.buf e size ls pq) w w':=hfr0.mono fun c _ hc=>by
  have h8:b=some c:=by rw[← hob2];exact hc.1
  exact⟨h8,hbo c h8⟩
 have hcor:(b=some k∧or=.buf e size ls pq)∨w.heap.size≤k:=by
  rcases hk2 with h5|h5
  ·exact .inl ⟨h5,hbo k h5⟩
  ·exact .inr (by omega)
 obtain⟨h1,h2⟩:=hr.Qo (w':=w') (m':=g.m) (cap':=c') (n':=ls.length+news.length) (ls':=ls++news) hi' hor hpl hfr2 (fP.refl _) hcor (fun d off y h1 h2=>by rw[h2] at h1;cases h1) (fun off y hy=>by rw[hnk0] at hy;cases hy) (fun d off y hd hy=>by rw[hmn d hd] at hy;cases hy)
  ⟨by simp,fun y hy=>by
   rcases List.mem_append.1 hy with hy|hy
   ·exact hll y hy
   ·exact hnk y hy,⟨xs++nv,hrow',by rw[List.flatten_append];exact hdx.append hnd,fun u hu=>by
   rcases List.mem_append.1 hu with hu|hu
   ·exact h1x u hu
   ·exact hnone u hu⟩,(fun c hc off=>by cases hc;exact hnk0 off),fun r e=>by cases e⟩ hsl hob
 refine hK _ _ _ _ (h1.ri (s:=.arr i (ls++news).length) ht ⟨some k,c',?_,by rw[List.length_append];rfl⟩) h2 h;show(g.gs.set i _)[i]? =_;rw[List.getElem?_set_self (List.getElem?_eq_some_iff.1 hpl).1,List.length_append]
theorem nL{ls news:List (List D)}{pq:Option (Option Nat×Nat)}(TS:iY P ty e size bytes)(ho:o.op=.call { callee:=.builtin .append,args:= #[s,x],argTypes:= #[ty,ty] })
 (hd:o.dst=some t) (ht:Nat.blt t n=true) (hs:bT GL sl s=some (.arr i m)) (hi:cY i ob=some (.buf e size ls pq)) (hx:bT GL sl x=some sx) (hxD:sx.gW=some (.sl size news))
 (hsz:0<size) (hne:news≠[]) (h63:ls.length+news.length≤maxLen∧(ls.length+news.length)*bytes≤140737488355328) (hsl:Bo i sl=some sl') (hob:Bp i ob=some ob1) (hob':gT i (.buf e size (ls++news) none) ob1=some ob')
 (h:K ⟨n,(t,.arr i (ls++news).length)::sl',ob'⟩):di P GL n0 Pn (fun j=>j=i) o ⟨n,sl,ob⟩ K:=wY TS ho hd ht (.inl ⟨hs,rfl⟩) hi hx hxD hsz hne h63 hsl hob hob' h
end
end Go.Vd
namespace Go.Vd
open Go Go.RowKit
variable {cap:Nat}
theorem BH{m:Mem}{k:Nat}{ls:List (List D)}{ad:Option Addr}(l h:Nat)(hlh:l≤h)(hh:h≤ls.length)(hcap:ls.length≤cap)(hden:ls≠[]→∃b off,ad=some ⟨b,off,none⟩∧ey m k b off ls):
 (D.sl k ((ls.drop l).take (h-l))).Den m (.slice (if cap=l then ad else ad.map (·.add (l*k))) (h-l) (cap-l)):=by
 have hlen:((ls.drop l).take (h-l)).length=h-l:=by rw[List.length_take,List.length_drop];omega
 refine⟨_,cap-l,by rw[hlen],by omega,fun hne=>?_⟩;have hl:l<h:=by
  rcases Nat.lt_or_ge l h with h1|h1
  ·exact h1
  ·exact absurd (List.eq_nil_of_length_eq_zero (by omega)) hne
 obtain⟨b,off,rfl,hd⟩:=hden (by intro e;rw[e] at hh;simp at hh;omega);rw[if_neg (by omega)];refine⟨b,off+l*k,by rw[Option.map_some,fG],(hd.drop _).take _⟩
section
variable {P:Program} {GL:Nat→List D} {o:Oper} {σ:St} {K:SV→List Nat→Prop} {T:TypeId} {x lo hi:Operand} {k:Nat} {ls ls':List (List D)} {l h:Int} {k1 k2:IntKind} {s:SV} {ti:TI}
theorem jH(hu:P.underlying T=some (.slice (bl P T).elem))(hT:bl P (bl P T).elem=ti)(hok:ti.ok=true)(hs:ti.size=k)
 (ho:o.op=.slice T x (some lo) none none) (hx:bT GL σ.sl x=some s) (hxD:s.gW=some (.sl k ls)) (hl:bT GL σ.sl lo=some (.d (.v (.int k1 l)))) (hb:0≤l∧l≤ls.length)
 (hls:ls.drop l.toNat=ls') (hK:K (.d (.sl k ls')) []):ak P GL o σ K:=eg fun B g a w hr=>by
 obtain⟨ad,cap,e1,hcap,hden⟩:=SV.Den.gW _ (hr.fk hx) hxD;have e2:a.eval lo=.int k1 l:=hr.fk hl;rw[← hT] at hok hs;obtain⟨inf,d,hi',hd',hs',_⟩:=th hok;rw[hs] at hs';have hp:=BH l.toNat ls.length (by omega) (Nat.le_refl _) hcap hden;rw[List.take_of_length_le (by rw[List.length_drop];omega),hls] at hp;refine⟨.d (.sl k ls'),_,fun w'=>?_,hp,hK⟩;have h3:=jm (P:=P) (kd:=k1) (i:=l) (y:=ls.length) (c:=.sliceB) (by omega) (by omega) w';simp only[execOp,ho,e1,e2,Option.map_some,Option.map_none,Sem.run_bind];simp[Instr.sliceAt,Instr.slice,run_underlying hu,Instr.sliceBounds,h3,sizeOf,typeInfo,hi',←hs']
theorem fD(hu:P.underlying T=some (.slice (bl P T).elem))(hT:bl P (bl P T).elem=ti)(hok:ti.ok=true)(hs:ti.size=k)
 (ho:o.op=.slice T x none (some hi) none) (hx:bT GL σ.sl x=some s) (hxD:s.gW=some (.sl k ls)) (hh:bT GL σ.sl hi=some (.d (.v (.int k2 h)))) (hb:0≤h∧h≤ls.length)
 (hls:ls.take h.toNat=ls') (hK:K (.d (.sl k ls')) []):ak P GL o σ K:=eg fun B g a w hr=>by
 obtain⟨ad,cap,e1,hcap,hden⟩:=SV.Den.gW _ (hr.fk hx) hxD;have e3:a.eval hi=.int k2 h:=hr.fk hh;rw[← hT] at hok hs;obtain⟨inf,d,hi',hd',hs',_⟩:=th hok;rw[hs] at hs';have hp:=BH 0 h.toNat (by omega) (by omega) hcap hden;rw[List.drop_zero,Nat.sub_zero,Nat.zero_mul,hls] at hp;refine⟨.d (.sl k ls'),_,fun w'=>?_,hp,hK⟩;have h2:=jm (P:=P) (kd:=k2) (i:=h) (y:=cap) (c:=.sliceAcap) (by omega) (by omega) w';simp only[execOp,ho,e1,e3,Option.map_some,Option.map_none,Sem.run_bind];simp[Instr.sliceAt,Instr.slice,run_underlying hu,Instr.sliceBounds,h2,sizeOf,typeInfo,hi',←hs']
variable {w:World} {ty e:TypeId} {size bytes n:Nat}
theorem Jj{ty':TypeId}{base a:Option Addr}{cap':Nat}(TS:iY P ty e size bytes)(hle:n≤cap):(Builtin.append_ #[ty,ty] ty' #[.slice base n cap,.slice a 0 cap']).run P w=.ok (.slice base n cap) w:=by
 obtain⟨i,hi,hi2⟩:=Option.map_eq_some_iff.1 TS.info;refine run_append_nothing w ty ty ty' e i TS.under hi base n cap hle _ ?_;cases a with
 |none=>exact Src.ofNil w TS.under cap'
 |some a=>exact Src.ofSlice w TS.under a 0 cap' [] (by simp) (by simp) (by simp)
end
variable {n i:Nat} {sl sl':List (Nat×SV)} {ob ob1:List Ob} {w:World} {e:TypeId}
theorem cE.QQ{P:Program}{GL:Nat→List D}{B:Bs}{g:Gh}{a:Act}(h:cE GL B ⟨n,sl,ob⟩ g a w){o:Ob}{k:Nat}(ho:ob[i]? =some o)(hor:o=.row e k∨o=.bX e k)
 (hsl:Bo i sl=some sl') (hob:Bp i ob=some ob1):cE GL B ⟨n,sl',ob1.set i (.row e k)⟩ g a w:=by
 have hkl:Nj (fun j=>Nat.beq j i) g g:=⟨fP.refl _,fun _ _ h _=>h,fun _ _ h=>h⟩;have hob2:=qY hob;have hi:=(List.getElem?_eq_some_iff.1 ho).1;have hlen:=h.store.len;have hself:(ob1.set i (.row e k))[i]? =some (.row e k):=List.getElem?_set_self (by omega);have hrow:∀p,g.gs[i]? =some p→iV g g o (.row e k):=fun p hp=>by rcases hor with rfl|rfl<;>exact⟨rfl,rfl⟩
 have hle:∀(j:Nat) o',(ob1.set i (.row e k))[j]? =some o'→∃o,ob[j]? =some o∧iV g g o o':=fun j o' hj=>by
  by_cases hji:j=i
  ·subst hji;rw[hself] at hj;cases hj;obtain⟨p,hp⟩:=h.store.place ho;exact⟨o,ho,hrow p hp⟩
  ·rw [List.getElem?_set_ne (Ne.symm hji)] at hj;obtain⟨o2,h2,h3⟩:=hob2.2 j o' hj;exact⟨o2,h2,iV.kO hkl h3⟩
 refine⟨h.defers,h.size,fun t=>?_,?_,?_⟩
 ·show (oK t sl').Den _ _;rw[tE hsl];exact SV.Den.kill hkl _ (h.da t)
 ·refine h.store.step (p:=fun _=>False) (fP.refl _) (fun _ _ h=>h) (fun _ _ _ h=>h) h.store.sat (by rw[List.length_set,hob2.1];exact hlen) (fun j o' _ hj=>hle j o' hj) (fun j q f dn cur h1=>?_) (fun _ _ _ _ _ _ _ h=>h)
   (fun _ _ _ _ _ _ _ _=>⟨rfl,fun _ h=>h⟩) (fun _ _ h=>h.elim) (fun _ _ _ _ h=>h.elim) (fun _ _ _ _ _ _ _ h=>h.elim)
  by_cases hj:j=i
  ·subst hj;rw[hself] at h1;cases h1
  ·rw [List.getElem?_set_ne (Ne.symm hj)] at h1;obtain⟨o2,h2,h3⟩:=hob2.2 j _ h1;have h4:o2=.jM q f dn cur:=by
    cases o2<;>simp only[Ob.kO,Option.bind_eq_some_iff,Option.some.injEq] at h3
    case cells=>obtain⟨_,_,h3⟩:=h3;cases h3
    all_goals (cases h3;try rfl)
   subst h4;have h5:=h.store.eD j q f dn cur h2;have hq:q≠i:=fun e=>by subst e;rw[ho] at h5;cases h5;rcases hor with hor|hor<;>cases hor
   rw[List.getElem?_set_ne (Ne.symm hq)];have h6:q<ob1.length:=by rw[hob2.1];exact(List.getElem?_eq_some_iff.1 h5).1
   obtain⟨o3,h7,h8⟩:=hob2.2 q ob1[q] (by simp[h6]);rw[h5] at h7;cases h7;simp[Ob.kO] at h8;rw[List.getElem?_eq_getElem h6,←h8]
 ·refine ⟨h.fI.fr,h.fI.mem,h.fI.new,fun j o' p b h1 h2 h3=>?_,h.fI.at'⟩;obtain⟨o2,h4,h5⟩:=hle j o' h1;rcases h5.cb h3 (fun _ _=>trivial) with h6|⟨e2,k2,rfl⟩
  ·exact h.fI.own j o2 p b h4 h2 h6
  ·have hok:=h.store.gX j _ p h4 h2;simp only[eS] at hok;subst hok;cases o'<;>first|exact False.elim h5|(simp[cP,dU] at h3)
variable {n0 t size bytes:Nat} {Pn:pG} {ob':List Ob} {ty:TypeId} {sx:SV}
theorem gg{P:Program}{GL:Nat→List D}{o:Oper}{K:St→Prop}{s x:Operand}{ls news:List (List D)}{or:Ob}(TS:iY P ty e size bytes)(ho:o.op=.call { callee:=.builtin .append,args:= #[s,x],argTypes:= #[ty,ty] })
 (hd:o.dst=some t) (ht:Nat.blt t n=true) (hs:bT GL sl s=some (.own i size ls)∨(bT GL sl s=some (.d (.v (.slice none 0 0)))∧ls=[]∧or=.bX e size)) (hx:bT GL sl x=some sx) (hxD:sx.gW=some (.sl size news)) (hi:cY i ob=some or) (hor:or=.row e size∨or=.bX e size)
 (hsz:0<size) (h63:ls.length+news.length≤maxLen∧(ls.length+news.length)*bytes≤140737488355328) (hsl:Bo i sl=some sl') (hob:Bp i ob=some ob1) (hob':gT i (.row e size) ob1=some ob')
 (h:K ⟨n,(t,.own i size (ls++news))::sl',ob'⟩):di P GL n0 Pn (fun j=>j=i) o ⟨n,sl,ob⟩ K:=by
 by_cases hne:news=[]
 ·subst hne;rw[List.append_nil] at h;intro B hB g a w hr next Q hK hP
  have hi':=bR hi;have hval:∃b cap,g.gs[i]? =some (.row b cap ls.length)∧a.eval s=.slice (b.map fun b=>⟨b,0,none⟩) ls.length cap∧ls.length≤cap∧(ls≠[]→∃c,b=some c∧ey g.m size c 0 ls):=by
   rcases hs with hs|⟨hs,rfl,rfl⟩
   ·obtain ⟨b,cap,h1,h2,h3,h4⟩:=hr.fk hs;exact⟨b,cap,h1,h2,h3,h4⟩
   ·have hv:a.eval s=.slice none 0 0:=hr.fk hs;obtain⟨p,hp⟩:=hr.store.place hi';have hok:=hr.store.gX _ _ _ hi' hp;simp only[eS] at hok;subst hok;exact⟨none,0,hp,hv,Nat.le_refl _,fun h=>absurd rfl h⟩
  obtain⟨b,cap,hpl,hv,hc,hden⟩:=hval;obtain⟨ax,capx,hvx,_,_⟩:=SV.Den.gW _ (hr.fk hx) hxD;have hrun:(execOp a.eval o).run P w=.ok (.value (.slice (b.map fun b=>⟨b,0,none⟩) ls.length cap)) w:=by
   unfold execOp;simp only[ho,resolve,invoke,builtin,Sem.run_bind,Sem.run_pure,Result.andThen_ok,List.map_toArray,List.map_cons,List.map_nil,hv,hvx,List.length_nil,Jj TS hc]
  unfold Oper.wp;rw[hrun];show next (a.put o.dst _) _
  rw[hd];have h1:=hr.QQ (P:=P) hi' hor hsl hob;rw[(eT hob').1] at h;exact hK _ _ _ _ (h1.ri (s:=.own i size ls) ht ⟨b,cap,hpl,rfl,hc,hden⟩) (tU.refl _ _ _ _) h
 ·exact oS TS ho hd ht hs hi hor (fun B g a w hr=>SV.Den.gW _ (hr.fk hx) hxD) hsz hne h63.1 h63.2 hsl hob hob' h
theorem iL{P:Program}{GL:Nat→List D}{o:Oper}{k:Nat}{ob2:List Ob}{K:St→Prop}{s x:Operand}{news:List (List D)}(TS:iY P ty e size bytes)(ho:o.op=.call { callee:=.builtin .append,args:= #[s,x],argTypes:= #[ty,ty] })
 (hd:o.dst=some t) (ht:Nat.blt t n=true) (hs:bT GL sl s=some (.d (.v (.slice none 0 0)))) (hx:bT GL sl x=some sx) (hxD:sx.gW=some (.sl size news)) (hl:ob.length=k) (hob0:ib ob [.bX e size]=some ob1) (hi:cY k ob1=some (.bX e size))
 (hsz:0<size) (h63:news.length≤maxLen∧news.length*bytes≤140737488355328) (hsl:Bo k sl=some sl') (hob:Bp k ob1=some ob2) (hob':gT k (.row e size) ob2=some ob')
 (h:K ⟨n,(t,.own k size news)::sl',ob'⟩) {T:Nat→Prop}:di P GL n0 Pn T o ⟨n,sl,ob⟩ K:=
 zx (T':=fun j=>j=k) e size hob0 (fun i hi hx=>by omega) (gg (ls:=[]) TS ho hd ht (.inr ⟨hs,rfl,rfl⟩) hx hxD hi (.inr rfl) hsz (by simpa using h63) hsl hob hob' h)
end Go.Vd
namespace Go.Vd
open Go Go.RowKit
section
variable {P:Program} {GL:Nat→List D} {n0:Nat} {Pn:pG}
variable {o:Oper} {n t:Nat} {sl:List (Nat×SV)} {ob:List Ob} {K:St→Prop}
theorem tz{i m e k:Nat}{sl':List (Nat×SV)}{ob1 ob':List Ob}{T:TypeId}{x hi:Operand}{ls:List (List D)}{pq:Option (Option Nat×Nat)}{h:Int}{k2:IntKind}{ti:TI}(hu:P.underlying T=some (.slice (bl P T).elem))(hT:bl P (bl P T).elem=ti)(hok:ti.ok=true)(hs:ti.size=k)
 (ho:o.op=.slice T x none (some hi) none) (hd:o.dst=some t) (ht:Nat.blt t n=true) (hx:bT GL sl x=some (.arr i m)) (hh:bT GL sl hi=some (.d (.v (.int k2 h)))) (hi':cY i ob=some (.buf e k ls pq)) (hb:0≤h∧h≤m) (hne:0<m)
 (hsl:Bo i sl=some sl') (hob:Bp i ob=some ob1) (hob':gT i (.buf e k (ls.take h.toNat) none) ob1=some ob')
 (hK0:K ⟨n,(t,.arr i h.toNat)::sl',ob'⟩):di P GL n0 Pn (fun j=>j=i) o ⟨n,sl,ob⟩ K:=fun B hB g a w hr next Q hK hP=>by
 have hi2:=bR hi';rw[(eT hob').1] at hK0;obtain⟨b,cap,hpl,hv⟩:=hr.fk hx;obtain⟨hm,hl,⟨xs,hown,hdx,h1x⟩,hmn⟩:=sP hr.store hi2 hpl;have hown0:=hown;rcases hown.2 with⟨h2,h3⟩|⟨b1,cap1,cur,e1,hb0,hhp,hle,hcm,hcs,htk⟩
 ·omega
 cases b with
 |none=>simp at e1
 |some b=>
 simp only[Option.map_some,Value.slice.injEq,Option.some.injEq,Addr.mk.injEq] at e1;obtain⟨⟨rfl,_,_⟩,_,rfl⟩:=e1;simp only[Option.map_some] at hv;have e3:a.eval hi=.int k2 h:=hr.fk hh;rw[← hT] at hok hs;obtain⟨inf,d,hinf,hdd,hs',_⟩:=th hok;rw[hs] at hs';have h2:=jm (P:=P) (kd:=k2) (i:=h) (y:=cap) (c:=.sliceAcap) (by omega) (by omega) w;have hrun:(execOp a.eval o).run P w=.ok (.value (.slice (some ⟨b,0,none⟩) h.toNat cap)) w:=by
  simp only[execOp,ho,hv,e3,Option.map_some,Option.map_none,Sem.run_bind];have hc0:¬cap=0:=by omega
  simp[Instr.sliceAt,Instr.slice,run_underlying hu,Instr.sliceBounds,h2,sizeOf,typeInfo,hinf,←hs',hc0,fG]
 unfold Oper.wp;rw[hrun];show next (a.put o.dst _) _
 rw[hd];have hth:(ls.take h.toNat).length=h.toNat:=by rw[List.length_take];omega
 have hdt:dI g.m (ls.take h.toNat).flatten (xs.take (h.toNat*k)):=by
  have h5:ls.flatten=(ls.take h.toNat).flatten++(ls.drop h.toNat).flatten:=by rw[← List.flatten_append,List.take_append_drop]
  have h6:=vv (k:=k) (ls:=ls.take h.toNat) fun x hx=>hl x (List.mem_of_mem_take hx)
  rw[hth] at h6;rw[h5] at hdx;have h7:=(dI.split hdx).1;rw[h6] at h7;exact h7
 have hmk:h.toNat*k≤m*k:=Nat.mul_le_mul_right k (by omega);obtain⟨h1,h2⟩:=hr.Qo (w':=w) (m':=g.m) (c:=b) (cap':=cap) (n':=h.toNat) (ls':=ls.take h.toNat) hi2 (.inl rfl) hpl (Fr.refl _ _) (fP.refl _) (.inl ⟨rfl,rfl⟩) (fun d off y h1 h2=>by rw[h2] at h1;cases h1) (fun off y hy=>hr.store.sat _ _ _ hy) (fun d off y hd hy=>(hr.store.sat _ _ _ hy).1)
  ⟨hth.symm,fun y hy=>hl y (List.mem_of_mem_take hy),⟨xs.take (h.toNat*k),⟨by rw[List.length_take,hown0.1];omega,.inr ⟨b,cap,cur,rfl,hb0,hhp,by omega,hcm,hcs,by rw[← htk,List.take_take,Nat.min_eq_left hmk]⟩⟩,hdt,fun u hu=>h1x u (List.mem_of_mem_take hu)⟩,fun c hc off=>by cases hc;exact hmn b rfl off,fun r e=>by cases e⟩ hsl hob
 refine hK _ _ _ _ (h1.ri (s:=.arr i h.toNat) ht ⟨some b,cap,?_,rfl⟩) h2 hK0;show(g.gs.set i _)[i]? =_;rw[List.getElem?_set_self (List.getElem?_eq_some_iff.1 hpl).1]
theorem p9{T:Nat→Prop}(hd:o.dst=some t)(ht:Nat.blt t n=true)(h:ak P GL o ⟨n,sl,ob⟩ fun s _=>K ⟨n,(t,s)::sl,ob⟩):di P GL n0 Pn T o ⟨n,sl,ob⟩ K:=
 tx hd ht fun B g a w hr=>by
  obtain⟨Hc,s,y,L,h1,h2,_,h4,h5⟩:=h B g a w hr;exact⟨s,y,h1 w h2,h4,h5⟩
end
end Go.Vd
namespace Go.Vd
open Go Go.RowKit
section
variable {P:Program} {GL:Nat→List D} {n0:Nat} {Pn:pG}
variable {o:Oper} {n t k:Nat} {sl:List (Nat×SV)} {ob ob':List Ob} {K:St→Prop} {T:Nat→Prop} {ty:TypeId}
theorem Cp(ho:o.op=.makeMap ty none)(hd:o.dst=some t)(ht:Nat.blt t n=true)(hl:ob.length=k)(hob:ib ob [.cV fun _=>none]=some ob')
 (h:K ⟨n,(t,.map k)::sl,ob'⟩):di P GL n0 Pn T o ⟨n,sl,ob⟩ K:=fun B hB g a w hr next Q hK hP=>by
 subst hl;rw[fj hob] at h;have hrun:(execOp a.eval o).run P w=.ok (.value (.map (some w.heap.size))) (w.alloc (.map #[] 0)):=by
  simp only[execOp,ho,Option.map_none,Sem.run_bind,Sem.run_pure,run_makeMap,Result.andThen_ok]
 have hmn:∀o,g.m w.heap.size o=none:=fun o=>by
  cases hx:g.m w.heap.size o with
  |none=>rfl
  |some x=>have:=hr.store.jl hx;omega
 obtain⟨h1,h2⟩:=hr.AK ((Fr.refl _ w).alloc (.map #[] 0)) (fP.refl _) (fun b o x h1 h2=>by rw[h2] at h1;cases h1) (o':=.cV fun _=>none) (pl:=.loc w.heap.size) ⟨⟨_,nD.made w,fun s=>rfl⟩,hmn⟩ (fun b hb=>by simp only[cP,dU,Option.some.injEq] at hb;omega) (fun i f dn cur e=>by cases e);unfold Oper.wp;rw[hrun];show next (a.put o.dst _) _
 rw[hd];exact hK _ _ _ _ (h1.ri (s:=.map ob.length) ht ⟨w.heap.size,by rw[hr.store.len];simp,rfl⟩) ⟨h2.1,fun i b o _=>h2.2 i b o (fun x=>x)⟩ h
variable {e:TypeId} {x y:Operand} {i:Nat} {f:ByteArray→Option D} {s:ByteArray}
theorem wV{k:TypeId}(hm:FK P ty k e)(ho:o.op=.lookup ty x y false)(hd:o.dst=some t)(ht:Nat.blt t n=true)
 (hx:bT GL sl x=some (.map i)) (hy:bT GL sl y=some (.d (.v (.string s)))) (hi:cY i ob=some (.cV f)) (h:K ⟨n,(t,.d ((f s).getD (.v (.pointer none))))::sl,ob⟩):di P GL n0 Pn T o ⟨n,sl,ob⟩ K:=
 tx hd ht fun B g a w hr=>by
  obtain⟨b,hb,hbe⟩:=hr.fk hx;have hye:a.eval y=.string s:=hr.fk hy;obtain⟨⟨M,hmap,hden⟩,_⟩:=hr.store.gX _ _ _ (bR hi) hb;have hrun:=hmap.lookup hm.under hm.key hm.zero s;refine⟨_,(M s).getD (.pointer none),by simp only[execOp,ho,hbe,hye,Sem.run_bind,hrun,Result.andThen_ok,Sem.run_pure],?_,h⟩;have h1:=hden s;show D.Den g.m _ _;cases hf:f s with
  |none=>rw[hf] at h1;simp only at h1;rw[h1];rfl
  |some d=>
   rw[hf] at h1;obtain⟨v,h2,h3⟩:=h1;rw[h2];exact h3
def te(f:ByteArray→Option D)(s:ByteArray)(d:D):ByteArray→Option D:=fun t=>if t=s then some d else f t
theorem rX{k:TypeId}{z:Operand}{d:D}(hm:FK P ty k e)(ho:o.op=.mapUpdate ty x y z)(hd:o.dst=none)
 (hx:bT GL sl x=some (.map i)) (hy:bT GL sl y=some (.d (.v (.string s)))) (hz:bT GL sl z=some (.d d)) (hi:cY i ob=some (.cV f)) (hno:gC i ob=true) (hob:gT i (.cV (te f s d)) ob=some ob') (h:K ⟨n,sl,ob'⟩):di P GL n0 Pn (fun j=>j=i) o ⟨n,sl,ob⟩ K:=fun B hB g a w hr next Q hK hP=>by
 obtain⟨b,hb,hbe⟩:=hr.fk hx;have hye:a.eval y=.string s:=hr.fk hy;have hze:d.Den g.m (a.eval z):=hr.fk hz;obtain⟨⟨M,hmap,hden⟩,hmn⟩:=hr.store.gX _ _ _ (bR hi) hb;obtain⟨w',hrun,hm',hfr⟩:=hmap.update hm.under hm.key s (a.eval z);have hrun2:(execOp a.eval o).run P w=.ok .skip w':=by simp only[execOp,ho,hbe,hye,Sem.run_bind,hrun,Result.andThen_ok,Sem.run_pure]
 unfold Oper.wp;rw[hrun2];show next (a.put o.dst _) _
 rw[hd];have hden':yg g.m (te f s d) (IN M s (a.eval z)):=fun t=>by
  unfold te IN;by_cases ht:t=s
  ·rw [if_pos ht,if_pos ht];exact⟨_,rfl,hze⟩
  ·rw [if_neg ht,if_neg ht];exact hden t
 obtain⟨h1,h2⟩:=hr.Lc (o':=.cV (te f s d)) (bR hi) hb rfl hfr ⟨⟨_,hm',hden'⟩,hmn⟩ (.inl rfl) (oU hno) (fun k f dn cur h=>by cases h) hmn;rw[← (eT hob).1] at h1;exact hK _ _ _ _ h1 h2 h
theorem AI{sl':List (Nat×SV)}{ob1 ob2:List Ob}{s:SV}{ti:TI}{cs:List SV}{ds:List D}(hT:bl P ty=ti)(ho:o.op=.box ty x)(hd:o.dst=some t)(ht:Nat.blt t n=true)(hx:bT GL sl x=some s)(hm:jQ ti.agg s=some cs)(hl:ob.length=k)
 (hcs:ub cs=some ds) (hone:gO cs=true) (hob:ib ob [.cells cs ty]=some ob1) (hsl:sn k none ds ((t,.cb k 0)::sl)=some sl') (hob2:sH k none ds ob1=some ob2) (hob3:gT k .dead ob2=some ob') (h:K ⟨n,sl',ob'⟩):di P GL n0 Pn T o ⟨n,sl,ob⟩ K:=fun B hB g a w hr next Q hK hP=>by
 subst hT hl;have hrun:(execOp a.eval o).run P w=.ok (.value (.pointer (some ⟨w.heap.size,0,none⟩))) (w.alloc (.cells ⟨(a.eval x).cells.toList⟩ ty)):=by
  simp[execOp,ho,Instr.box,newVar,newRow]
 unfold Oper.wp;rw[hrun];show next (a.put o.dst _) _
 rw[hd];obtain⟨h1,h2⟩:=qa (ty:=ty) hr (cs:=cs) (vs:=(a.eval x).cells.toList) (jw hm (hr.fk hx));have h3:=h1.ri (s:=.cb ob.length 0) ht (Bj hr.store.len);rw[fj hob] at hob2;obtain⟨m',h4,h5⟩:=h3.C1 (i:=ob.length) (cs:=cs) (ty:=ty) (by simp) hcs hone hsl hob2;rw[← (eT hob3).1] at h5;exact hK _ _ _ _ h5 ⟨h2.1.trans h4,fun i b o _=>h2.2 i b o (fun x=>x)⟩ h
end
end Go.Vd
namespace Go.Vd
open Go Go.RowKit
structure pM where
 gX:List Ob
 iJ:List Pl
def pM.own(x:pM)(b:Nat):Prop:= ∃(i:Nat) (o:Ob) (p:Pl),x.gX[i]? =some o∧x.iJ[i]? =some p∧cP o p b
structure pM.ok (x:pM) (m:Mem) (w:World):Prop where
 len:x.gX.length=x.iJ.length
 no:fV x.gX=true
 gX:∀(i:Nat) o p,x.gX[i]? =some o→x.iJ[i]? =some p→eS ⟨m,x.iJ⟩ w o p
 oz:∀(i j:Nat) oi oj pi pj b,x.gX[i]? =some oi→x.gX[j]? =some oj→x.iJ[i]? =some pi→x.iJ[j]? =some pj→cP oi pi b→cP oj pj b→i=j
theorem pM.ok.lt{x:pM}{m:Mem}{w:World}(h:x.ok m w){b:Nat}(hb:x.own b):b<w.heap.size:=by
 obtain⟨i,o,p,h1,h2,h3⟩:=hb;exact(h.gX i o p h1 h2).lt h3
theorem pM.ok.qf{x:pM}{m m':Mem}{w w':World}(hm:fP m m')(hb:∀b,x.own b→w'.heap[b]? =w.heap[b]?)(hn:∀b,x.own b→∀i,m b i=none→m' b i=none)(h:x.ok m w):x.ok m' w':=
 ⟨h.len,h.no,fun i o p ho hp=>eS.qf (g:=⟨m,x.iJ⟩) (g':=⟨m',x.iJ⟩) (iV.refl (g:=⟨m,x.iJ⟩) (g':=⟨m',x.iJ⟩) ⟨hm,fun _ _ h=>h⟩ o) (fun _ _ h=>h) (fun b hb'=>by
  rcases hb' with hb'|⟨i',f,dn,cur,rfl,_⟩
  ·exact hb b ⟨i,o,p,ho,hp,hb'⟩
  ·exact absurd ho (fe h.no i i' f dn cur)) (fun b hb'=>hn b ⟨i,o,p,ho,hp,hb'⟩) (h.gX i o p ho hp),h.oz⟩
variable {g:Gh} {w:World}
theorem pM.Cv{GL:Nat→List D}{gX:List Ob}(h:cX GL gX g w)(hno:fV gX=true):(pM.mk gX g.gs).ok g.m w:=
 ⟨h.len,hno,fun i o p h1 h2=>h.gX i o p h1 h2,h.oz⟩
def dG(l:List pM):Ob:=.iI (fun b=> ∃x,x∈l∧x.own b) (fun m w=>(∀ x,x∈l→x.ok m w)∧∀(i j:Nat) x y b,l[i]? =some x→l[j]? =some y→x.own b→y.own b→i=j)
variable {l:List pM} {p:Pl}
theorem eB{b:Nat}:cP (dG l) p b↔ ∃x,x∈l∧x.own b:=Hl
theorem zo(h:eS g w (dG l) p):(∀ x,x∈l→x.ok g.m w)∧∀(i j:Nat) x y b,l[i]? =some x→l[j]? =some y→x.own b→y.own b→i=j:=by
 unfold dG at h;cases p<;>exact h.1
theorem wM(h1:∀x,x∈l→x.ok g.m w)(h2:∀(i j:Nat) x y b,l[i]? =some x→l[j]? =some y→x.own b→y.own b→i=j):eS g w (dG l) p:=by
 have h3:((∀ x,x∈l→x.ok g.m w)∧∀(i j:Nat) x y b,l[i]? =some x→l[j]? =some y→x.own b→y.own b→i=j)∧(∀ b,(∃ x,x∈l∧x.own b)→b<w.heap.size)∧∀m m' (w w':World),fP m m'→(∀ b,(∃ x,x∈l∧x.own b)→w'.heap[b]? =w.heap[b]?)→(∀ b,(∃ x,x∈l∧x.own b)→∀i,m b i=none→m' b i=none)→((∀ x,x∈l→x.ok m w)∧∀(i j:Nat) x y b,l[i]? =some x→l[j]? =some y→x.own b→y.own b→i=j)→((∀ x,x∈l→x.ok m' w')∧∀(i j:Nat) x y b,l[i]? =some x→l[j]? =some y→x.own b→y.own b→i=j):=
  ⟨⟨h1,h2⟩,fun b ⟨x,hx,hb⟩=>(h1 x hx).lt hb,fun m m' w w' hm hb hn h=>⟨fun x hx=>pM.ok.qf hm (fun b hb'=>hb b ⟨x,hx,hb'⟩) (fun b hb'=>hn b ⟨x,hx,hb'⟩) (h.1 x hx),h.2⟩⟩
 unfold dG;cases p<;>exact h3
section
variable {P:Program} {GL:Nat→List D} {n0:Nat} {Pn:pG}
variable {Q:Ex→St→Prop} {n:Nat} {sl:List (Nat×SV)} {ob:List Ob}
theorem D9{c:Code}{ob':List Ob}(hob:ib ob [dG []]=some ob')(h:bu P GL n0 Pn c Q ⟨n,sl,ob'⟩):bu P GL n0 Pn c Q ⟨n,sl,ob⟩:=fun B hB a w ⟨g,hr⟩=>by
 rw[fj hob] at h;obtain⟨h1,_⟩:=hr.AK (w':=w) (Fr.refl _ w) (fP.refl _) (fun b o x h1 h2=>by rw[h2] at h1;cases h1) (o':=dG []) (pl:=.row none 0 0) (wM (fun x hx=>by cases hx) (fun i j x y b hi=>by simp at hi)) (fun b hb=>by
  obtain⟨x,hx,_⟩:=eB.1 hb;cases hx) (fun i f dn cur e=>by cases e)
 exact h B hB a w ⟨_,h1⟩
def zZ:List Nat→List Ob→Option (List Ob)
 |[],l=>some l
 |i::ix,l=>(gT i .dead l).bind fun l'=>zZ ix l'
theorem zY:∀{ix:List Nat} {l l':List Ob},zZ ix l=some l'→l'.length=l.length∧(∀ j,j∈ix→l'[j]? =some .dead)∧∀j,j∉ix→l'[j]? =l[j]?
 |[],l,l',h=>by simp[zZ] at h;subst h;simp
 |i::ix,l,l',h=>by
  simp only[zZ,Option.bind_eq_some_iff] at h;obtain⟨l1,h1,h2⟩:=h;obtain⟨e1,e2⟩:=eT h1;obtain⟨a1,a2,a3⟩:=zY h2;subst e1;refine⟨by rw[a1,List.length_set],fun j hj=>?_,fun j hj=>?_⟩
  ·by_cases hji:j∈ix
   ·exact a2 j hji
   ·rcases List.mem_cons.1 hj with rfl|h3
    ·rw [a3 j hji,List.getElem?_set_self e2]
    ·exact absurd h3 hji
  ·have h3:j≠i∧j∉ix:=⟨fun e=>hj (e▸List.mem_cons_self),fun e=>hj (List.mem_cons_of_mem _ e)⟩;rw[a3 j h3.2,List.getElem?_set_ne (Ne.symm h3.1)]
variable {ob1:List Ob} {pi:Nat} {eD:List pM} {ix:List Nat}
theorem cE.Ju{B:Bs}{a:Act}(hr:cE GL B ⟨n,sl,ob⟩ g a w){obc:List Ob}(hp:cY pi ob=some (dG eD))(hfit:ch ob ix obc ix)(hnd:ix.Nodup)(hno:fV obc=true)(hno2:fV ob=true)(hpi:pi∉ix)(hob:zZ ix ob=some ob1):
 cE GL B ⟨n,sl,ob1.set pi (dG (eD++[⟨obc,ix.map fun i=>g.gs.getD i (.loc 0)⟩]))⟩ g a w:=by
 have hsub:=hr.store.sub hfit hnd (fun j i f dn cur hj=>absurd hj (fe hno j i f dn cur));have hp':=bR hp;have hpil:=(List.getElem?_eq_some_iff.1 hp').1;obtain⟨d1,d2,d3⟩:=zY hob;obtain⟨ppl,hppl⟩:=hr.store.place hp';have hpool:=zo (hr.store.gX _ _ _ hp' hppl);have hit:=pM.Cv hsub.1 hno;generalize hpls:(ix.map fun i=>g.gs.getD i (.loc 0))=iJ at hsub hit ⊢;have hnew:∀b,(pM.mk obc iJ).own b→∃(i:Nat) (o:Ob) (p:Pl),i∈ix∧ob[i]? =some o∧g.gs[i]? =some p∧cP o p b:=fun b ⟨i,o,p,h1,h2,h3⟩=>by
  obtain⟨i',k,o',p',e1,e2,e3,e4⟩:=hsub.2.2 b ⟨i,o,p,h1,h2,h3⟩;exact⟨i',o',p',List.mem_of_getElem? e1,e2,e3,e4⟩
 have hold:∀x∈eD,∀b,x.own b→¬(pM.mk obc iJ).own b:=fun x hx b hb hb2=>by
  obtain⟨i,o,p,h1,h2,h3,h4⟩:=hnew b hb2;have:=hr.store.oz pi i _ o ppl p b hp' h2 hppl h3 (eB.2 ⟨x,hx,hb⟩) h4;subst this;exact hpi h1
 have hlen:=hr.store.len;have hself:(ob1.set pi (dG (eD++[⟨obc,iJ⟩])))[pi]? =some (dG (eD++[⟨obc,iJ⟩])):=List.getElem?_set_self (by rw[d1];exact hpil);have hother:∀j,j≠pi→j∉ix→(ob1.set pi (dG (eD++[⟨obc,iJ⟩])))[j]? =ob[j]? :=fun j h1 h2=>by rw[List.getElem?_set_ne (Ne.symm h1),d3 j h2]
 have hdead:∀j,j∈ix→(ob1.set pi (dG (eD++[⟨obc,iJ⟩])))[j]? =some .dead:=fun j h1=>by
  have h2:pi≠j:=fun e=>hpi (by rw[e];exact h1)
  rw[List.getElem?_set_ne h2,d2 j h1]
 have hpoolok:eS g w (dG (eD++[⟨obc,iJ⟩])) ppl:=by
  refine wM (fun x hx=>?_) fun i j x y b hi hj hxb hyb=>?_
  ·rcases List.mem_append.1 hx with hx|hx
   ·exact hpool.1 x hx
   ·simp only[List.mem_singleton] at hx;subst hx;exact hit
  ·rw [List.getElem?_append] at hi hj;have hlast:∀(k:Nat) z,¬k<eD.length→[pM.mk obc iJ][k-eD.length]? =some z→k=eD.length∧z=⟨obc,iJ⟩:=fun k z h1 h2=>by
    have h3:=(List.getElem?_eq_some_iff.1 h2).1;simp only[List.length_singleton] at h3;have h4:k-eD.length=0:=by omega
    rw[h4] at h2;simp at h2;exact⟨by omega,h2.symm⟩
   split at hi
   ·split at hj
    ·exact hpool.2 i j x y b hi hj hxb hyb
    ·rename_i h6;obtain⟨_,rfl⟩:=hlast _ _ h6 hj;exact absurd hyb (hold x (List.mem_of_getElem? hi) b hxb)
   ·rename_i h5;obtain⟨h7,rfl⟩:=hlast _ _ h5 hi;split at hj
    ·exact absurd hxb (hold y (List.mem_of_getElem? hj) b hyb)
    ·rename_i h6;obtain⟨h8,_⟩:=hlast _ _ h6 hj;omega
 refine⟨hr.defers,hr.size,hr.da,?_,?_⟩
 ·refine hr.store.step (p:=fun j=>j=pi∨j∈ix) (fP.refl _) (fun _ _ h=>h) (fun _ _ _ h=>h) hr.store.sat (by show(ob1.set pi _).length=_;rw[List.length_set,d1];exact hlen) (fun j o1 hj h1=>?_) (fun j k f dn cur h1=>?_) (fun j k f dn cur hj h1=>?_)
   (fun j o1 q c hj h1 h2 h3=>⟨rfl,fun _ h=>h⟩) (fun j o1 hj h1=>?_) (fun j o1 q c hj h1 h2 h3=>?_) (fun i j oi oj qi qj b hi hj h1 h2 h3 h4 h5 h6=>?_)
  ·simp only[not_or] at hj;have h2:(ob1.set pi (dG (eD++[⟨obc,iJ⟩])))[j]? =some o1:=h1;rw[hother j hj.1 hj.2] at h2;exact⟨o1,h2,iV.refl (K7.refl g) o1⟩
  ·by_cases h9:j=pi
   ·subst h9;rw[hself] at h1;cases h1
   ·by_cases h8:j∈ix
    ·rw [hdead j h8] at h1;cases h1
    ·rw [hother j h9 h8] at h1;exact absurd h1 (fe hno2 j k f dn cur)
  ·simp only[not_or] at hj;have h2:(ob1.set pi (dG (eD++[⟨obc,iJ⟩])))[j]? =some (.jM k f dn cur):=h1;rw[hother j hj.1 hj.2] at h2;exact absurd h2 (fe hno2 j k f dn cur)
  ·have h2:(ob1.set pi (dG (eD++[⟨obc,iJ⟩])))[j]? =some o1:=h1;rcases hj with rfl|hj
   ·rw [hself] at h2;cases h2;exact⟨ppl,hppl,hpoolok⟩
   ·rw [hdead j hj] at h2;cases h2;obtain⟨k,hk,e⟩:=List.mem_iff_getElem.1 hj;obtain⟨i',o,a1,a2,_⟩:=hfit.get.2 k (obc[k]'(by rw[hfit.get.1];exact hk)) (by simp[hfit.get.1,hk]);rw[List.getElem?_eq_getElem hk,e] at a1;cases a1;obtain⟨q,hq⟩:=hr.store.place a2;exact⟨q,hq,by cases q<;>trivial⟩
  ·have h4:(ob1.set pi (dG (eD++[⟨obc,iJ⟩])))[j]? =some o1:=h1;rcases hj with rfl|hj
   ·rw [hself] at h4;cases h4;obtain⟨x,hx,hb⟩:=eB.1 h3;rcases List.mem_append.1 hx with hx|hx
    ·exact .inl ⟨j,_,q,.inl rfl,hp',h2,eB.2 ⟨x,hx,hb⟩⟩
    ·simp only[List.mem_singleton] at hx;subst hx;obtain⟨i,o,p,e1,e2,e3,e4⟩:=hnew c hb;exact .inl ⟨i,o,p,.inr e1,e2,e3,e4⟩
   ·rw [hdead j hj] at h4;cases h4;cases q<;>exact absurd h3 (by simp[cP,dU])
  ·have h7:(ob1.set pi (dG (eD++[⟨obc,iJ⟩])))[i]? =some oi:=h1;have h8:(ob1.set pi (dG (eD++[⟨obc,iJ⟩])))[j]? =some oj:=h2;rcases hi with rfl|hi
   ·rcases hj with rfl|hj
    ·rfl
    ·rw [hdead j hj] at h8;cases h8;cases qj<;>exact absurd h6 (by simp[cP,dU])
   ·rw [hdead i hi] at h7;cases h7;cases qi<;>exact absurd h5 (by simp[cP,dU])
 ·refine ⟨hr.fI.fr,hr.fI.mem,hr.fI.new,fun j o1 q c h1 h2 h3=>?_,hr.fI.at'⟩;have h4:(ob1.set pi (dG (eD++[⟨obc,iJ⟩])))[j]? =some o1:=h1;by_cases h9:j=pi
  ·subst h9;rw[hself] at h4;cases h4;obtain⟨x,hx,hb⟩:=eB.1 h3;rcases List.mem_append.1 hx with hx|hx
   ·exact hr.fI.own j _ q c hp' h2 (eB.2 ⟨x,hx,hb⟩)
   ·simp only[List.mem_singleton] at hx;subst hx;obtain⟨i,o,p,e1,e2,e3,e4⟩:=hnew c hb;exact hr.fI.own i o p c e2 e3 e4
  ·by_cases h8:j∈ix
   ·rw [hdead j h8] at h4;cases h4;cases q<;>exact absurd h3 (by simp[cP,dU])
   ·rw [hother j h9 h8] at h4;exact hr.fI.own j o1 q c h4 h2 h3
variable {t:Nat} {obF:pM→List Ob}
theorem F5{ops l:List Oper}{i1 i2 k1 k2:Nat}(obc:List Ob)(hp:cY pi ob=some (dG eD))(hfit:ch ob ix obc ix)(hnd:fA ix=true)(hno:fV obc=true)(hno2:fV ob=true)(hpi:(ix.contains pi)=false)(hob:zZ ix ob=some ob1)(hobF:∀x,gT pi (dG (eD++[x])) ob1=some (obF x))
 (hsl:oK t sl=.agg [.cb i1 0,.cb i2 0]) (hk1:ix[k1]? =some i1) (hk2:ix[k2]? =some i2)
 (h:∀(iJ:List Pl) (b1 b2:Nat),iJ.length=obc.length→iJ[k1]? =some (.loc b1)→iJ[k2]? =some (.loc b2)→bA P GL n0 Pn ops l Q ⟨n,(t,.d (.agg [.v (.pointer (some ⟨b1,0,none⟩)),.v (.pointer (some ⟨b2,0,none⟩))]))::sl,obF ⟨obc,iJ⟩⟩):bA P GL n0 Pn ops l Q ⟨n,sl,ob⟩:=fun B hB a w ⟨g,hr⟩=>by
 have hpi':pi∉ix:=fun h=>by rw[List.contains_iff_mem.2 h] at hpi;cases hpi
 have h1:=hr.Ju hp hfit (jo hnd) hno hno2 hpi' hob;rw[← (eT (hobF _)).1] at h1;have h2:=hr.da t;have h3:(SV.agg [.cb i1 0,.cb i2 0]).Den g (a.tmps.getD t undef):=by rw[← hsl];exact h2
 obtain⟨vs,e1,x1,l1,e2,⟨b1,hb1,e3⟩,x2,l2,e4,⟨b2,hb2,e5⟩,e6⟩:=h3;have hl:∀(k i b:Nat),ix[k]? =some i→g.gs[i]? =some (.loc b)→(ix.map fun i=>g.gs.getD i (.loc 0))[k]? =some (.loc b):=fun k i b h1 h2=>by
  rw[List.getElem?_map,h1];simp[List.getD_eq_getElem?_getD,h2]
 have h4:=h1.known (t:=t) (s:=.d (.agg [.v (.pointer (some ⟨b1,0,none⟩)),.v (.pointer (some ⟨b2,0,none⟩))])) (by
  subst e2 e4 e6 e3 e5;exact⟨_,e1,_,_,rfl,rfl,_,_,rfl,rfl,rfl⟩)
 exact h _ b1 b2 (by rw[List.length_map,hfit.get.1]) (hl _ _ _ hk1 hb1) (hl _ _ _ hk2 hb2) B hB a w ⟨g,h4⟩
variable {ρ is:List Nat} {r:List Ob} {i:Nat} {f:ByteArray→Option D}
theorem ia(hr:ch ob ρ r is)(hi:cY i ob=some (.cV f):=by exact rfl):ch ob ρ (.cV f::r) (i::is):=.cons hi .cV hr
theorem Qp{f':ByteArray→Option D}(he:f=f')(hr:ch ob ρ r is)(hi:cY i ob=some (.cV f'):=by exact rfl):ch ob ρ (.cV f::r) (i::is):=by subst he;exact .cons hi .cV hr
theorem Ft{o:Nat→Prop}{k:Mem→World→Prop}(hr:ch ob ρ r is)(hi:cY i ob=some (.iI o k):=by exact rfl):ch ob ρ (.iI o k::r) (i::is):=.cons hi .iI hr
theorem JI{o:Oper}{K:St→Prop}{f:FuncId}{args:Array Operand}{ts:Array TypeId}{argsc svs:List SV}{Q:Out→List Ob→Prop}(hc:ai P f=true)(ho:o.op=.call { callee:=.value (.func f),args:=args,argTypes:=ts })
 (ha:De GL sl args.toList=some svs) (hdst:o.dst=some t) (htn:Nat.blt t n=true) {k:Nat} {x:pM} (hp:cY pi ob=some (dG eD)) (hk:eD[k]? =some x) (hno:fV ob=true) (ht:et P GL f x.gX argsc Q)
 (hfa:∀(m:Mem) (gs:List Pl) (vs:List Value),bC ⟨m,gs⟩ svs vs→bC ⟨m,x.iJ⟩ argsc vs) (hobF:∀y,gT pi (dG (eD.set k y)) ob=some (obF y))
 (hQ:∀s ob',Q (.ret s) ob'→∃d,s=.d d) (hpan:∀s ob',Q (.pz s) ob'→False)
 (hret:∀d ob' pls',Q (.ret (.d d)) ob'→(∀ (j b:Nat),j<x.gX.length→x.iJ[j]? =some (.loc b)→pls'[j]? =some (.loc b))→K ⟨n,(t,.d d)::sl,obF ⟨ob',pls'⟩⟩):di P GL n0 Pn (fun j=>j=pi) o ⟨n,sl,ob⟩ K:=fun B hB g a w hr next Q' hK hP=>by
 obtain⟨vs,hrun,hd⟩:=rW hc ho ha B g a w hr;have hp':=bR hp;have hpil:=(List.getElem?_eq_some_iff.1 hp').1;obtain⟨ppl,hppl⟩:=hr.store.place hp';have hpool:=zo (hr.store.gX _ _ _ hp' hppl);have hkl:=(List.getElem?_eq_some_iff.1 hk).1;have hxm:=List.mem_of_getElem? hk;have hx:=hpool.1 x hxm;have hst0:cX GL x.gX ⟨g.m,x.iJ⟩ w:=⟨hx.len,hx.gX,fun j i f dn cur hj=>absurd hj (fe hx.no j i f dn cur),hx.oz,hr.store.sat,hr.store.ET⟩;unfold Oper.wp;rw[hrun,Oper.upon_enter];refine(ht _ w vs hst0 (hfa g.m g.gs vs hd)).mono fun e w' he=>?_
 obtain⟨g',ob',hs,hst,hle,hno',he⟩:=he;cases e with
 |outgrown=>exact he.elim
 |panicked c=>obtain⟨v,s,_,_,h3⟩:=he;exact(hpan _ _ h3).elim
 |returned v=>
  obtain⟨s,hs1,hq⟩:=he;obtain⟨d,rfl⟩:=hQ _ _ hq;have hX:∀b,dk x.gX ⟨g.m,x.iJ⟩ b→x.own b:=fun b ⟨i,o,p,h1,h2,h3⟩=>⟨i,o,p,h1,h2,h3⟩
  have hfr:Fr (dk x.gX ⟨g.m,x.iJ⟩) w w':=hst.fr;have hmem:fP g.m g'.m:=hst.mem;have hnewm:∀b i v,g'.m b i=some v→g.m b i=none→dk x.gX ⟨g.m,x.iJ⟩ b∨w.heap.size≤b:=hst.new;have hstay:∀b,b<w.heap.size→¬x.own b→w'.heap[b]? =w.heap[b]? ∧∀i,g.m b i=none→g'.m b i=none:=fun b h1 h2=>by
   refine⟨hfr.block b h1 fun h=>h2 (hX b h),fun i hi=>?_⟩;cases hv:g'.m b i with
   |none=>rfl
   |some v=>
    rcases hnewm b i v hv hi with h3|h3
    ·exact absurd (hX b h3) h2
    ·omega
  have hneb:∀(j:Nat) oj pj b,j≠pi→ob[j]? =some oj→g.gs[j]? =some pj→cP oj pj b→¬x.own b:=fun j oj pj b hj h1 h2 h3 h4=>
   hj (hr.store.oz j pi oj _ pj ppl b h1 hp' h2 hppl h3 (eB.2 ⟨x,hxm,h4⟩))
  have hitem:(pM.mk ob' g'.gs).ok g'.m w':=pM.Cv hs hno';have hown':∀b,(pM.mk ob' g'.gs).own b→x.own b∨w.heap.size≤b:=fun b ⟨i,o,p,h1,h2,h3⟩=>by
   rcases hst.own i o p b h1 h2 h3 with h4|h4
   ·exact .inl (hX b h4)
   ·exact .inr h4
  have hothers:∀(j:Nat) y b,j≠k→eD[j]? =some y→y.own b→¬x.own b∧b<w.heap.size:=fun j y b hj h1 h2=>
   ⟨fun h3=>hj (hpool.2 j k y x b h1 hk h2 h3),(hpool.1 y (List.mem_of_getElem? h1)).lt h2⟩
  have hobset:=(eT (hobF ⟨ob',g'.gs⟩)).1;have hself:(ob.set pi (dG (eD.set k ⟨ob',g'.gs⟩)))[pi]? =some (dG (eD.set k ⟨ob',g'.gs⟩)):=List.getElem?_set_self hpil;have hother:∀j,j≠pi→(ob.set pi (dG (eD.set k ⟨ob',g'.gs⟩)))[j]? =ob[j]? :=fun j hj=>List.getElem?_set_ne (Ne.symm hj)
  have hgle:K7 g ⟨g'.m,g.gs⟩:=⟨hmem,fun _ _ h=>h⟩;have hsetget:∀(j:Nat) y,(eD.set k ⟨ob',g'.gs⟩)[j]? =some y→(j=k∧y=⟨ob',g'.gs⟩)∨(j≠k∧eD[j]? =some y):=fun j y h1=>by
   by_cases hj:j=k
   ·subst hj;rw[List.getElem?_set_self hkl] at h1;cases h1;exact .inl ⟨rfl,rfl⟩
   ·rw [List.getElem?_set_ne (Ne.symm hj)] at h1;exact .inr ⟨hj,h1⟩
  have hpoolok:eS ⟨g'.m,g.gs⟩ w' (dG (eD.set k ⟨ob',g'.gs⟩)) ppl:=by
   refine wM (fun y hy=>?_) fun i j y z b hi hj hyb hzb=>?_
   ·obtain ⟨j,hj⟩:=List.mem_iff_getElem?.1 hy;rcases hsetget j y hj with⟨_,rfl⟩|⟨h1,h2⟩
    ·exact hitem
    ·exact pM.ok.qf hmem (fun b hb=>(hstay b (hothers j y b h1 h2 hb).2 (hothers j y b h1 h2 hb).1).1) (fun b hb=>(hstay b (hothers j y b h1 h2 hb).2 (hothers j y b h1 h2 hb).1).2) (hpool.1 y (List.mem_of_getElem? h2))
   ·have hcross:∀(j:Nat) z b,j≠k→eD[j]? =some z→z.own b→¬(pM.mk ob' g'.gs).own b:=fun j z b h1 h2 h3 h4=>by
     have h5:=hothers j z b h1 h2 h3;rcases hown' b h4 with h6|h6
     ·exact h5.1 h6
     ·omega
    rcases hsetget i y hi with⟨h1,rfl⟩|⟨h1,h2⟩
    ·rcases hsetget j z hj with⟨h3,rfl⟩|⟨h3,h4⟩
     ·omega
     ·exact absurd hyb (hcross j z b h3 h4 hzb)
    ·rcases hsetget j z hj with⟨h3,rfl⟩|⟨h3,h4⟩
     ·exact absurd hzb (hcross i y b h1 h2 hyb)
     ·exact hpool.2 i j y z b h2 h4 hyb hzb
  have hrel:cE GL B ⟨n,sl,ob.set pi (dG (eD.set k ⟨ob',g'.gs⟩))⟩ ⟨g'.m,g.gs⟩ a w':=by
   refine⟨hr.defers,hr.size,fun t=>SV.Den.mono hgle _ (hr.da t),?_,?_⟩
   ·refine hr.store.step (p:=fun j=>j=pi) hmem (fun _ _ h=>h) (fun _ _ _ h=>h) hs.sat (by show(ob.set pi _).length=_;rw[List.length_set];exact hr.store.len) (fun j o1 hj h1=>?_) (fun j i f dn cur h1=>?_) (fun j i f dn cur hj h1=>?_)
     (fun j o1 q c hj h1 h2 h3=>?_) (fun j o1 hj h1=>?_) (fun j o1 q c hj h1 h2 h3=>?_) (fun i j oi oj qi qj b hi hj _ _ _ _ _ _=>hi.trans hj.symm)
    ·have h2:(ob.set pi (dG (eD.set k ⟨ob',g'.gs⟩)))[j]? =some o1:=h1;rw[hother j hj] at h2;exact⟨o1,h2,iV.refl hgle o1⟩
    ·by_cases h9:j=pi
     ·subst h9;rw[hself] at h1;cases h1
     ·rw [hother j h9] at h1;exact absurd h1 (fe hno j i f dn cur)
    ·have h2:(ob.set pi (dG (eD.set k ⟨ob',g'.gs⟩)))[j]? =some (.jM i f dn cur):=h1;rw[hother j hj] at h2;exact absurd h2 (fe hno j i f dn cur)
    ·exact hstay c (hr.store.lt h1 h2 h3) (hneb j o1 q c hj h1 h2 h3)
    ·subst hj;have h2:(ob.set j (dG (eD.set k ⟨ob',g'.gs⟩)))[j]? =some o1:=h1;rw[hself] at h2;cases h2;exact⟨ppl,hppl,hpoolok⟩
    ·subst hj;have h4:(ob.set j (dG (eD.set k ⟨ob',g'.gs⟩)))[j]? =some o1:=h1;rw[hself] at h4;cases h4;obtain⟨y,hy,hb⟩:=eB.1 h3;obtain⟨i,hi⟩:=List.mem_iff_getElem?.1 hy;rcases hsetget i y hi with⟨_,rfl⟩|⟨h5,h6⟩
     ·rcases hown' c hb with h7|h7
      ·exact .inl ⟨j,_,q,rfl,hp',h2,eB.2 ⟨x,hxm,h7⟩⟩
      ·exact .inr h7
     ·exact .inl ⟨j,_,q,rfl,hp',h2,eB.2 ⟨y,List.mem_of_getElem? h6,hb⟩⟩
   ·refine hr.fI.step hfr (fun b hb=>hr.fI.own pi _ ppl b hp' hppl (eB.2 ⟨x,hxm,hX b hb⟩)) hmem hnewm (fun j o1 q c h1 h2 h3=>?_) (fun _ _ h=>h);have h4:(ob.set pi (dG (eD.set k ⟨ob',g'.gs⟩)))[j]? =some o1:=h1;by_cases h9:j=pi
    ·subst h9;rw[hself] at h4;cases h4;obtain⟨y,hy,hb⟩:=eB.1 h3;obtain⟨i,hi⟩:=List.mem_iff_getElem?.1 hy;rcases hsetget i y hi with⟨_,rfl⟩|⟨h5,h6⟩
     ·rcases hown' c hb with h7|h7
      ·exact .inl (hr.fI.own j _ ppl c hp' hppl (eB.2 ⟨x,hxm,h7⟩))
      ·exact .inr h7
     ·exact .inl (hr.fI.own j _ ppl c hp' hppl (eB.2 ⟨y,List.mem_of_getElem? h6,hb⟩))
    ·rw [hother j h9] at h4;exact .inl (hr.fI.own j o1 q c h4 h2 h3)
  have hkeep:tU (fun j=>j=pi) ob g w ⟨g'.m,g.gs⟩ w':=⟨hmem,fun j c oj hj h1 h2 h3=>⟨h2,(hstay c (hr.store.lt h1 h2 (eP h3)) (hneb j oj _ c hj h1 h2 (eP h3))).1⟩⟩;have hK2:=hret d ob' g'.gs hq (fun j b h1 h2=>hst.at' j b h1 h2);rw[hobset] at hK2;show next (a.put o.dst _) _
  rw[hdst];exact hK _ _ _ _ (hrel.ri (s:=.d d) htn hs1) hkeep hK2
end
end Go.Vd
namespace Go.Vd
open Go Go.RowKit
variable {e:TypeId} {size bytes:Nat}
theorem Ji{P:Program}{t:TypeId}(T:iY P t e size bytes)(w:World):(Instr.buildSlice t 0 #[]).run P w=.ok (.slice (some ⟨w.heap.size,0,none⟩) 0 0) (w.alloc (.cells #[] e)):=by
 have hinfo:=T.info;have hzero:=T.zero;cases hi:P.info? e with
 |none=>simp[hi] at hinfo
 |some ie=>
  rw[hi] at hinfo hzero;simp only[Option.map_some,Option.some.injEq,Prod.mk.injEq,Option.bind_some] at hinfo hzero;cases hz:ie.zero with
  |none=>simp[hz] at hzero
  |some z=>
   simp[Instr.buildSlice,run_underlying T.under,newRow,zeroValue,typeInfo,Go.sizeOf,hi,hz,Result.andThen,Instr.fill]
   congr 2
   apply Array.ext';simp
section
variable {P:Program} {GL:Nat→List D} {n0:Nat} {Pn:pG}
variable {o:Oper} {n t k:Nat} {sl:List (Nat×SV)} {ob:List Ob} {K:St→Prop} {T:Nat→Prop} {ty:TypeId}
theorem Lw{ob':List Ob}(TS:iY P ty e size bytes)(ho:o.op=.buildSlice ty 0 #[])
 (hd:o.dst=some t) (ht:Nat.blt t n=true) (hl:ob.length=k) (hob:ib ob [.row e size]=some ob')
 (h:K ⟨n,(t,.own k size [])::sl,ob'⟩):di P GL n0 Pn T o ⟨n,sl,ob⟩ K:=fun B hB g a w hr next Q hK hP=>by
 subst hl;rw[fj hob] at h;have hrun:(execOp a.eval o).run P w=.ok (.value (.slice (some ⟨w.heap.size,0,none⟩) 0 0)) (w.alloc (.cells #[] e)):=by
  have h0:=Ji TS w;simp only[execOp,ho,Sem.run_bind];have h1:(#[]:Array (Nat×Operand)).map (fun x=>(x.1,a.eval x.2))= #[]:=by simp
  rw[h1,h0];rfl
 unfold Oper.wp;rw[hrun];show next (a.put o.dst _) _
 rw[hd];have hm0:∀o,g.m w.heap.size o=none:=fun o=>by
  cases hx:g.m w.heap.size o with
  |none=>rfl
  |some x=>have:=hr.store.jl hx;omega
 have hrow:(w.alloc (.cells #[] e)).ownsRow 0 e size (.slice (some ⟨w.heap.size,0,none⟩) 0 0) 0 []:=
  ⟨by simp,.inr ⟨w.heap.size,0,#[],rfl,Nat.zero_le _,heap_alloc_new w _,Nat.le_refl _,Nat.zero_le _,by simp,by simp⟩⟩
 obtain⟨h1,h2⟩:=hr.AK (w':=w.alloc (.cells #[] e)) ((Fr.refl _ w).alloc _) (fP.refl _) (fun b o x h1 h2=>by rw[h2] at h1;cases h1) (o':=.row e size) (pl:=.row (some w.heap.size) 0 0) ⟨⟨[],hrow⟩,fun c hc o _=>by cases hc;exact hm0 o⟩ (fun b hb=>by simp only[cP,dU,Option.some.injEq] at hb;omega) (fun i f dn cur e=>by cases e);refine hK _ _ _ _ (h1.ri (s:=.own ob.length size []) ht ⟨some w.heap.size,0,?_,rfl,Nat.le_refl _,fun hn=>absurd rfl hn⟩) ⟨h2.1,fun i b o _=>h2.2 i b o (fun x=>x)⟩ h;show(g.gs++[_])[ob.length]? =_;have hl2:ob.length=g.gs.length:=hr.store.len;rw[hl2];simp
end
section
variable {P:Program} {GL:Nat→List D} {n0:Nat} {Pn:pG}
theorem Av{T:TypeId}(hp:P.underlying T=some (.slice e))(a:Option Addr)(l c:Nat)(w:World):(Op.equal T (.slice a l c) (.slice none 0 0)).run P w=.ok a.isNone w:=by
 have h:∀d:Nat,(Op.equalIn (d+1) T (.slice a l c) (.slice none 0 0)).run P w=.ok a.isNone w:=fun d=>by
  cases a<;>simp[Op.equalIn,run_underlying hp]
 simp[Op.equal,Op.maxDepth,h 9999]
variable {o:Oper} {n t k:Nat} {sl:List (Nat×SV)} {ob:List Ob} {K:St→Prop} {T:Nat→Prop} {ty:TypeId}
theorem JF{T':TypeId}{ls:List (List D)}{x:Operand}{sx:SV}(hp:P.underlying ty=some (.slice e))(ho:o.op=.binOp .eql ty x (.const (.slice none 0 0)) T')(hd:o.dst=some t)(ht:Nat.blt t n=true)
 (hx:bT GL sl x=some sx) (hxD:sx.gW=some (.sl k ls)) (h:∀b:Bool,(b=true→ls=[])→K ⟨n,(t,.d (.v (.bool b)))::sl,ob⟩):di P GL n0 Pn T o ⟨n,sl,ob⟩ K:=
 tx hd ht fun B g a w hr=>by
  obtain⟨q,cap,hq,_,hne⟩:=SV.Den.gW _ (hr.fk hx) hxD;refine⟨.d (.v (.bool q.isNone)),.bool q.isNone,?_,rfl,h q.isNone fun hb=>?_⟩
  ·have he:=Av hp q ls.length cap w;have hc:a.eval (.const (.slice none 0 0))=.slice none 0 0:=rfl;simp only[execOp,ho,Sem.run_bind,hq,hc,gm (P:=P) (show(Value.slice q ls.length cap).oneCell'=true from rfl) (show ¬(Value.slice q ls.length cap=.nilIface∧Value.slice none 0 0=.nilIface) by simp)];simp only[Result.andThen_ok,binOp,Sem.run_bind,he,Sem.run_pure]
  ·refine Classical.byContradiction fun hn=>?_
   obtain⟨b,off,e1,_⟩:=hne hn;rw[e1] at hb;cases hb
end
end Go.Vd
namespace Go.Vd
open Go Go.RowKit
def KQ(P:Program)(yn:TypeId→Option TI):Prop:= ∀t ti,yn t=some ti→bl P t=ti
def PK:BinOp→Int→Int→Option Bool
 | .eql,m,n=>some (decide (m=n))
 | .neq,m,n=>some (!decide (m=n))
 | .lss,m,n=>some (decide (m<n))
 | .leq,m,n=>some (decide (m≤n))
 | .gtr,m,n=>some (decide (n<m))
 | .geq,m,n=>some (decide (n≤m))
 |_,_,_=>none
def QZ:IntKind→IntKind→Bool
 | .i64,.i64=>true
 | .u8,.u8=>true
 |_,_=>false
theorem NR:∀{k k':IntKind},QZ k k'=true→k=k':=by
 intro k k' h;cases k<;>cases k'<;>first|rfl|cases h
def PJ:BinOp→ByteArray→ByteArray→Option Bool
 | .eql,s,t=>some (decide (s=t))
 | .neq,s,t=>some (!decide (s=t))
 |_,_,_=>none
def Oa(GL:Nat→List D)(yn:TypeId→Option TI)(sl:List (Nat×SV))(ob:List Ob):Op→Option SV
 | .move x=>bT GL sl x
 | .assign x=>bT GL sl x
 | .nilCheck x=>match bT GL sl x with
  |some (.cb i off)=>some (.cb i off)
  |some (.d (.cp l))=>some (.d (.cp l))
  |_=>none
 | .fieldAddr T x f=>(yn T).bind fun ti=>match gS f ti.mr with
  |some ((o1,sz,_)::_)=>cond (Nat.beq sz 0) none (match bT GL sl x with
   |some (.cb i off)=>some (.cb i (off+o1))
   |some (.d (.cp l))=>(gS o1 l).bind fun l'=>some (.d (.cp l'))
   |_=>none)
  |_=>none
 | .load T x=>(yn T).bind fun ti=>cond ti.ok (match bT GL sl x with
  |some (.cb i off)=>match cY i ob with
   |some (.cells l _)=>(gS off l).bind fun l1=>(nS ti.size l1).bind fun cs=>om ti.agg cs
   |_=>none
  |some (.d (.cp l))=>(nS ti.size l).bind fun ds=>(CF ds).bind fun cs=>om ti.agg cs
  |_=>none) none
 | .extract x i=>match bT GL sl x with
  |some (.bZ l)=>cY i l
  |some (.d (.bZ l))=>(cY i l).bind fun s=>some (.d s)
  |_=>none
 | .binOp op _ x y _=>match bT GL sl x,bT GL sl y with
  |some (.d (.v (.int k m))),some (.d (.v (.int k' n)))=>cond (QZ k k') ((PK op m n).bind fun b=>some (.d (.v (.bool b)))) none
  |some (.d (.v (.string s))),some (.d (.v (.string t)))=>(PJ op s t).bind fun b=>some (.d (.v (.bool b)))
  |_,_=>none
 | .unOp .not _ x=>match bT GL sl x with
  |some (.d (.v (.bool b)))=>some (.d (.v (.bool (!b))))
  |_=>none
 | .build T ps=>(yn T).bind fun ti=>cond ti.K4 (cond ti.NX ((E7 GL sl ps.toList).bind fun es=>(pA ti.zero).bind fun z0=>(xM ti.mr z0 es).bind fun cs=>some (.agg cs)) none) none
 |_=>none
section
variable {P:Program} {GL:Nat→List D} {n0:Nat} {Pn:pG}
end
end Go.Vd
namespace Go.Vd
open Go Go.RowKit
structure RC where
 ti:List (Nat×TI)
 us:List Nat
 ut:List Nat
def Qy:List (Nat×TI)→Nat→Option TI
 |[],_=>none
 |(k,x)::r,t=>cond (Nat.beq k t) (some x) (Qy r t)
class jR (P:Program) where
 yn:RC
 ti:∀p∈yn.ti,bl P p.1=p.2
 us:∀t∈yn.us,P.underlying t=some (.slice (bl P t).elem)
 ut:∀t∈yn.ut,P.underlying t=some .string
theorem F8:∀{l:List (Nat×TI)} {t:Nat} {x:TI},Qy l t=some x→(t,x)∈l
 |[],t,x,h=>by cases h
 |(k,y)::r,t,x,h=>by
  unfold Qy at h;cases hb:Nat.beq k t<;>rw[hb] at h
  ·exact List.mem_cons_of_mem _ (F8 h)
  ·have e:k=t:=by simpa using hb
   simp only[cond_true,Option.some.injEq] at h;subst e h;exact List.mem_cons_self
def Ns(P:Program)[T:jR P]:TypeId→Option TI:=Qy T.yn.ti
theorem rO(P:Program)[T:jR P]:KQ P (Ns P):=fun t x h=>T.ti _ (F8 h)
def QY(P:Program)[T:jR P](GL:Nat→List D)(sl:List (Nat×SV)):Op→Option SV
 | .call c=>match c.callee,c.args.toList,c.argTypes.toList with
  | .builtin .len,[x],[t]=>match bT GL sl x with
   |some (.d (.sl _ ls))=>cond (oe T.yn.us t) (some (.d (.v (.int .i64 ls.length)))) none
   |some (.own _ _ ls)=>cond (oe T.yn.us t) (some (.d (.v (.int .i64 ls.length)))) none
   |some (.d (.v (.string s)))=>cond (oe T.yn.ut t) (some (.d (.v (.int .i64 s.size)))) none
   |_=>none
  |_,_,_=>none
 |_=>none
def QB(P:Program)[T:jR P](GL:Nat→List D)(sl:List (Nat×SV))(ob:List Ob):Op→Option (SV×List Nat)
 | .load t x=>(Oa GL (Ns P) sl ob (.load t x)).bind fun s=>match bT GL sl x with
  |some (.cb i _)=>some (s,[i])
  |_=>some (s,[])
 | .call c=>(QY P GL sl (.call c)).bind fun s=>some (s,[])
 |op=>(Oa GL (Ns P) sl ob op).bind fun s=>some (s,[])
section
variable {P:Program} [T:jR P] {GL:Nat→List D} {n0:Nat} {Pn:pG}
theorem xG{l:List Nat}{t:Nat}(h:oe l t=true):t∈l:=od.1 h
variable {yn:TypeId→Option TI} {o:Oper} {n:Nat} {sl:List (Nat×SV)} {ob:List Ob} {s:SV}
theorem Gt(ht:KQ P yn){K:SV→List Nat→Prop}{t:TypeId}{x:Operand}(ho:o.op=.load t x)(h:Oa GL yn sl ob (.load t x)=some s)
 (hK:K s (match bT GL sl x with|some (.cb i _)=>[i]|_=>[])):ak P GL o ⟨n,sl,ob⟩ K:=by
 simp only[Oa] at h;obtain⟨ti,h1,h⟩:=Option.bind_eq_some_iff.1 h;cases hz:ti.ok<;>rw[hz] at h
 ·cases h
 ·simp only[cond_true] at h;split at h
  ·rename_i i off he;rw[he] at hK;split at h
   ·rename_i l ty hi;obtain⟨l1,h2,h⟩:=Option.bind_eq_some_iff.1 h;obtain⟨cs,h3,h4⟩:=Option.bind_eq_some_iff.1 h;exact DJ (ht _ _ h1) hK ho he hi hz h2 h3 h4
   ·cases h
  ·rename_i l he;rw[he] at hK;obtain⟨ds,h2,h⟩:=Option.bind_eq_some_iff.1 h;obtain⟨cs,h3,h4⟩:=Option.bind_eq_some_iff.1 h;exact JR (ht _ _ h1) hK ho he hz h2 h3 h4
  ·cases h
theorem LX(ht:KQ P yn){K:SV→List Nat→Prop}(hl:∀t x,o.op≠ .load t x)(h:Oa GL yn sl ob o.op=some s)(hK:K s []):ak P GL o ⟨n,sl,ob⟩ K:=by
 generalize ho:o.op=op at h;cases op<;>simp only[Oa,reduceCtorEq] at h
 case move x=>exact mv hK ho h
 case assign x=>exact Qq hK ho h
 case nilCheck x=>
  split at h
  ·rename_i i off he;cases h;exact QX hK ho he
  ·rename_i l he;cases h;exact LD hK ho he
  ·cases h
 case fieldAddr T x f=>
  obtain⟨ti,h1,h⟩:=Option.bind_eq_some_iff.1 h;split at h
  ·rename_i o1 sz ag r hf;cases hz:Nat.beq sz 0<;>rw[hz] at h
   ·simp only[cond_false] at h;split at h
    ·rename_i i off he;cases h;exact OX (ht _ _ h1) hK ho he hf hz
    ·rename_i l he;obtain⟨l',h2,h3⟩:=Option.bind_eq_some_iff.1 h;cases h3;exact K5 (ht _ _ h1) hK ho he hf hz h2
    ·cases h
   ·cases h
  ·cases h
 case load T x=>exact absurd ho (hl T x)
 case extract x i=>
  split at h
  ·rename_i l he;exact Q4 hK ho he h
  ·rename_i l he;obtain⟨s',h2,h3⟩:=Option.bind_eq_some_iff.1 h;cases h3;exact OY hK ho he h2
  ·cases h
 case binOp op T x y T'=>
  split at h
  ·rename_i k m k' n' hx hy;cases hk:QZ k k'<;>rw[hk] at h
   ·cases h
   obtain rfl:=NR hk;simp only[cond_true] at h;obtain⟨b,h2,h3⟩:=Option.bind_eq_some_iff.1 h;cases h3;cases op<;>simp only[PK,Option.some.injEq,reduceCtorEq] at h2
   all_goals subst h2
   case eql=>exact PA hK ho hx hy
   case neq=>exact Rx hK ho hx hy
   case lss=>exact RV hK ho hx hy
   case leq=>exact RX hK ho hx hy
   case gtr=>exact RY hK ho hx hy
   case geq=>exact RZ hK ho hx hy
  ·rename_i s' t' hx hy;obtain⟨b,h2,h3⟩:=Option.bind_eq_some_iff.1 h;cases h3;cases op<;>simp only[PJ,Option.some.injEq,reduceCtorEq] at h2
   all_goals subst h2
   case eql=>exact seq1 hK ho hx hy
   case neq=>exact QP hK ho hx hy
  ·cases h
 case unOp op T x=>
  cases op<;>simp only[Oa,reduceCtorEq] at h;split at h
  ·rename_i b he;cases h;exact PE hK ho he
  ·cases h
 case build T ps=>
  obtain⟨ti,h1,h⟩:=Option.bind_eq_some_iff.1 h;cases hz:ti.K4<;>rw[hz] at h
  ·cases h
  ·cases hf:ti.NX<;>rw[hf] at h
   ·cases h
   ·simp only[cond_true] at h;obtain⟨es,h2,h⟩:=Option.bind_eq_some_iff.1 h;obtain⟨z0,h3,h⟩:=Option.bind_eq_some_iff.1 h;obtain⟨cs,h4,h5⟩:=Option.bind_eq_some_iff.1 h;cases h5;exact Ro (ht _ _ h1) hK ho hz hf hf h2 h3 h4
theorem NP{K:SV→List Nat→Prop}{op:Op}(ho:o.op=op)(h:QY P GL sl op=some s)(hK:K s []):ak P GL o ⟨n,sl,ob⟩ K:=by
 unfold QY at h;split at h
 ·rename_i c;obtain⟨c1,⟨a⟩,⟨ts⟩⟩:=c;simp only at h;split at h
  ·rename_i x t;split at h
   ·rename_i he;cases hi:oe T.yn.us t<;>rw[hi] at h
    ·cases h
    ·cases h;exact Pu (T.us _ (xG hi)) hK ho he
   ·rename_i he;cases hi:oe T.yn.us t<;>rw[hi] at h
    ·cases h
    ·cases h;exact RU (T.us _ (xG hi)) hK ho he
   ·rename_i he;cases hi:oe T.yn.ut t<;>rw[hi] at h
    ·cases h
    ·cases h;exact RT (T.ut _ (xG hi)) hK ho he
   ·cases h
  ·cases h
 ·cases h
theorem Kn{K:SV→List Nat→Prop}{L:List Nat}(h:QB P GL sl ob o.op=some (s,L))(hK:K s L):ak P GL o ⟨n,sl,ob⟩ K:=by
 unfold QB at h;split at h
 ·rename_i t x ho;obtain⟨s',h1,h2⟩:=Option.bind_eq_some_iff.1 h;split at h2
  ·rename_i i off he;cases h2;exact Gt (rO P) ho h1 (by rw[he];exact hK)
  ·rename_i he;cases h2;refine Gt (rO P) ho h1 ?_;split
   ·rename_i i off he2;exact absurd he2 (he i off)
   ·exact hK
 ·rename_i c ho;obtain⟨s',h1,h2⟩:=Option.bind_eq_some_iff.1 h;cases h2;exact NP ho h1 hK
 ·rename_i h3 h4;obtain⟨s',h1,h2⟩:=Option.bind_eq_some_iff.1 h;cases h2;exact LX (rO P) h3 h1 hK
end
inductive Fm where
 |s (c:Code)
 |b (id:Nat)
 |q (K:St→Prop)
inductive Tg where
 |c (c:Code)
 |o (ops l:List Oper)
 |e (e:Ex)
def den(P:Program)(GL:Nat→List D)(n0:Nat)(Pn:pG)(Q:Ex→St→Prop):List Fm→Ex→St→Prop
 |[]=>Q
 | .s c::K=>Ex.seq (fun σ=>bu P GL n0 Pn c (den P GL n0 Pn Q K) σ) (den P GL n0 Pn Q K)
 | .b id::K=>Ex.inBlock id (den P GL n0 Pn Q K)
 | .q R::K=>Ex.seq (fun σ=>R σ) (den P GL n0 Pn Q K)
def Tg.ok(P:Program)(GL:Nat→List D)(n0:Nat)(Pn:pG)(K:List Fm)(Q:Ex→St→Prop)(σ:St):Tg→Prop
 | .c x=>bu P GL n0 Pn x (den P GL n0 Pn Q K) σ
 | .o x y=>bA P GL n0 Pn x y (den P GL n0 Pn Q K) σ
 | .e x=>den P GL n0 Pn Q K x σ
inductive Rz where
 |ok (t:Tg) (K:List Fm) (sl:List (Nat×SV)) (ob:List Ob)
 |no
def LK(ops:List Oper)(sl:List (Nat×SV))(o:Oper):Option Bool:=match o.guard with
 |none=>some true
 |some (j,want)=>(gR ops j).bind fun d=>match gK d sl with
  |some (.d (.v (.bool true)))=>some want
  |some (.d (.v (.bool false)))=>some (!want)
  |some (.d (.v (.tuple _)))=>some false
  |_=>none
def QV(P:Program)[T:jR P](GL:Nat→List D)(n m:Nat)(sl:List (Nat×SV))(ob:List Ob)(op:Op)(dst:Option Nat):Option (Nat×List (Nat×SV)×List Ob):=match op with
 | .alloc t=>match dst with
  |some d=>(Ns P t).bind fun ti=>cond (Nat.blt d n) (cond ti.K4 ((pA ti.zero).bind fun cs=>(ib ob [.cells cs t]).bind fun ob'=>some (m+1,(d,.cb m 0)::sl,ob')) none) none
  |none=>none
 | .box t x=>match dst with
  |some d=>(Ns P t).bind fun ti=>cond (Nat.blt d n) ((bT GL sl x).bind fun s=>(jQ ti.agg s).bind fun cs=>(ib ob [.cells cs t]).bind fun ob'=>some (m+1,(d,.cb m 0)::sl,ob')) none
  |none=>none
 | .store t x y=>match dst with
  |none=>match bT GL sl x with
   |some (.cb i off)=>match cY i ob with
    |some (.cells l ty0)=>(Ns P t).bind fun ti=>cond ti.ok ((bT GL sl y).bind fun s=>(jQ ti.agg s).bind fun cs=>cond (Nat.beq cs.length ti.size) (cond (gO cs) ((wE off cs l).bind fun l'=>(gT i (.cells l' ty0) ob).bind fun ob'=>some (m,sl,ob')) none) none) none
    |_=>none
   |_=>none
  |some _=>none
 |op=>match dst with
  |some d=>cond (Nat.blt d n) (match QB P GL sl ob op with
   |some (s,_)=>some (m,(d,s)::sl,ob)
   |none=>none) none
  |none=>none
def run(P:Program)[T:jR P](GL:Nat→List D)(n:Nat):Nat→Tg→List Fm→Nat→List (Nat×SV)→List Ob→Rz
 |0,t,K,_,sl,ob=>.ok t K sl ob
 |N+1,.c c,K,m,sl,ob=>match c with
  | .seq a b=>run P GL n N (.c a) (.s b::K) m sl ob
  | .region _ ⟨l⟩ dr=>match dr with
   |false=>run P GL n N (.o l l) K m sl ob
   |true=>.no
  | .skip=>run P GL n N (.e .normal) K m sl ob
  | .ret=>run P GL n N (.e .ret) K m sl ob
  | .exit id=>run P GL n N (.e (.exit id)) K m sl ob
  | .block id c=>run P GL n N (.c c) (.b id::K) m sl ob
  |_=>.no
 |N+1,.o ops l,K,m,sl,ob=>match l with
  |[]=>run P GL n N (.e .normal) K m sl ob
  |o::r=>match LK ops sl o with
   |some true=>match QV P GL n m sl ob o.op o.dst with
    |some (m',sl',ob')=>run P GL n N (.o ops r) K m' sl' ob'
    |none=>.no
   |some false=>match o.dst with
    |some d=>cond (Nat.blt d n) (run P GL n N (.o ops r) K m ((d,.d (.v undef))::sl) ob) .no
    |none=>.no
   |none=>.no
 |N+1,.e e,K,m,sl,ob=>match K with
  | .s c::K=>match e with
   | .normal=>run P GL n N (.c c) K m sl ob
   |e=>run P GL n N (.e e) K m sl ob
  | .b id::K=>match e with
   | .normal=>run P GL n N (.e .normal) K m sl ob
   | .exit j=>cond (Nat.beq j id) (run P GL n N (.e .normal) K m sl ob) (run P GL n N (.e (.exit j)) K m sl ob)
   |e=>run P GL n N (.e e) K m sl ob
  | .q _::K=>match e with
   | .normal=>.no
   |e=>run P GL n N (.e e) K m sl ob
  |[]=>.no
section
variable {P:Program} [T:jR P] {GL:Nat→List D} {n0:Nat} {Pn:pG} {Q:Ex→St→Prop}
variable {ops rest:List Oper} {o:Oper} {n:Nat} {sl:List (Nat×SV)} {ob:List Ob}
theorem Gl(h:LK ops sl o=some true)(hr:bA P GL n0 Pn ops ({ o with guard:=none }::rest) Q ⟨n,sl,ob⟩):bA P GL n0 Pn ops (o::rest) Q ⟨n,sl,ob⟩:=by
 unfold LK at h;split at h
 ·rename_i hg;have:({ o with guard:=none }:Oper)=o:=by cases o;simp only at hg;subst hg;rfl
  rwa [this] at hr
 ·rename_i j want hg;obtain⟨d,h1,h2⟩:=Option.bind_eq_some_iff.1 h;split at h2
  ·rename_i hs;simp only[Option.some.injEq] at h2;subst h2;exact nJ hg h1 hs hr
  ·rename_i hs;simp only[Option.some.injEq] at h2;exact nJ hg h1 (by rw[hs];cases want<;>first|rfl|cases h2) hr
  ·cases h2
  ·cases h2
variable {d:Nat}
theorem DP{t j:Nat}{want:Bool}{x:Array Value}(hg:o.guard=some (j,want))(hd:gR ops j=some d)(hb:gK d sl=some (.d (.v (.tuple x))))(hdst:o.dst=some t)(ht:Nat.blt t n=true)
 (h:bA P GL n0 Pn ops rest Q ⟨n,(t,.d (.v undef))::sl,ob⟩):bA P GL n0 Pn ops (o::rest) Q ⟨n,sl,ob⟩:=fun B hB a w ⟨g,hr⟩=>by
 have hbv:a.tmps.getD d undef=.tuple x:=by have:=hr.da d;rw[fu hb] at this;exact this
 unfold wpList;rw[oE hg hd hbv,if_neg (by simp),hdst];exact h B hB _ w ⟨g,hr.put ht rfl⟩
theorem NV(h:LK ops sl o=some false)(hd:o.dst=some d)(hb:Nat.blt d n=true)(hr:bA P GL n0 Pn ops rest Q ⟨n,(d,.d (.v undef))::sl,ob⟩):bA P GL n0 Pn ops (o::rest) Q ⟨n,sl,ob⟩:=by
 unfold LK at h;split at h
 ·cases h
 ·rename_i j want hg;obtain⟨d',h1,h2⟩:=Option.bind_eq_some_iff.1 h;split at h2
  ·rename_i hs;simp only[Option.some.injEq] at h2;subst h2;exact oR hg h1 hs hd hb hr
  ·rename_i hs;simp only[Option.some.injEq] at h2;exact oR hg h1 (by rw[hs];cases want<;>first|rfl|cases h2) hd hb hr
  ·rename_i hs;exact DP hg h1 hs hd hb hr
  ·cases h2
variable {m:Nat} {sl':List (Nat×SV)} {ob':List Ob}
theorem NI{m':Nat}(hm:ob.length=m)(hg:o.guard=none)(h:QV P GL n m sl ob o.op o.dst=some (m',sl',ob'))(hr:ob'.length=m'→bA P GL n0 Pn ops rest Q ⟨n,sl',ob'⟩):bA P GL n0 Pn ops (o::rest) Q ⟨n,sl,ob⟩:=by
 unfold QV at h;split at h
 ·rename_i t ho;split at h
  ·rename_i d hd;obtain⟨ti,h1,h⟩:=Option.bind_eq_some_iff.1 h;cases hb:Nat.blt d n<;>rw[hb] at h
   ·cases h
   cases hz:ti.K4<;>rw[hz] at h
   ·cases h
   simp only[cond_true] at h;obtain⟨cs,h2,h⟩:=Option.bind_eq_some_iff.1 h;obtain⟨ob1,h3,h⟩:=Option.bind_eq_some_iff.1 h;cases h;exact oc (T:=fun _=>False) (Qs (rO P _ _ h1) (hr (by rw[fj h3];simp[hm])) ho hd hz hb h2 h3 hm) hg
  ·cases h
 ·rename_i t x ho;split at h
  ·rename_i d hd;obtain⟨ti,h1,h⟩:=Option.bind_eq_some_iff.1 h;cases hb:Nat.blt d n<;>rw[hb] at h
   ·cases h
   simp only[cond_true] at h;obtain⟨s,h2,h⟩:=Option.bind_eq_some_iff.1 h;obtain⟨cs,h3,h⟩:=Option.bind_eq_some_iff.1 h;obtain⟨ob1,h4,h⟩:=Option.bind_eq_some_iff.1 h;cases h;exact oc (T:=fun _=>False) (bx (rO P _ _ h1) (hr (by rw[fj h4];simp[hm])) ho hd h2 hb h3 h4 hm) hg
  ·cases h
 ·rename_i t x y ho;split at h
  ·rename_i hd;split at h
   ·rename_i i off he;split at h
    ·rename_i l ty0 hi;obtain⟨ti,h1,h⟩:=Option.bind_eq_some_iff.1 h;cases hz:ti.ok<;>rw[hz] at h
     ·cases h
     simp only[cond_true] at h;obtain⟨s,h2,h⟩:=Option.bind_eq_some_iff.1 h;obtain⟨cs,h3,h⟩:=Option.bind_eq_some_iff.1 h;cases hs:Nat.beq cs.length ti.size<;>rw[hs] at h
     ·cases h
     cases ha:gO cs<;>rw[ha] at h
     ·cases h
     simp only[cond_true] at h;obtain⟨l',h4,h⟩:=Option.bind_eq_some_iff.1 h;obtain⟨ob1,h5,h⟩:=Option.bind_eq_some_iff.1 h;cases h;exact oc (dN (rO P _ _ h1) (hr (by rw[(eT h5).1,List.length_set];exact hm)) ho hd he h2 hi hz h3 hs ha h4 h5) hg
    ·cases h
   ·cases h
  ·cases h
 ·split at h
  ·rename_i d hd;cases hb:Nat.blt d n<;>rw[hb] at h
   ·cases h
   simp only[cond_true] at h;split at h
   ·rename_i s L hs;cases h;exact nK hg hd hb (Kn hs (hr hm))
   ·cases h
  ·cases h
theorem eN{n:Nat}:∀{N:Nat} {t t':Tg} {K K':List Fm} {m:Nat} {sl sl':List (Nat×SV)} {ob ob':List Ob},ob.length=m→run P GL n N t K m sl ob=.ok t' K' sl' ob'→t'.ok P GL n0 Pn K' Q ⟨n,sl',ob'⟩→t.ok P GL n0 Pn K Q ⟨n,sl,ob⟩
 |0,t,t',K,K',m,sl,sl',ob,ob',hm,he,h=>by cases he;exact h
 |N+1,.c c,t',K,K',m,sl,sl',ob,ob',hm,he,h=>by
  show bu P GL n0 Pn c (den P GL n0 Pn Q K) _;unfold run at he;split at he
  ·exact wJ (eN hm he h)
  ·rename_i id l dr;split at he
   ·exact mQ (eN hm he h)
   ·cases he
  ·exact G9 (eN hm he h)
  ·exact BN (eN hm he h)
  ·exact Ha (eN hm he h)
  ·exact rV (eN hm he h)
  ·cases he
 |N+1,.o ops l,t',K,K',m,sl,sl',ob,ob',hm,he,h=>by
  show bA P GL n0 Pn ops l (den P GL n0 Pn Q K) _;unfold run at he;split at he
  ·exact vU (eN hm he h)
  ·rename_i o r;split at he
   ·rename_i hg;split at he
    ·rename_i m1 sl1 ob1 hop;exact Gl hg (NI (o:={ o with guard:=none }) hm rfl hop fun hm'=>eN hm' he h)
    ·cases he
   ·rename_i hg;split at he
    ·rename_i d hd;cases hb:Nat.blt d n<;>rw[hb] at he
     ·cases he
     ·exact NV hg hd hb (eN hm he h)
    ·cases he
   ·cases he
 |N+1,.e e,t',K,K',m,sl,sl',ob,ob',hm,he,h=>by
  show den P GL n0 Pn Q K e _;cases K with
  |nil=>simp only[run,reduceCtorEq] at he
  |cons f K=>
   cases f with
   |s c=>cases e<;>exact(eN (N:=N) hm he h:Tg.ok _ _ _ _ _ _ _ _)
   |b id=>
    cases e with
    |exit j=>
     change cond (Nat.beq j id) _ _=_ at he
     cases hb:Nat.beq j id<;>rw[hb] at he
     ·have h1:=eN (N:=N) hm he h;exact Hx (Q:=den P GL n0 Pn Q K) hb h1
     ·have e:j=id:=by simpa using hb
      subst e;have h1:=eN (N:=N) hm he h;exact JZ (Q:=den P GL n0 Pn Q K) h1
    |normal=>exact(eN (N:=N) hm he h:Tg.ok _ _ _ _ _ _ _ _)
    |goto l=>exact(eN (N:=N) hm he h:Tg.ok _ _ _ _ _ _ _ _)
    |ret=>exact(eN (N:=N) hm he h:Tg.ok _ _ _ _ _ _ _ _)
   |q R=>
    cases e with
    |normal=>cases he
    |exit j=>exact(eN (N:=N) hm he h:Tg.ok _ _ _ _ _ _ _ _)
    |goto l=>exact(eN (N:=N) hm he h:Tg.ok _ _ _ _ _ _ _ _)
    |ret=>exact(eN (N:=N) hm he h:Tg.ok _ _ _ _ _ _ _ _)
theorem gy{Q:Ex→St→Prop}(h:bA P GL n0 Pn ops ({ o with guard:=none }::rest) Q ⟨n,sl,ob⟩)(hg:LK ops sl o=some true:=by exact rfl):bA P GL n0 Pn ops (o::rest) Q ⟨n,sl,ob⟩:=Gl hg h
variable {c:Code} {t:Tg} {K K':List Fm}
theorem gc(N:Nat)(h:t.ok P GL n0 Pn K' Q ⟨n,sl',ob'⟩)(hm:ob.length=m:=by simp only[List.length_cons,List.length_nil,Nat.reduceAdd];rfl)(he:run P GL n N (.c c) K m sl ob=.ok t K' sl' ob':=by exact rfl):bu P GL n0 Pn c (den P GL n0 Pn Q K) ⟨n,sl,ob⟩:=eN (t:=.c c) hm he h
variable {l:List Oper}
theorem go(N:Nat)(h:t.ok P GL n0 Pn K' Q ⟨n,sl',ob'⟩)(hm:ob.length=m:=by simp only[List.length_cons,List.length_nil,Nat.reduceAdd];rfl)(he:run P GL n N (.o ops l) K m sl ob=.ok t K' sl' ob':=by exact rfl):bA P GL n0 Pn ops l (den P GL n0 Pn Q K) ⟨n,sl,ob⟩:=eN (t:=.o ops l) hm he h
variable {e:Ex}
theorem ge(N:Nat)(h:t.ok P GL n0 Pn K' Q ⟨n,sl',ob'⟩)(hm:ob.length=m:=by simp only[List.length_cons,List.length_nil,Nat.reduceAdd];rfl)(he:run P GL n N (.e e) K m sl ob=.ok t K' sl' ob':=by exact rfl):den P GL n0 Pn Q K e ⟨n,sl,ob⟩:=eN (t:=.e e) hm he h
variable {K0:List Fm} {m1:Nat} {sl1 sl2:List (Nat×SV)} {ob1:List Ob}
theorem gk(N:Nat)(L:List Nat)(M:Nat){t0:Tg}(h:t.ok P GL n0 Pn K' Q ⟨n,sl',ob'⟩)(hm:ob.length=m)(h1:run P GL n N t0 K0 m sl ob=.ok (.c c) K sl1 ob1)(h2:jb sl1 L=some sl2)(hm1:ob1.length=m1)(h3:run P GL n M (.c c) K m1 sl2 ob1=.ok t K' sl' ob'):t0.ok P GL n0 Pn K0 Q ⟨n,sl,ob⟩:=
 eN hm h1 (show bu _ _ _ _ _ _ _ from zk L h2 (eN (t:=.c c) hm1 h3 h))
theorem kc(N:Nat)(L:List Nat)(M:Nat){c0:Code}(h:t.ok P GL n0 Pn K' Q ⟨n,sl',ob'⟩)(hm:ob.length=m:=by simp only[List.length_cons,List.length_nil,Nat.reduceAdd];rfl)(h1:run P GL n N (.c c0) K0 m sl ob=.ok (.c c) K sl1 ob1:=by exact rfl)(h2:jb sl1 L=some sl2:=by exact rfl)(hm1:ob1.length=m1:=by simp only[List.length_cons,List.length_nil,Nat.reduceAdd];rfl)(h3:run P GL n M (.c c) K m1 sl2 ob1=.ok t K' sl' ob':=by exact rfl):bu P GL n0 Pn c0 (den P GL n0 Pn Q K0) ⟨n,sl,ob⟩:=gk (t0:=.c c0) N L M h hm h1 h2 hm1 h3
theorem ko(N:Nat)(L:List Nat)(M:Nat)(h:t.ok P GL n0 Pn K' Q ⟨n,sl',ob'⟩)(hm:ob.length=m:=by simp only[List.length_cons,List.length_nil,Nat.reduceAdd];rfl)(h1:run P GL n N (.o ops l) K0 m sl ob=.ok (.c c) K sl1 ob1:=by exact rfl)(h2:jb sl1 L=some sl2:=by exact rfl)(hm1:ob1.length=m1:=by simp only[List.length_cons,List.length_nil,Nat.reduceAdd];rfl)(h3:run P GL n M (.c c) K m1 sl2 ob1=.ok t K' sl' ob':=by exact rfl):bA P GL n0 Pn ops l (den P GL n0 Pn Q K0) ⟨n,sl,ob⟩:=gk (t0:=.o ops l) N L M h hm h1 h2 hm1 h3
theorem ke(N:Nat)(L:List Nat)(M:Nat)(h:t.ok P GL n0 Pn K' Q ⟨n,sl',ob'⟩)(hm:ob.length=m:=by simp only[List.length_cons,List.length_nil,Nat.reduceAdd];rfl)(h1:run P GL n N (.e e) K0 m sl ob=.ok (.c c) K sl1 ob1:=by exact rfl)(h2:jb sl1 L=some sl2:=by exact rfl)(hm1:ob1.length=m1:=by simp only[List.length_cons,List.length_nil,Nat.reduceAdd];rfl)(h3:run P GL n M (.c c) K m1 sl2 ob1=.ok t K' sl' ob':=by exact rfl):den P GL n0 Pn Q K0 e ⟨n,sl,ob⟩:=gk (t0:=.e e) N L M h hm h1 h2 hm1 h3
end
end Go.Vd
namespace Go.Vd
open Go Go.RowKit
section
variable {P:Program} {GL:Nat→List D} {n0:Nat} {Pn:pG}
variable {f:FuncId} {fn:Func} {c:Code} {ob:List Ob} {n:Nat} {rs:List ResultVar} {sl:List (Nat×SV)}
theorem bS{args:List SV}{Q:Out→List Ob→Prop}(hf:P.funcs[f]? =some fn)(hnt:fn.ntmps=n)(k:Nat)(h:bu P GL k (MH k Q) c (den P GL k (MH k Q) (fin P GL k rs Q) []) ⟨n,sl,ob⟩)
 (hb:fn.body=some c:=by exact rfl) (hrs:fn.results.toList=rs:=by exact rfl) (hn:Nat.ble args.length n=true:=by exact rfl) (hsl:nG 0 args=some sl:=by exact rfl) (hk:ob.length=k:=by exact rfl):et P GL f ob args Q:=An hf hb hnt hrs hn hsl k hk h
theorem bD{args:List D}{Q:D→Prop}(hf:P.funcs[f]? =some fn)(hnt:fn.ntmps=n)(h:bu P GL 0 ⟨fun _ _ _=>False,fun _ _ _ _=>False⟩ c (den P GL 0 ⟨fun _ _ _=>False,fun _ _ _ _=>False⟩ (fin P GL 0 rs (vG Q)) []) ⟨n,sl,[]⟩)
 (hb:fn.body=some c:=by exact rfl) (hrs:fn.results.toList=rs:=by exact rfl) (hn:Nat.ble args.length n=true:=by exact rfl) (hsl:nG 0 (args.map .d)=some sl:=by exact rfl):cD P GL f args Q:=Ao hf hb hnt hrs hn hsl h
variable {Q:Ex→St→Prop} {K:List Fm}
variable {csl:List (Nat×SV)} {ι:Type}
theorem lP(ov:ι→List (Nat×SV))(cs:List Nat)(Inv:ι→Prop)(m:ι→Nat)(i0:ι)(hk:jb sl cs=some csl)(hI:Inv i0)
 (hm:pH n0 ⟨n,sl,ob⟩ ⟨n,ov i0++csl,ob⟩ (QA 0 ob.length))
 (h:∀i,Inv i→bu P GL n0 Pn c (den P GL n0 Pn Q (.q (fun σ'=>sS n0 (fun i=>⟨n,ov i++csl,ob⟩) (fun j=>Inv j∧m j<m i) σ')::K)) ⟨n,ov i++csl,ob⟩):bu P GL n0 Pn (.loop c) (den P GL n0 Pn Q K) ⟨n,sl,ob⟩:=
 BP ov cs Inv m i0 hk hI hm h
theorem lp(ov:ι→List (Nat×SV))(obi:ι→List Ob)(cs:List Nat)(Inv:ι→Prop)(m:ι→Nat)(i0:ι)(ρ:List Nat)(hk:jb sl cs=some csl)(hI:Inv i0)
 (hm:pH n0 ⟨n,sl,ob⟩ ⟨n,ov i0++csl,obi i0⟩ ρ)
 (h:∀i,Inv i→bu P GL n0 Pn c (den P GL n0 Pn Q (.q (fun σ'=>sS n0 (fun i=>⟨n,ov i++csl,obi i⟩) (fun j=>Inv j∧m j<m i) σ')::K)) ⟨n,ov i++csl,obi i⟩):bu P GL n0 Pn (.loop c) (den P GL n0 Pn Q K) ⟨n,sl,ob⟩:=
 BO ov obi cs Inv m i0 ρ hk hI hm h
variable {c1 c2:Code}
theorem xc(ov:ι→List (Nat×SV))(cs:List Nat)(Inv:ι→Prop)(hk:jb sl cs=some csl)
 (h1:bu P GL n0 Pn c1 (den P GL n0 Pn Q (.q (fun σ'=>sS n0 (fun i=>⟨n,ov i++csl,ob⟩) Inv σ')::K)) ⟨n,sl,ob⟩) (h2:∀i,Inv i→bu P GL n0 Pn c2 (den P GL n0 Pn Q K) ⟨n,ov i++csl,ob⟩):bu P GL n0 Pn c1 (den P GL n0 Pn Q (.s c2::K)) ⟨n,sl,ob⟩:=
 Eb ov cs Inv hk h1 h2
theorem xo(ov:ι→List (Nat×SV))(obi:ι→List Ob)(cs:List Nat)(Inv:ι→Prop)(hk:jb sl cs=some csl)
 (h1:bu P GL n0 Pn c1 (den P GL n0 Pn Q (.q (fun σ'=>sS n0 (fun i=>⟨n,ov i++csl,obi i⟩) Inv σ')::K)) ⟨n,sl,ob⟩) (h2:∀i,Inv i→bu P GL n0 Pn c2 (den P GL n0 Pn Q K) ⟨n,ov i++csl,obi i⟩):bu P GL n0 Pn c1 (den P GL n0 Pn Q (.s c2::K)) ⟨n,sl,ob⟩:=
 Ea ov obi cs Inv hk h1 h2
variable {sl':List (Nat×SV)} {ob':List Ob}
theorem bk{S:ι→St}{I:ι→Prop}(i:ι)(hS:S i=⟨n,sl',ob'⟩)(hI:I i)(ρ:List Nat)(hm:pH n0 ⟨n,sl,ob⟩ ⟨n,sl',ob'⟩ ρ):Tg.ok P GL n0 Pn (.q (fun σ'=>sS n0 S I σ')::K) Q ⟨n,sl,ob⟩ (.e .normal):=(⟨i,ρ,hI,hS▸hm⟩:sS n0 S I _)
theorem bi{S:ι→St}{I:ι→Prop}(i:ι)(hS:S i=⟨n,sl',ob'⟩)(hI:I i)(hm:pH n0 ⟨n,sl,ob⟩ ⟨n,sl',ob'⟩ (QA 0 ob'.length)):Tg.ok P GL n0 Pn (.q (fun σ'=>sS n0 S I σ')::K) Q ⟨n,sl,ob⟩ (.e .normal):=(⟨i,_,hI,hS▸hm⟩:sS n0 S I _)
theorem mz{ρ:List Nat}(hob:ch ob ρ ob' ρ:=by repeat (first|exact cH|refine bj ?_|refine cr ?_|refine ya ?_|refine ia ?_|refine Ft ?_))(hsl:oD ob ρ sl sl':=by repeat (first|exact dC|refine aJ ?_))(hp:pre 0 n0 ρ=true:=by exact rfl)(hnd:fA ρ=true:=by exact rfl)(hno:fV ob'=true:=by exact rfl):pH n0 ⟨n,sl,ob⟩ ⟨n,sl',ob'⟩ ρ:=CD hp hnd hno hob hsl
variable {σ:St} {b:Bool} {p q:Prop}
theorem cj{c:Operand}(h1:p→bu P GL n0 Pn c1 Q σ)(h2:q→bu P GL n0 Pn c2 Q σ)(hc:bT GL σ.sl c=some (.d (.v (.bool b))):=by exact rfl)
 (hp:(b=true)=p:=by first|(simp only[du,Int.reduceEq,Int.reduceNe,Int.reduceLT,Int.reduceLE];exact rfl)|exact rfl) (hq:(b=false)=q:=by first|(simp only[du,Int.reduceEq,Int.reduceNe,Int.reduceLT,Int.reduceLE];exact rfl)|exact rfl):bu P GL n0 Pn (.cond c c1 c2) Q σ:=j0 hc (fun h=>h1 (hp▸h)) (fun h=>h2 (hq▸h))
theorem cJ{c:Operand}(h2:q→bu P GL n0 Pn c2 Q σ)(h1:p→bu P GL n0 Pn c1 Q σ)(hc:bT GL σ.sl c=some (.d (.v (.bool b))):=by exact rfl)
 (hp:(b=true)=p:=by first|(simp only[du,Int.reduceEq,Int.reduceNe,Int.reduceLT,Int.reduceLE];exact rfl)|exact rfl) (hq:(b=false)=q:=by first|(simp only[du,Int.reduceEq,Int.reduceNe,Int.reduceLT,Int.reduceLE];exact rfl)|exact rfl):bu P GL n0 Pn (.cond c c1 c2) Q σ:=j0 hc (fun h=>h1 (hp▸h)) (fun h=>h2 (hq▸h))
theorem ct{c:Operand}(h:bu P GL n0 Pn c1 Q σ)(hc:bT GL σ.sl c=some (.d (.v (.bool b))):=by exact rfl)(hf:(b=false)=False:=by simp only[du,Int.reduceEq,Int.reduceNe,Int.reduceLT,Int.reduceLE]):bu P GL n0 Pn (.cond c c1 c2) Q σ:=j0 hc (fun _=>h) (fun e=>(hf▸e:False).elim)
theorem cf{c:Operand}(h:bu P GL n0 Pn c2 Q σ)(hc:bT GL σ.sl c=some (.d (.v (.bool b))):=by exact rfl)(hf:(b=true)=False:=by simp only[du,Int.reduceEq,Int.reduceNe,Int.reduceLT,Int.reduceLE]):bu P GL n0 Pn (.cond c c1 c2) Q σ:=j0 hc (fun e=>(hf▸e:False).elim) (fun _=>h)
variable {d t:Nat} {y:SV}
theorem nV{x:SV}(hd:gK d sl=some y)(h:gK t sl=some x):gK t ((d,y)::sl)=some x:=by
 show cond (Nat.beq d t) (some y) (gK t sl)=some x;cases hb:Nat.beq d t
 ·exact h
 ·have e:d=t:=by simpa using hb
  subst e;exact hd.symm.trans h
variable {ops l:List Oper}
theorem qR{s:SV}{nw:List (Nat×SV)}(hy:gK d sl=some y)(hd:nu nw ((d,y)::sl)=true)(h:bA P GL n0 Pn ops l Q ⟨n,(t,s)::sl,ob⟩):bA P GL n0 Pn ops l Q ⟨n,(t,s)::(nw++(d,y)::sl),ob⟩:=fun B hB a w ⟨g,hr⟩=>
 h B hB a w ⟨g,hr.defers,hr.size,fun u=>by
  have h1:=hr.da u;show(oK u ((t,s)::sl)).Den g _;rw[eM] at h1 ⊢;split
  ·rename_i e;rw[if_pos e] at h1;exact h1
  ·rename_i e;rw[if_neg e] at h1;rw[Ar] at h1 ⊢;cases hs:gK u sl with
   |none=>trivial
   |some x=>rw[fY hd (nV hy hs)] at h1;exact h1,hr.store,hr.fI⟩
variable {o:Oper}
theorem Nk.over(hy:gK d sl=some y)(h:Nk ops sl o):Nk ops ((d,y)::sl) o:=by
 cases h with
 |none h=>exact .none h
 |yes h1 h2 h3 h4=>exact .yes h1 h2 (nV hy h3) h4
variable {rest:List Oper} {yt:Nat} {q1 q2:Prop}
theorem oa{p:Bool}(k:Nat)
 (h1:q1→(∀ nw,gK yt nw=some (.d (.v (.bool p)))→nu nw ((d,.d (.v (.bool true)))::sl)=true→bA P GL n0 Pn ops (o::rest) Q ⟨n,nw++(d,.d (.v (.bool true)))::sl,ob⟩)→bA P GL n0 Pn ops l Q ⟨n,(d,.d (.v (.bool true)))::sl,ob⟩)
 (h2:q2→(∀ nw,nu nw ((d,.d (.v (.bool false)))::sl)=true→bA P GL n0 Pn ops (o::rest) Q ⟨n,nw++(d,.d (.v (.bool false)))::sl,ob⟩)→bA P GL n0 Pn ops l Q ⟨n,(d,.d (.v (.bool false)))::sl,ob⟩)
 (h:bA P GL n0 Pn ops rest Q ⟨n,(t,.d (.v (.bool (b&&p))))::sl,ob⟩)
 (hl:gS k l=some (o::rest):=by exact rfl) (ho:o.op=.pick (.tmp d) (.tmp yt) (.const (.bool false)):=by exact rfl) (hb:gK d sl=some (.d (.v (.bool b))):=by exact rfl) (hd:o.dst=some t:=by exact rfl) (ht:Nat.blt t n=true:=by exact rfl)
 (hp:(b=true)=q1:=by first|(simp only[du,Int.reduceEq,Int.reduceNe,Int.reduceLT,Int.reduceLE];exact rfl)|exact rfl) (hq:(b=false)=q2:=by first|(simp only[du,Int.reduceEq,Int.reduceNe,Int.reduceLT,Int.reduceLE];exact rfl)|exact rfl) (hg:Nk ops sl o:=by exact .none rfl):bA P GL n0 Pn ops l Q ⟨n,sl,ob⟩:=by
 cases hbb:b with
 |true=>
  subst hbb;refine mS d true hb rfl (h1 (hp▸rfl) fun nw hy hdj=>np (hg.over hb) hdj (nK rfl hd ht (oq ho (fY hdj (nV hb hb)) (tn hy) ?_)));exact qR hb hdj (by simpa using h)
 |false=>
  subst hbb;refine mS d false hb rfl (h2 (hq▸rfl) fun nw hdj=>np (hg.over hb) hdj (nK rfl hd ht (ot ho (fY hdj (nV hb hb)) rfl ?_)));exact qR hb hdj (by simpa using h)
theorem oo{p:Bool}(k:Nat)
 (h1:q1→(∀ nw,gK yt nw=some (.d (.v (.bool p)))→nu nw ((d,.d (.v (.bool false)))::sl)=true→bA P GL n0 Pn ops (o::rest) Q ⟨n,nw++(d,.d (.v (.bool false)))::sl,ob⟩)→bA P GL n0 Pn ops l Q ⟨n,(d,.d (.v (.bool false)))::sl,ob⟩)
 (h2:q2→(∀ nw,nu nw ((d,.d (.v (.bool true)))::sl)=true→bA P GL n0 Pn ops (o::rest) Q ⟨n,nw++(d,.d (.v (.bool true)))::sl,ob⟩)→bA P GL n0 Pn ops l Q ⟨n,(d,.d (.v (.bool true)))::sl,ob⟩)
 (h:bA P GL n0 Pn ops rest Q ⟨n,(t,.d (.v (.bool (b||p))))::sl,ob⟩)
 (hl:gS k l=some (o::rest):=by exact rfl) (ho:o.op=.pick (.tmp d) (.const (.bool true)) (.tmp yt):=by exact rfl) (hb:gK d sl=some (.d (.v (.bool b))):=by exact rfl) (hd:o.dst=some t:=by exact rfl) (ht:Nat.blt t n=true:=by exact rfl)
 (hp:(b=false)=q1:=by first|(simp only[du,Int.reduceEq,Int.reduceNe,Int.reduceLT,Int.reduceLE];exact rfl)|exact rfl) (hq:(b=true)=q2:=by first|(simp only[du,Int.reduceEq,Int.reduceNe,Int.reduceLT,Int.reduceLE];exact rfl)|exact rfl) (hg:Nk ops sl o:=by exact .none rfl):bA P GL n0 Pn ops l Q ⟨n,sl,ob⟩:=by
 cases hbb:b with
 |false=>
  subst hbb;refine mS d false hb rfl (h1 (hp▸rfl) fun nw hy hdj=>np (hg.over hb) hdj (nK rfl hd ht (ot ho (fY hdj (nV hb hb)) (tn hy) ?_)));exact qR hb hdj (by simpa using h)
 |true=>
  subst hbb;refine mS d true hb rfl (h2 (hq▸rfl) fun nw hdj=>np (hg.over hb) hdj (nK rfl hd ht (oq ho (fY hdj (nV hb hb)) rfl ?_)));exact qR hb hdj (by simpa using h)
variable {ty:TypeId} {ti:TI} {k:Nat}
theorem qB{K:St→Prop}{cs:List SV}(hT:bl P ty=ti)(h:K ⟨n,(t,.cb k 0)::sl,ob'⟩)(ho:o.op=.alloc ty:=by exact rfl)(hd:o.dst=some t:=by exact rfl)(hz:ti.K4=true:=by exact rfl)(ht:Nat.blt t n=true:=by exact rfl)(hm:pA ti.zero=some cs:=by exact rfl)(hob:ib ob [.cells cs ty]=some ob':=by exact rfl)(hl:ob.length=k:=by simp only[List.length_cons,List.length_nil,Nat.reduceAdd];rfl):di P GL n0 Pn (fun _=>False) o ⟨n,sl,ob⟩ K:=Cr hT hz ho hd ht hm hl hob h
variable {e:TypeId} {size bytes:Nat}
theorem gD{len:Nat}{K:St→Prop}{parts:Array (Nat×Operand)}(TS:iY P ty e size bytes)(xs:List Operand){els:List (List D)}(hT:bl P e=ti)(h:K ⟨n,(t,.own k size els)::sl,ob'⟩)(ho:o.op=.buildSlice ty len parts:=by exact rfl)
 (hd:o.dst=some t:=by exact rfl) (ht:Nat.blt t n=true:=by exact rfl) (hp:Hy 0 xs=some parts.toList:=by exact rfl) (hel:HZ GL sl ti.agg xs=some els:=by exact rfl) (hall:DE size els=true:=by exact rfl) (hn:xs.length=len:=by exact rfl) (hsz:0<size:=by decide) (hn0:0<len:=by decide) (hbig:len*size≤16777216:=by decide) (hl:ob.length=k:=by simp only[List.length_cons,List.length_nil,Nat.reduceAdd];rfl) (hob:ib ob [.row e size]=some ob':=by exact rfl):di P GL n0 Pn (fun _=>False) o ⟨n,sl,ob⟩ K:=NG TS xs hT ho hd ht hp hel hall hn hsz hn0 hbig hl hob h
theorem px{i:Nat}{ob1:List Ob}{K:St→Prop}{s x:Operand}{ls news:List (List D)}{or:Ob}{sx:SV}(TS:iY P ty e size bytes)(h:K ⟨n,(t,.own i size (ls++news))::sl',ob'⟩)(ho:o.op=.call { callee:=.builtin .append,args:= #[s,x],argTypes:= #[ty,ty] }:=by exact rfl)
 (hd:o.dst=some t:=by exact rfl) (ht:Nat.blt t n=true:=by exact rfl) (hs:bT GL sl s=some (.own i size ls):=by exact rfl) (hx:bT GL sl x=some sx:=by exact rfl) (hxD:sx.gW=some (.sl size news):=by exact rfl) (hi:cY i ob=some or:=by exact rfl) (hor:or=.row e size∨or=.bX e size:=by exact .inl rfl)
 (hsz:0<size:=by decide) (hne:news≠[]:=by simp) (h63:ls.length+news.length≤maxLen∧(ls.length+news.length)*bytes≤140737488355328:=by first|decide|(simp only[maxLen,List.length_cons,List.length_nil];omega)|(simp only[maxLen,List.length_cons,List.length_nil,List.length_append,List.length_map];omega)|omega) (hsl:Bo i sl=some sl':=by exact rfl) (hob:Bp i ob=some ob1:=by exact rfl) (hob':gT i (.row e size) ob1=some ob':=by exact rfl):di P GL n0 Pn (fun j=>j=i) o ⟨n,sl,ob⟩ K:=uv TS ho hd ht hs hx hxD hi hor hsz hne h63 hsl hob hob' h
theorem fN{Q:Out→List Ob→Prop}(h:Fin P GL n0 rs Q σ):fin P GL n0 rs Q .normal σ:=h
end
section
variable {P:Program} [T:jR P] {GL:Nat→List D} {n0:Nat} {Pn:pG}
def BX(P:Program)[T:jR P](sl:List (Nat×SV))(ob:List Ob):List ResultVar→Option (List SV)
 |[]=>some []
 | .tmp t::r=>(gK t sl).bind fun s=>(BX P sl ob r).bind fun l=>some (s::l)
 | .cell x t::r=>(Ns P t).bind fun ti=>cond ti.ok (match gK x sl with
  |some (.cb i off)=>match cY i ob with
   |some (.cells l _)=>(gS off l).bind fun l1=>(nS ti.size l1).bind fun cs=>(om ti.agg cs).bind fun s=>(BX P sl ob r).bind fun l=>some (s::l)
   |_=>none
  |_=>none) none
theorem qO{n:Nat}{sl:List (Nat×SV)}{ob:List Ob}:∀{rs:List ResultVar} {l:List SV},BX P sl ob rs=some l→hJ GL P ⟨n,sl,ob⟩ rs l
 |[],l,h=>by simp only[BX,Option.some.injEq] at h;exact h.symm
 | .tmp t::r,l,h=>by
  obtain⟨s,h1,h⟩:=Option.bind_eq_some_iff.1 h;obtain⟨l1,h2,h3⟩:=Option.bind_eq_some_iff.1 h;cases h3;exact⟨_,_,rfl,h1,qO h2⟩
 | .cell x t::r,l,h=>by
  obtain⟨ti,h1,h⟩:=Option.bind_eq_some_iff.1 h;cases hz:ti.ok<;>rw[hz] at h
  ·cases h
  simp only[cond_true] at h;split at h
  ·rename_i i off he;split at h
   ·rename_i l0 ty hi;obtain⟨l1,h2,h⟩:=Option.bind_eq_some_iff.1 h;obtain⟨cs,h3,h⟩:=Option.bind_eq_some_iff.1 h;obtain⟨s,h4,h⟩:=Option.bind_eq_some_iff.1 h;obtain⟨l2,h5,h6⟩:=Option.bind_eq_some_iff.1 h;cases h6;exact⟨_,_,rfl,dZ he hi (rO P _ _ h1) hz h2 h3 h4,qO h5⟩
   ·cases h
  ·cases h
variable {rs:List ResultVar} {σ:St}
theorem fR{Q:Out→List Ob→Prop}(h:Fin P GL n0 rs Q σ):Tg.ok P GL n0 Pn [] (fin P GL n0 rs Q) σ (.e .ret):=h
theorem fM{Q:Out→List Ob→Prop}(h:Fin P GL n0 rs Q σ):Tg.ok P GL n0 Pn [] (fin P GL n0 rs Q) σ (.e .normal):=h
variable {n:Nat} {sl:List (Nat×SV)} {ob:List Ob}
theorem eo{Q:Out→List Ob→Prop}{l:List SV}{d:D}(d':D)(ρ:List Nat)(ob':List Ob)(hq:Q (.ret (.d d')) ob')(h:BX P sl ob rs=some l:=by exact rfl)(hd:(pV l).gW=some d:=by exact rfl)(hl:DL d d':=by repeat (first|exact .refl _|exact .nil|refine .agg ?_|refine .bZ ?_|refine .sl ?_|refine .cons ?_ ?_))
 (hob:ch ob ρ ob' ρ:=by repeat (first|exact cH|refine bj ?_|refine cr ?_|refine ya ?_|refine ia ?_|refine Ft ?_)) (hp:pre 0 n0 ρ=true:=by exact rfl) (hnd:fA ρ=true:=by exact rfl) (hno:fV ob'=true:=by exact rfl):Tg.ok P GL n0 Pn [] (fin P GL n0 rs Q) ⟨n,sl,ob⟩ (.e .ret):=
 nq (n0:=n0) (qO h) hd d' hl ρ ob' hp hnd hno hob hq
theorem ed{Q:D→Prop}{l:List SV}{d:D}(d':D)(hq:Q d')(h:BX P sl ob rs=some l:=by exact rfl)(hd:(pV l).gW=some d:=by exact rfl)(hl:DL d d':=by repeat (first|exact .refl _|exact .nil|refine .agg ?_|refine .bZ ?_|refine .sl ?_|refine .cons ?_ ?_)):Tg.ok P GL 0 Pn [] (fin P GL 0 rs (vG Q)) ⟨n,sl,ob⟩ (.e .ret):=
 Oc (qO h) hd d' hl hq
theorem ez{Q:D→Prop}{l:List SV}{d:D}(hq:Q d)(h:BX P sl ob rs=some l:=by exact rfl)(hd:(pV l).gW=some d:=by exact rfl):Tg.ok P GL 0 Pn [] (fin P GL 0 rs (vG Q)) ⟨n,sl,ob⟩ (.e .ret):=
 MM (qO h) hd hq
theorem sZ{Q:Out→List Ob→Prop}{l:List SV}{d:D}(ρ:List Nat)(ob':List Ob)(hq:Q (.ret (.d d)) ob')(h:BX P sl ob rs=some l:=by exact rfl)(hd:(pV l).gW=some d:=by exact rfl)
 (hob:ch ob ρ ob' ρ:=by repeat (first|exact cH|refine bj ?_|refine cr ?_|refine ya ?_|refine ia ?_|refine Ft ?_)) (hp:pre 0 n0 ρ=true:=by exact rfl) (hnd:fA ρ=true:=by exact rfl) (hno:fV ob'=true:=by exact rfl):Tg.ok P GL n0 Pn [] (fin P GL n0 rs Q) ⟨n,sl,ob⟩ (.e .ret):=
 jO (n0:=n0) (qO h) hd ρ ob' hp hnd hno hob hq
variable {l:List Oper} {o:Oper} {b:Bool}
theorem ML{B:Bs}{g:Gh}{a:Act}{w:World}(hr:cE GL B ⟨n,sl,ob⟩ g a w)(h:LK l sl o=some b):Region.wanted o (yielded l.toArray a.tmps)=b:=by
 unfold LK at h;split at h
 ·rename_i hg;cases h;simp[Region.wanted,hg]
 ·rename_i j want hg;obtain⟨d',h1,h2⟩:=Option.bind_eq_some_iff.1 h;split at h2
  ·rename_i hs;rw[je hr hg h1 hs];simp only[Option.some.injEq] at h2;rw[← h2];cases want<;>rfl
  ·rename_i hs;rw[je hr hg h1 hs];simp only[Option.some.injEq] at h2;rw[← h2];cases want<;>rfl
  ·rename_i x hs;cases h2;have hbv:a.tmps.getD d' undef=.tuple x:=by have:=hr.da d';rw[fu hs] at this;exact this
   exact oE hg (by simpa using h1) hbv
  ·cases h2
def IH(P:Program)[T:jR P](GL:Nat→List D)(n:Nat)(ops:List Oper)(ob:List Ob):List Nat→List (Nat×Nat)→List (Nat×SV)→Option (List (Nat×Nat)×List (Nat×SV))
 |[],L,sl=>some (L,sl)
 |i::r,L,sl=>match cY i ops with
  |some o=>match o.dst with
   |some d=>cond (Nat.blt d n) (match LK ops sl o with
    |some true=>match QB P GL sl ob o.op with
     |some (s,L')=>match ym i L' L with
      |some L2=>IH P GL n ops ob r L2 ((d,s)::sl)
      |none=>none
     |none=>none
    |some false=>IH P GL n ops ob r L ((d,.d (.v undef))::sl)
    |none=>none) none
   |none=>none
  |none=>none
def KC(ops:List Oper):List Nat→Array Bool→Bool
 |[],_=>true
 |i::r,listed=>((Region.ready .any ops.toArray listed).contains i&&Region.free .any ops.toArray listed i&&Region.noSelect ops.toArray)&&KC ops r (listed.setIfInBounds i true)
def Lo:List Nat→Array Bool→Array Bool
 |[],l=>l
 |i::r,l=>Lo r (l.setIfInBounds i true)
variable {fuel t:Nat} {listed:Array Bool}
theorem IF{Q:Ex→St→Prop}{L:List (Nat×Nat)}(i:Nat)(ho:l[i]? =some o)(hw:∀B g a w,cE GL B ⟨n,sl,ob⟩ g a w→Region.wanted o (yielded l.toArray a.tmps)=false)(hd:o.dst=some t)(ht:Nat.blt t n=true)
 (hb:((Region.ready .any l.toArray listed).contains i&&Region.free .any l.toArray listed i&&Region.noSelect l.toArray)=true)
 (h:bL P GL n0 Pn l fuel (listed.setIfInBounds i true) L Q ⟨n,(t,.d (.v undef))::sl,ob⟩):bL P GL n0 Pn l (fuel+1) listed L Q ⟨n,sl,ob⟩:=fun B hB g a w Hc hr hc hheld=>by
 simp only[Bool.and_eq_true] at hb;obtain⟨⟨hready,hfree⟩,hsel⟩:=hb;have ho':l.toArray[i]? =some o:=by simpa using ho
 refine tX (uB ho) ho' (Region.noSelect_spec hsel) fuel _ listed a w (Region.free_spec ho' hfree) (by simpa using hready) (v:=undef) (.inr ⟨hw B g a w hr,rfl⟩) hc ?_;rw[hd];exact h B hB g _ w _ (hr.ri (s:=.d (.v undef)) ht rfl) hc hheld
theorem Bm{Q:Ex→St→Prop}{l:List Oper}{fuel:Nat}{n:Nat}{ob:List Ob}:∀{is:List Nat} {listed:Array Bool} {L L':List (Nat×Nat)} {sl sl':List (Nat×SV)},IH P GL n l ob is L sl=some (L',sl')→KC l is listed=true→bL P GL n0 Pn l fuel (Lo is listed) L' Q ⟨n,sl',ob⟩→bL P GL n0 Pn l (fuel+is.length) listed L Q ⟨n,sl,ob⟩
 |[],listed,L,L',sl,sl',h,hc,hr=>by cases h;exact hr
 |i::r,listed,L,L',sl,sl',h,hc,hr=>by
  unfold IH at h;unfold KC at hc;obtain⟨hc1,hc2⟩:=(Bool.and_eq_true _ _).mp hc;split at h
  ·rename_i o ho;split at h
   ·rename_i d hd;cases hb:Nat.blt d n<;>rw[hb] at h
    ·cases h
    simp only[cond_true] at h;split at h
    ·rename_i hg;split at h
     ·rename_i s L1 hs;split at h
      ·rename_i L2 hL;exact uV (fuel:=fuel+r.length) i (bR ho) (fun B g a w hr=>ML hr hg) hd hb hc1 rfl (Kn hs ⟨L2,hL,Bm h hc2 hr⟩)
      ·cases h
     ·cases h
    ·rename_i hg;exact IF (fuel:=fuel+r.length) i (bR ho) (fun B g a w hr=>ML hr hg) hd hb hc1 (Bm h hc2 hr)
    ·cases h
   ·cases h
  ·cases h
variable {fuel':Nat} {listed':Array Bool} {sl':List (Nat×SV)}
theorem ga(is:List Nat){Q:Ex→St→Prop}{L L':List (Nat×Nat)}(h:bL P GL n0 Pn l fuel' listed' L' Q ⟨n,sl',ob⟩)(he:IH P GL n l ob is L sl=some (L',sl'):=by exact rfl)(hc:KC l is listed=true:=by kernel_rfl)(hl:Lo is listed=listed':=by exact rfl)
 (hf:Nat.sub fuel is.length=fuel':=by exact rfl) (hle:Nat.ble is.length fuel=true:=by exact rfl):bL P GL n0 Pn l fuel listed L Q ⟨n,sl,ob⟩:=by
 subst hl hf;have h1:=Bm he hc h;have h2:is.length≤fuel:=by simpa using hle
 have e:Nat.sub fuel is.length+is.length=fuel:=Nat.sub_add_cancel h2
 rwa [e] at h1
theorem gz(is:List Nat){Q:Ex→St→Prop}{id:Nat}{L':List (Nat×Nat)}(hm:P.follows .mixedOrders=true)(h:bL P GL n0 Pn l fuel' listed' L' Q ⟨n,sl',ob⟩)(hfu:l.length=fuel:=by exact rfl)(hli:Array.replicate fuel false=listed:=by exact rfl)
 (he:IH P GL n l ob is [] sl=some (L',sl'):=by exact rfl) (hc:KC l is listed=true:=by kernel_rfl) (hl:Lo is listed=listed':=by exact rfl)
 (hf:Nat.sub fuel is.length=fuel':=by exact rfl) (hle:Nat.ble is.length fuel=true:=by exact rfl):bu P GL n0 Pn (.region id l.toArray true) Q ⟨n,sl,ob⟩:=GO (ga is h he hc hl hf hle) hfu hli hm
end
end Go.Vd
namespace Go.Proofs.YtndbnldjidciiaaGreatDoor
section
open Go Go.Vd
theorem FU:bl Tryz.prog 3=⟨true,1,false,[],false,[.int .i64 0],true,0,none,[.int .i64]⟩:=by kernel_rfl
theorem Rs:Tryz.prog.underlying 3=some (.int .i64):=by kernel_rfl
theorem RH:(Tryz.prog.underlying 3).isSome=true:=by kernel_rfl
theorem RM:bl Tryz.prog 4=⟨true,1,false,[],false,[.bool false],true,0,none,[.bool]⟩:=by kernel_rfl
theorem RJ:Tryz.prog.underlying 4=some .bool:=by kernel_rfl
theorem RL:bl Tryz.prog 5=⟨true,1,false,[],false,[.int .u8 0],true,0,none,[.int .u8]⟩:=by kernel_rfl
theorem Rr:Tryz.prog.underlying 5=some (.int .u8):=by kernel_rfl
theorem RG:(Tryz.prog.underlying 5).isSome=true:=by kernel_rfl
theorem G3:bl Tryz.prog 9=⟨true,1,false,[],false,[.string .empty],true,0,none,[.str]⟩:=by kernel_rfl
theorem uY:Tryz.prog.underlying 9=some .string:=by kernel_rfl
theorem Pz:rB Tryz.prog 20=true:=by kernel_rfl
theorem QM:bl Tryz.prog 22=⟨true,1,false,[],false,[.slice none 0 0],true,28,none,[.slice]⟩:=by kernel_rfl
theorem DS:Tryz.prog.underlying 22=some (.slice (bl Tryz.prog 22).elem):=by kernel_rfl
theorem Lh:bl Tryz.prog (bl Tryz.prog 22).elem=⟨true,6,true,[(0,1,false),(1,1,false),(2,1,false),(3,1,false),(4,1,false),(5,1,false)],true,[.int .i64 0,.string .empty,.string .empty,.string .empty,.int .i64 0,.int .i64 0],true,0,none,[.int .i64,.str,.str,.str,.int .i64,.int .i64]⟩:=by kernel_rfl
theorem O5:Tryz.prog.underlying 24=some (.slice (bl Tryz.prog 24).elem):=by kernel_rfl
theorem QO:bl Tryz.prog (bl Tryz.prog 24).elem=⟨true,8,true,[(0,6,true),(6,2,true)],true,[.int .i64 0,.string .empty,.string .empty,.string .empty,.int .i64 0,.int .i64 0,.pointer none,.pointer none],true,0,none,[.int .i64,.str,.str,.str,.int .i64,.int .i64,.ptr,.ptr]⟩:=by kernel_rfl
theorem Pj:iY Tryz.prog 24 34 8 88:=⟨by kernel_rfl,by kernel_rfl,by kernel_rfl⟩
theorem QL:bl Tryz.prog 28=⟨true,6,true,[(0,1,false),(1,1,false),(2,1,false),(3,1,false),(4,1,false),(5,1,false)],true,[.int .i64 0,.string .empty,.string .empty,.string .empty,.int .i64 0,.int .i64 0],true,0,none,[.int .i64,.str,.str,.str,.int .i64,.int .i64]⟩:=by kernel_rfl
theorem QK:bl Tryz.prog 29=⟨true,1,false,[],false,[.pointer none],true,98,none,[.ptr]⟩:=by kernel_rfl
theorem O8:Tryz.prog.underlying 29=some (.pointer 98):=by kernel_rfl
theorem QJ:bl Tryz.prog 30=⟨true,1,false,[],false,[.pointer none],true,47,none,[.ptr]⟩:=by kernel_rfl
theorem O7:Tryz.prog.underlying 30=some (.pointer 47):=by kernel_rfl
theorem Lg:bl Tryz.prog 32=⟨true,2,true,[(0,1,false),(1,1,false)],true,[.pointer none,.pointer none],true,0,none,[.ptr,.ptr]⟩:=by kernel_rfl
theorem Pc:bl Tryz.prog 34=⟨true,8,true,[(0,6,true),(6,2,true)],true,[.int .i64 0,.string .empty,.string .empty,.string .empty,.int .i64 0,.int .i64 0,.pointer none,.pointer none],true,0,none,[.int .i64,.str,.str,.str,.int .i64,.int .i64,.ptr,.ptr]⟩:=by kernel_rfl
theorem vH:bl Tryz.prog 36=⟨true,1,false,[],false,[.slice none 0 0],true,121,none,[.slice]⟩:=by kernel_rfl
theorem fo:Tryz.prog.underlying 36=some (.slice (bl Tryz.prog 36).elem):=by kernel_rfl
theorem fH:bl Tryz.prog (bl Tryz.prog 36).elem=⟨true,3,true,[(0,1,false),(1,1,false),(2,1,false)],true,[.int .i64 0,.string .empty,.slice none 0 0],true,0,none,[.int .i64,.str,.slice]⟩:=by kernel_rfl
theorem ji:iY Tryz.prog 36 121 3 48:=⟨by kernel_rfl,by kernel_rfl,by kernel_rfl⟩
theorem Bz:bl Tryz.prog 37=⟨true,1,false,[],false,[.slice none 0 0],true,39,none,[.slice]⟩:=by kernel_rfl
theorem bB:Tryz.prog.underlying 37=some (.slice (bl Tryz.prog 37).elem):=by kernel_rfl
theorem bH:bl Tryz.prog (bl Tryz.prog 37).elem=⟨true,5,true,[(0,1,false),(1,1,false),(2,1,false),(3,1,false),(4,1,false)],true,[.int .i64 0,.int .i64 0,.string .empty,.slice none 0 0,.slice none 0 0],true,0,none,[.int .i64,.int .i64,.str,.slice,.slice]⟩:=by kernel_rfl
theorem dE:iY Tryz.prog 37 39 5 80:=⟨by kernel_rfl,by kernel_rfl,by kernel_rfl⟩
theorem bw:bl Tryz.prog 39=⟨true,5,true,[(0,1,false),(1,1,false),(2,1,false),(3,1,false),(4,1,false)],true,[.int .i64 0,.int .i64 0,.string .empty,.slice none 0 0,.slice none 0 0],true,0,none,[.int .i64,.int .i64,.str,.slice,.slice]⟩:=by kernel_rfl
theorem QI:bl Tryz.prog 41=⟨true,12,true,[(0,1,false),(1,5,true),(6,5,true),(11,1,false)],true,[.bool false,.int .i64 0,.int .i64 0,.string .empty,.slice none 0 0,.slice none 0 0,.int .i64 0,.int .i64 0,.string .empty,.slice none 0 0,.slice none 0 0,.int .i64 0],true,0,none,[.bool,.int .i64,.int .i64,.str,.slice,.slice,.int .i64,.int .i64,.str,.slice,.slice,.int .i64]⟩:=by kernel_rfl
theorem I0:bl Tryz.prog 45=⟨true,1,false,[],false,[.slice none 0 0],true,63,none,[.slice]⟩:=by kernel_rfl
theorem Bw:Tryz.prog.underlying 45=some (.slice (bl Tryz.prog 45).elem):=by kernel_rfl
theorem DV:bl Tryz.prog (bl Tryz.prog 45).elem=⟨true,21,true,[(0,15,true),(15,1,false),(16,5,true)],true,[.int .i64 0,.string .empty,.slice none 0 0,.int .i64 0,.int .i64 0,.string .empty,.slice none 0 0,.slice none 0 0,.int .i64 0,.int .i64 0,.string .empty,.slice none 0 0,.slice none 0 0,.int .i64 0,.slice none 0 0,.slice none 0 0,.int .i64 0,.int .i64 0,.string .empty,.slice none 0 0,.slice none 0 0],true,0,none,[.int .i64,.str,.slice,.int .i64,.int .i64,.str,.slice,.slice,.int .i64,.int .i64,.str,.slice,.slice,.int .i64,.slice,.slice,.int .i64,.int .i64,.str,.slice,.slice]⟩:=by kernel_rfl
theorem D1:iY Tryz.prog 45 63 21 344:=⟨by kernel_rfl,by kernel_rfl,by kernel_rfl⟩
theorem QH:bl Tryz.prog 47=⟨true,2,true,[(0,1,false),(1,1,false)],true,[.slice none 0 0,.bool false],true,0,none,[.slice,.bool]⟩:=by kernel_rfl
theorem G6:bl Tryz.prog 49=⟨true,1,false,[],false,[.nilIface],true,0,none,[.any]⟩:=by kernel_rfl
theorem Py:rB Tryz.prog 49=true:=by kernel_rfl
theorem G5:bl Tryz.prog 57=⟨true,1,false,[],false,[.slice none 0 0],true,9,none,[.slice]⟩:=by kernel_rfl
theorem pN:Tryz.prog.underlying 57=some (.slice (bl Tryz.prog 57).elem):=by kernel_rfl
theorem ue:bl Tryz.prog (bl Tryz.prog 57).elem=⟨true,1,false,[],false,[.string .empty],true,0,none,[.str]⟩:=by kernel_rfl
theorem rQ:iY Tryz.prog 57 9 1 16:=⟨by kernel_rfl,by kernel_rfl,by kernel_rfl⟩
theorem QG:bl Tryz.prog 59=⟨true,1,false,[],false,[.slice none 0 0],true,65,none,[.slice]⟩:=by kernel_rfl
theorem yj:Tryz.prog.underlying 59=some (.slice (bl Tryz.prog 59).elem):=by kernel_rfl
theorem Ap:bl Tryz.prog (bl Tryz.prog 59).elem=⟨true,6,true,[(0,1,false),(1,5,true)],true,[.string .empty,.int .i64 0,.int .i64 0,.string .empty,.slice none 0 0,.slice none 0 0],true,0,none,[.str,.int .i64,.int .i64,.str,.slice,.slice]⟩:=by kernel_rfl
theorem Ph:iY Tryz.prog 59 65 6 96:=⟨by kernel_rfl,by kernel_rfl,by kernel_rfl⟩
theorem G4:bl Tryz.prog 61=⟨true,15,true,[(0,1,false),(1,1,false),(2,1,false),(3,5,true),(8,5,true),(13,1,false),(14,1,false)],true,[.int .i64 0,.string .empty,.slice none 0 0,.int .i64 0,.int .i64 0,.string .empty,.slice none 0 0,.slice none 0 0,.int .i64 0,.int .i64 0,.string .empty,.slice none 0 0,.slice none 0 0,.int .i64 0,.slice none 0 0],true,0,none,[.int .i64,.str,.slice,.int .i64,.int .i64,.str,.slice,.slice,.int .i64,.int .i64,.str,.slice,.slice,.int .i64,.slice]⟩:=by kernel_rfl
theorem DU:bl Tryz.prog 63=⟨true,21,true,[(0,15,true),(15,1,false),(16,5,true)],true,[.int .i64 0,.string .empty,.slice none 0 0,.int .i64 0,.int .i64 0,.string .empty,.slice none 0 0,.slice none 0 0,.int .i64 0,.int .i64 0,.string .empty,.slice none 0 0,.slice none 0 0,.int .i64 0,.slice none 0 0,.slice none 0 0,.int .i64 0,.int .i64 0,.string .empty,.slice none 0 0,.slice none 0 0],true,0,none,[.int .i64,.str,.slice,.int .i64,.int .i64,.str,.slice,.slice,.int .i64,.int .i64,.str,.slice,.slice,.int .i64,.slice,.slice,.int .i64,.int .i64,.str,.slice,.slice]⟩:=by kernel_rfl
theorem Pb:bl Tryz.prog 65=⟨true,6,true,[(0,1,false),(1,5,true)],true,[.string .empty,.int .i64 0,.int .i64 0,.string .empty,.slice none 0 0,.slice none 0 0],true,0,none,[.str,.int .i64,.int .i64,.str,.slice,.slice]⟩:=by kernel_rfl
theorem Pa:bl Tryz.prog 70=⟨true,1,false,[],false,[.slice none 0 0],true,61,none,[.slice]⟩:=by kernel_rfl
theorem O4:Tryz.prog.underlying 70=some (.slice (bl Tryz.prog 70).elem):=by kernel_rfl
theorem QN:bl Tryz.prog (bl Tryz.prog 70).elem=⟨true,15,true,[(0,1,false),(1,1,false),(2,1,false),(3,5,true),(8,5,true),(13,1,false),(14,1,false)],true,[.int .i64 0,.string .empty,.slice none 0 0,.int .i64 0,.int .i64 0,.string .empty,.slice none 0 0,.slice none 0 0,.int .i64 0,.int .i64 0,.string .empty,.slice none 0 0,.slice none 0 0,.int .i64 0,.slice none 0 0],true,0,none,[.int .i64,.str,.slice,.int .i64,.int .i64,.str,.slice,.slice,.int .i64,.int .i64,.str,.slice,.slice,.int .i64,.slice]⟩:=by kernel_rfl
theorem Ll:iY Tryz.prog 70 61 15 240:=⟨by kernel_rfl,by kernel_rfl,by kernel_rfl⟩
theorem wu:bl Tryz.prog 78=⟨true,2,true,[(0,1,false),(1,1,false)],true,[.int .i64 0,.int .i64 0],true,0,none,[.int .i64,.int .i64]⟩:=by kernel_rfl
theorem QF:bl Tryz.prog 87=⟨true,4,true,[(0,1,false),(1,1,false),(2,1,false),(3,1,false)],true,[.int .i64 0,.int .i64 0,.bool false,.int .i64 0],true,0,none,[.int .i64,.int .i64,.bool,.int .i64]⟩:=by kernel_rfl
theorem Lf:bl Tryz.prog 91=⟨true,4,true,[(0,1,false),(1,1,false),(2,1,false),(3,1,false)],true,[.pointer none,.int .i64 0,.int .i64 0,.int .i64 0],true,0,none,[.ptr,.int .i64,.int .i64,.int .i64]⟩:=by kernel_rfl
theorem QE:bl Tryz.prog 96=⟨true,1,false,[],false,[.map none],true,0,none,[.map]⟩:=by kernel_rfl
theorem CB:FK Tryz.prog 96 9 102:=⟨by kernel_rfl,by kernel_rfl,by kernel_rfl⟩
theorem QD:bl Tryz.prog 98=⟨true,2,true,[(0,1,false),(1,1,false)],true,[.slice none 0 0,.map none],true,0,none,[.slice,.map]⟩:=by kernel_rfl
theorem IP:Tryz.prog.underlying 102=some (.pointer 106):=by kernel_rfl
theorem BA:bl Tryz.prog 103=⟨true,1,false,[],false,[.int .i64 0],true,0,none,[.int .i64]⟩:=by kernel_rfl
theorem MB:bl Tryz.prog 104=⟨true,1,false,[],false,[.pointer none],true,61,none,[.ptr]⟩:=by kernel_rfl
theorem rv:bl Tryz.prog 106=⟨true,9,true,[(0,1,false),(1,1,false),(2,1,false),(3,5,true),(8,1,false)],true,[.int .i64 0,.pointer none,.slice none 0 0,.int .i64 0,.int .i64 0,.string .empty,.slice none 0 0,.slice none 0 0,.int .i64 0],true,0,none,[.int .i64,.ptr,.slice,.int .i64,.int .i64,.str,.slice,.slice,.int .i64]⟩:=by kernel_rfl
theorem Pf:bl Tryz.prog 112=⟨true,4,true,[(0,1,false),(1,1,false),(2,2,true)],true,[.string .empty,.int .i64 0,.int .i64 0,.int .i64 0],true,0,none,[.str,.int .i64,.int .i64,.int .i64]⟩:=by kernel_rfl
theorem Pe:bl Tryz.prog 115=⟨true,1,false,[],false,[.pointer none],true,78,none,[.ptr]⟩:=by kernel_rfl
theorem Mz:Tryz.prog.underlying 115=some (.pointer 78):=by kernel_rfl
theorem My:Tryz.prog.underlying 117=some (.pointer 115):=by kernel_rfl
theorem eL:bl Tryz.prog 121=⟨true,3,true,[(0,1,false),(1,1,false),(2,1,false)],true,[.int .i64 0,.string .empty,.slice none 0 0],true,0,none,[.int .i64,.str,.slice]⟩:=by kernel_rfl
theorem Ja:bl Tryz.prog 133=⟨true,0,true,[],true,[],true,0,none,[]⟩:=by kernel_rfl
theorem O6:Tryz.prog.underlying 174=some (.slice (bl Tryz.prog 174).elem):=by kernel_rfl
theorem Pg:bl Tryz.prog (bl Tryz.prog 174).elem=⟨true,1,false,[],false,[.int .i64 0],true,0,none,[.int .i64]⟩:=by kernel_rfl
theorem Pm:iY Tryz.prog 174 103 1 8:=⟨by kernel_rfl,by kernel_rfl,by kernel_rfl⟩
theorem j9:Tryz.prog.underlying 203=some (.slice (bl Tryz.prog 203).elem):=by kernel_rfl
theorem mN:bl Tryz.prog (bl Tryz.prog 203).elem=⟨true,1,false,[],false,[.int .i64 0],true,0,none,[.int .i64]⟩:=by kernel_rfl
theorem vc:iY Tryz.prog 203 3 1 8:=⟨by kernel_rfl,by kernel_rfl,by kernel_rfl⟩
theorem IM:Tryz.prog.underlying 212=some (.slice (bl Tryz.prog 212).elem):=by kernel_rfl
theorem MC:bl Tryz.prog (bl Tryz.prog 212).elem=⟨true,1,false,[],false,[.slice none 0 0],true,39,none,[.slice]⟩:=by kernel_rfl
theorem Pk:iY Tryz.prog 212 37 1 24:=⟨by kernel_rfl,by kernel_rfl,by kernel_rfl⟩
theorem Pd:bl Tryz.prog 232=⟨true,18,true,[(0,15,true),(15,1,false),(16,1,false),(17,1,false)],true,[.int .i64 0,.string .empty,.slice none 0 0,.int .i64 0,.int .i64 0,.string .empty,.slice none 0 0,.slice none 0 0,.int .i64 0,.int .i64 0,.string .empty,.slice none 0 0,.slice none 0 0,.int .i64 0,.slice none 0 0,.int .i64 0,.slice none 0 0,.int .i64 0],true,0,none,[.int .i64,.str,.slice,.int .i64,.int .i64,.str,.slice,.slice,.int .i64,.int .i64,.str,.slice,.slice,.int .i64,.slice,.int .i64,.slice,.int .i64]⟩:=by kernel_rfl
theorem MD:iY Tryz.prog 239 5 1 1:=⟨by kernel_rfl,by kernel_rfl,by kernel_rfl⟩
theorem R3:ai Tryz.prog 8=true:=by kernel_rfl
theorem R2:ai Tryz.prog 9=true:=by kernel_rfl
theorem Rm:ai Tryz.prog 13=true:=by kernel_rfl
theorem Rl:ai Tryz.prog 15=true:=by kernel_rfl
theorem Oy:ai Tryz.prog 16=true:=by kernel_rfl
theorem Rk:ai Tryz.prog 18=true:=by kernel_rfl
theorem Ox:ai Tryz.prog 19=true:=by kernel_rfl
theorem PZ:ai Tryz.prog 21=true:=by kernel_rfl
theorem PY:ai Tryz.prog 22=true:=by kernel_rfl
theorem Ow:ai Tryz.prog 23=true:=by kernel_rfl
theorem PX:ai Tryz.prog 25=true:=by kernel_rfl
theorem PW:ai Tryz.prog 30=true:=by kernel_rfl
theorem Mo:ai Tryz.prog 31=true:=by kernel_rfl
theorem PV:ai Tryz.prog 32=true:=by kernel_rfl
theorem Rj:ai Tryz.prog 33=true:=by kernel_rfl
theorem PU:ai Tryz.prog 34=true:=by kernel_rfl
theorem PT:ai Tryz.prog 35=true:=by kernel_rfl
theorem uT:ai Tryz.prog 36=true:=by kernel_rfl
theorem Ix:ai Tryz.prog 37=true:=by kernel_rfl
theorem Ri:ai Tryz.prog 38=true:=by kernel_rfl
theorem Mn:ai Tryz.prog 40=true:=by kernel_rfl
theorem Ov:ai Tryz.prog 41=true:=by kernel_rfl
theorem PS:ai Tryz.prog 45=true:=by kernel_rfl
theorem PR:ai Tryz.prog 46=true:=by kernel_rfl
theorem Mm:ai Tryz.prog 47=true:=by kernel_rfl
theorem Ml:ai Tryz.prog 49=true:=by kernel_rfl
theorem Rh:ai Tryz.prog 50=true:=by kernel_rfl
theorem KE:ai Tryz.prog 51=true:=by kernel_rfl
theorem KD:ai Tryz.prog 52=true:=by kernel_rfl
theorem Rg:ai Tryz.prog 53=true:=by kernel_rfl
theorem Rf:ai Tryz.prog 54=true:=by kernel_rfl
theorem Ds:ai Tryz.prog 55=true:=by kernel_rfl
theorem PQ:ai Tryz.prog 56=true:=by kernel_rfl
theorem Iw:ai Tryz.prog 57=true:=by kernel_rfl
theorem Mk:ai Tryz.prog 58=true:=by kernel_rfl
theorem Re:ai Tryz.prog 59=true:=by kernel_rfl
theorem xW:ai Tryz.prog 60=true:=by kernel_rfl
theorem Iv:ai Tryz.prog 61=true:=by kernel_rfl
theorem Mj:ai Tryz.prog 62=true:=by kernel_rfl
theorem Ou:ai Tryz.prog 63=true:=by kernel_rfl
theorem Fo:ai Tryz.prog 64=true:=by kernel_rfl
theorem yM:ai Tryz.prog 65=true:=by kernel_rfl
theorem pt:ai Tryz.prog 66=true:=by kernel_rfl
theorem Iu:ai Tryz.prog 67=true:=by kernel_rfl
theorem PO:ai Tryz.prog 68=true:=by kernel_rfl
theorem Rd:ai Tryz.prog 69=true:=by kernel_rfl
theorem Mi:ai Tryz.prog 70=true:=by kernel_rfl
theorem Rc:ai Tryz.prog 71=true:=by kernel_rfl
theorem It:ai Tryz.prog 72=true:=by kernel_rfl
theorem PN:ai Tryz.prog 78=true:=by kernel_rfl
theorem Rb:ai Tryz.prog 79=true:=by kernel_rfl
theorem Ra:ai Tryz.prog 80=true:=by kernel_rfl
theorem PM:ai Tryz.prog 81=true:=by kernel_rfl
theorem Ot:ai Tryz.prog 82=true:=by kernel_rfl
theorem Mh:ai Tryz.prog 83=true:=by kernel_rfl
theorem Mg:ai Tryz.prog 84=true:=by kernel_rfl
theorem Oq:ai Tryz.prog 85=true:=by kernel_rfl
theorem Q9:ai Tryz.prog 86=true:=by kernel_rfl
theorem pK:ai Tryz.prog 87=true:=by kernel_rfl
theorem uS:ai Tryz.prog 88=true:=by kernel_rfl
theorem Dr:ai Tryz.prog 89=true:=by kernel_rfl
theorem PL:ai Tryz.prog 90=true:=by kernel_rfl
theorem Mf:ai Tryz.prog 91=true:=by kernel_rfl
theorem Me:ai Tryz.prog 92=true:=by kernel_rfl
theorem Oo:ai Tryz.prog 93=true:=by kernel_rfl
theorem yL:ai Tryz.prog 94=true:=by kernel_rfl
theorem Md:ai Tryz.prog 99=true:=by kernel_rfl
theorem Dw:ai Tryz.prog 100=true:=by kernel_rfl
theorem Ad:ai Tryz.prog 101=true:=by kernel_rfl
theorem vE:ai Tryz.prog 102=true:=by kernel_rfl
theorem Dv:ai Tryz.prog 103=true:=by kernel_rfl
theorem Ni:ai Tryz.prog 104=true:=by kernel_rfl
theorem Nh:ai Tryz.prog 105=true:=by kernel_rfl
theorem Ng:ai Tryz.prog 106=true:=by kernel_rfl
theorem KJ:ai Tryz.prog 107=true:=by kernel_rfl
theorem GM:ai Tryz.prog 108=true:=by kernel_rfl
theorem GK:ai Tryz.prog 109=true:=by kernel_rfl
theorem Qn:ai Tryz.prog 110=true:=by kernel_rfl
theorem GJ:ai Tryz.prog 111=true:=by kernel_rfl
theorem Qm:ai Tryz.prog 112=true:=by kernel_rfl
theorem Nf:ai Tryz.prog 113=true:=by kernel_rfl
theorem Du:ai Tryz.prog 114=true:=by kernel_rfl
theorem GI:ai Tryz.prog 116=true:=by kernel_rfl
theorem Ql:ai Tryz.prog 117=true:=by kernel_rfl
theorem Qk:ai Tryz.prog 119=true:=by kernel_rfl
theorem Qj:ai Tryz.prog 120=true:=by kernel_rfl
theorem Nd:ai Tryz.prog 121=true:=by kernel_rfl
theorem rF:ai Tryz.prog 122=true:=by kernel_rfl
theorem Nc:ai Tryz.prog 123=true:=by kernel_rfl
theorem Nb:ai Tryz.prog 124=true:=by kernel_rfl
theorem KI:ai Tryz.prog 125=true:=by kernel_rfl
theorem GH:ai Tryz.prog 126=true:=by kernel_rfl
theorem Na:ai Tryz.prog 130=true:=by kernel_rfl
theorem M0:ai Tryz.prog 131=true:=by kernel_rfl
theorem MZ:ai Tryz.prog 132=true:=by kernel_rfl
theorem MY:ai Tryz.prog 133=true:=by kernel_rfl
theorem KH:ai Tryz.prog 134=true:=by kernel_rfl
theorem MX:ai Tryz.prog 135=true:=by kernel_rfl
theorem MW:ai Tryz.prog 136=true:=by kernel_rfl
theorem x9:ai Tryz.prog 137=true:=by kernel_rfl
theorem Qi:ai Tryz.prog 138=true:=by kernel_rfl
theorem Qh:ai Tryz.prog 139=true:=by kernel_rfl
theorem Qg:ai Tryz.prog 140=true:=by kernel_rfl
theorem Qe:ai Tryz.prog 141=true:=by kernel_rfl
theorem MV:ai Tryz.prog 142=true:=by kernel_rfl
theorem KG:ai Tryz.prog 143=true:=by kernel_rfl
theorem xZ:ai Tryz.prog 144=true:=by kernel_rfl
theorem Qd:ai Tryz.prog 145=true:=by kernel_rfl
theorem Qc:ai Tryz.prog 147=true:=by kernel_rfl
theorem Qb:ai Tryz.prog 148=true:=by kernel_rfl
theorem Qa:ai Tryz.prog 149=true:=by kernel_rfl
theorem xY:ai Tryz.prog 150=true:=by kernel_rfl
theorem P9:ai Tryz.prog 151=true:=by kernel_rfl
theorem GG:ai Tryz.prog 152=true:=by kernel_rfl
theorem P8:ai Tryz.prog 153=true:=by kernel_rfl
theorem P7:ai Tryz.prog 154=true:=by kernel_rfl
theorem MU:ai Tryz.prog 155=true:=by kernel_rfl
theorem P6:ai Tryz.prog 156=true:=by kernel_rfl
theorem MT:ai Tryz.prog 157=true:=by kernel_rfl
theorem MS:ai Tryz.prog 160=true:=by kernel_rfl
theorem MR:ai Tryz.prog 161=true:=by kernel_rfl
theorem Dt:ai Tryz.prog 162=true:=by kernel_rfl
theorem KF:ai Tryz.prog 163=true:=by kernel_rfl
theorem MQ:ai Tryz.prog 164=true:=by kernel_rfl
theorem P5:ai Tryz.prog 165=true:=by kernel_rfl
theorem P4:ai Tryz.prog 166=true:=by kernel_rfl
theorem MP:ai Tryz.prog 167=true:=by kernel_rfl
theorem MO:ai Tryz.prog 168=true:=by kernel_rfl
theorem MN:ai Tryz.prog 170=true:=by kernel_rfl
theorem P3:ai Tryz.prog 171=true:=by kernel_rfl
theorem Ac:ai Tryz.prog 172=true:=by kernel_rfl
theorem vD:ai Tryz.prog 173=true:=by kernel_rfl
theorem GF:ai Tryz.prog 174=true:=by kernel_rfl
theorem tQ:ai Tryz.prog 175=true:=by kernel_rfl
theorem xX:ai Tryz.prog 176=true:=by kernel_rfl
theorem P2:ai Tryz.prog 177=true:=by kernel_rfl
theorem vC:ai Tryz.prog 178=true:=by kernel_rfl
theorem GD:ai Tryz.prog 179=true:=by kernel_rfl
theorem P1:ai Tryz.prog 180=true:=by kernel_rfl
theorem P0:ai Tryz.prog 181=true:=by kernel_rfl
theorem GC:ai Tryz.prog 182=true:=by kernel_rfl
theorem mixed:Tryz.prog.follows .mixedOrders=true:=by kernel_rfl
end
section
open Go Go.Vd
variable {P:Program}
theorem RO:∀p∈([]:List (Nat×TI)),bl P p.1=p.2:=fun p h=>by cases h
variable {k:Nat}
theorem qJ{x:TI}{l:List (Nat×TI)}(h:bl P k=x)(r:∀p∈l,bl P p.1=p.2):∀p∈(k,x)::l,bl P p.1=p.2:=fun p hp=>by
 rcases List.mem_cons.1 hp with rfl|hp
 ·exact h
 ·exact r p hp
variable {f:Nat→Prop}
theorem Rt:∀t∈([]:List Nat),f t:=fun p h=>by cases h
theorem IS{l:List Nat}(h:f k)(r:∀t∈l,f t):∀t∈k::l,f t:=fun p hp=>by
 rcases List.mem_cons.1 hp with rfl|hp
 ·exact h
 ·exact r p hp
def tb:RC:=⟨[(3,⟨true,1,false,[],false,[.int .i64 0],true,0,none,[.int .i64]⟩),
 (4,⟨true,1,false,[],false,[.bool false],true,0,none,[.bool]⟩),
 (9,⟨true,1,false,[],false,[.string .empty],true,0,none,[.str]⟩),
 (28,⟨true,6,true,[(0,1,false),(1,1,false),(2,1,false),(3,1,false),(4,1,false),(5,1,false)],true,[.int .i64 0,.string .empty,.string .empty,.string .empty,.int .i64 0,.int .i64 0],true,0,none,[.int .i64,.str,.str,.str,.int .i64,.int .i64]⟩),
 (29,⟨true,1,false,[],false,[.pointer none],true,98,none,[.ptr]⟩),
 (30,⟨true,1,false,[],false,[.pointer none],true,47,none,[.ptr]⟩),
 (32,⟨true,2,true,[(0,1,false),(1,1,false)],true,[.pointer none,.pointer none],true,0,none,[.ptr,.ptr]⟩),
 (34,⟨true,8,true,[(0,6,true),(6,2,true)],true,[.int .i64 0,.string .empty,.string .empty,.string .empty,.int .i64 0,.int .i64 0,.pointer none,.pointer none],true,0,none,[.int .i64,.str,.str,.str,.int .i64,.int .i64,.ptr,.ptr]⟩),
 (36,⟨true,1,false,[],false,[.slice none 0 0],true,121,none,[.slice]⟩),
 (37,⟨true,1,false,[],false,[.slice none 0 0],true,39,none,[.slice]⟩),
 (39,⟨true,5,true,[(0,1,false),(1,1,false),(2,1,false),(3,1,false),(4,1,false)],true,[.int .i64 0,.int .i64 0,.string .empty,.slice none 0 0,.slice none 0 0],true,0,none,[.int .i64,.int .i64,.str,.slice,.slice]⟩),
 (41,⟨true,12,true,[(0,1,false),(1,5,true),(6,5,true),(11,1,false)],true,[.bool false,.int .i64 0,.int .i64 0,.string .empty,.slice none 0 0,.slice none 0 0,.int .i64 0,.int .i64 0,.string .empty,.slice none 0 0,.slice none 0 0,.int .i64 0],true,0,none,[.bool,.int .i64,.int .i64,.str,.slice,.slice,.int .i64,.int .i64,.str,.slice,.slice,.int .i64]⟩),
 (45,⟨true,1,false,[],false,[.slice none 0 0],true,63,none,[.slice]⟩),
 (47,⟨true,2,true,[(0,1,false),(1,1,false)],true,[.slice none 0 0,.bool false],true,0,none,[.slice,.bool]⟩),
 (49,⟨true,1,false,[],false,[.nilIface],true,0,none,[.any]⟩),
 (57,⟨true,1,false,[],false,[.slice none 0 0],true,9,none,[.slice]⟩),
 (59,⟨true,1,false,[],false,[.slice none 0 0],true,65,none,[.slice]⟩),
 (61,⟨true,15,true,[(0,1,false),(1,1,false),(2,1,false),(3,5,true),(8,5,true),(13,1,false),(14,1,false)],true,[.int .i64 0,.string .empty,.slice none 0 0,.int .i64 0,.int .i64 0,.string .empty,.slice none 0 0,.slice none 0 0,.int .i64 0,.int .i64 0,.string .empty,.slice none 0 0,.slice none 0 0,.int .i64 0,.slice none 0 0],true,0,none,[.int .i64,.str,.slice,.int .i64,.int .i64,.str,.slice,.slice,.int .i64,.int .i64,.str,.slice,.slice,.int .i64,.slice]⟩),
 (63,⟨true,21,true,[(0,15,true),(15,1,false),(16,5,true)],true,[.int .i64 0,.string .empty,.slice none 0 0,.int .i64 0,.int .i64 0,.string .empty,.slice none 0 0,.slice none 0 0,.int .i64 0,.int .i64 0,.string .empty,.slice none 0 0,.slice none 0 0,.int .i64 0,.slice none 0 0,.slice none 0 0,.int .i64 0,.int .i64 0,.string .empty,.slice none 0 0,.slice none 0 0],true,0,none,[.int .i64,.str,.slice,.int .i64,.int .i64,.str,.slice,.slice,.int .i64,.int .i64,.str,.slice,.slice,.int .i64,.slice,.slice,.int .i64,.int .i64,.str,.slice,.slice]⟩),
 (65,⟨true,6,true,[(0,1,false),(1,5,true)],true,[.string .empty,.int .i64 0,.int .i64 0,.string .empty,.slice none 0 0,.slice none 0 0],true,0,none,[.str,.int .i64,.int .i64,.str,.slice,.slice]⟩),
 (70,⟨true,1,false,[],false,[.slice none 0 0],true,61,none,[.slice]⟩),
 (78,⟨true,2,true,[(0,1,false),(1,1,false)],true,[.int .i64 0,.int .i64 0],true,0,none,[.int .i64,.int .i64]⟩),
 (87,⟨true,4,true,[(0,1,false),(1,1,false),(2,1,false),(3,1,false)],true,[.int .i64 0,.int .i64 0,.bool false,.int .i64 0],true,0,none,[.int .i64,.int .i64,.bool,.int .i64]⟩),
 (91,⟨true,4,true,[(0,1,false),(1,1,false),(2,1,false),(3,1,false)],true,[.pointer none,.int .i64 0,.int .i64 0,.int .i64 0],true,0,none,[.ptr,.int .i64,.int .i64,.int .i64]⟩),
 (96,⟨true,1,false,[],false,[.map none],true,0,none,[.map]⟩),
 (98,⟨true,2,true,[(0,1,false),(1,1,false)],true,[.slice none 0 0,.map none],true,0,none,[.slice,.map]⟩),
 (103,⟨true,1,false,[],false,[.int .i64 0],true,0,none,[.int .i64]⟩),
 (104,⟨true,1,false,[],false,[.pointer none],true,61,none,[.ptr]⟩),
 (106,⟨true,9,true,[(0,1,false),(1,1,false),(2,1,false),(3,5,true),(8,1,false)],true,[.int .i64 0,.pointer none,.slice none 0 0,.int .i64 0,.int .i64 0,.string .empty,.slice none 0 0,.slice none 0 0,.int .i64 0],true,0,none,[.int .i64,.ptr,.slice,.int .i64,.int .i64,.str,.slice,.slice,.int .i64]⟩),
 (112,⟨true,4,true,[(0,1,false),(1,1,false),(2,2,true)],true,[.string .empty,.int .i64 0,.int .i64 0,.int .i64 0],true,0,none,[.str,.int .i64,.int .i64,.int .i64]⟩),
 (115,⟨true,1,false,[],false,[.pointer none],true,78,none,[.ptr]⟩),
 (121,⟨true,3,true,[(0,1,false),(1,1,false),(2,1,false)],true,[.int .i64 0,.string .empty,.slice none 0 0],true,0,none,[.int .i64,.str,.slice]⟩),
 (133,⟨true,0,true,[],true,[],true,0,none,[]⟩),
 (232,⟨true,18,true,[(0,15,true),(15,1,false),(16,1,false),(17,1,false)],true,[.int .i64 0,.string .empty,.slice none 0 0,.int .i64 0,.int .i64 0,.string .empty,.slice none 0 0,.slice none 0 0,.int .i64 0,.int .i64 0,.string .empty,.slice none 0 0,.slice none 0 0,.int .i64 0,.slice none 0 0,.int .i64 0,.slice none 0 0,.int .i64 0],true,0,none,[.int .i64,.str,.slice,.int .i64,.int .i64,.str,.slice,.slice,.int .i64,.int .i64,.str,.slice,.slice,.int .i64,.slice,.int .i64,.slice,.int .i64]⟩)],[22,24,36,37,45,57,59,70,203,212],[9]⟩
instance R5:jR Tryz.prog:=⟨tb,qJ FU (qJ RM (qJ G3 (qJ QL (qJ QK (qJ QJ (qJ Lg (qJ Pc (qJ vH (qJ Bz (qJ bw (qJ QI (qJ I0 (qJ QH (qJ G6 (qJ G5 (qJ QG (qJ G4 (qJ DU (qJ Pb (qJ Pa (qJ wu (qJ QF (qJ Lf (qJ QE (qJ QD (qJ BA (qJ MB (qJ rv (qJ Pf (qJ Pe (qJ eL (qJ Ja (qJ Pd RO))))))))))))))))))))))))))))))))),IS DS (IS O5 (IS fo (IS bB (IS Bw (IS pN (IS yj (IS O4 (IS j9 (IS IM Rt))))))))),IS uY Rt⟩
end
end Go.Proofs.YtndbnldjidciiaaGreatDoor
namespace Go.Vd
open Go Go.RowKit
def int(n:Int):SV:=.d (.v (.int .i64 n))
def strs(l:List ByteArray):List (List D):=l.map fun s=>[.v (.string s)]
def ints(l:List Int):List (List D):=l.map fun n=>[.v (.int .i64 n)]
abbrev eA(l:List ByteArray):D:=.sl 1 (strs l)
abbrev Px(l:List Int):D:=.sl 1 (ints l)
theorem cQ(l:List ByteArray):(strs l).length=l.length:=by simp[strs]
theorem gH(l:List Int):(ints l).length=l.length:=by simp[ints]
variable {l:List ByteArray} {i:Nat}
theorem kj(h:i<l.length):(strs l)[((i:Nat):Int).toNat]? =some [.v (.string l[i])]:=by simp[strs,h]
theorem sj{l:List Int}(h:i<l.length):(ints l)[((i:Nat):Int).toNat]? =some [.v (.int .i64 l[i])]:=by simp[ints,h]
theorem nT(l:List ByteArray)(s:ByteArray):strs l++[[.v (.string s)]]=strs (l++[s]):=by simp[strs]
theorem xD(l:List Int)(n:Int):ints l++[[.v (.int .i64 n)]]=ints (l++[n]):=by simp[ints]
def vL(name:ByteArray)(l:List ByteArray):Bool:=l.any fun s=>decide (s=name)
variable {name:ByteArray} {k:Nat}
theorem Hq(h:k<l.length)(e:l[k]=name):vL name l=true:=by
 unfold vL;rw[List.any_eq_true];exact⟨_,List.getElem_mem h,by simpa using e⟩
theorem iP:vL name l=true↔name∈l:=by
 unfold vL;rw[List.any_eq_true];exact⟨fun⟨x,hx,e⟩=>by simp at e;subst e;exact hx,fun h=>⟨name,h,by simp⟩⟩
theorem Et(h:name∉l):vL name l=false:=by
 cases hb:vL name l with
 |false=>rfl
 |true=>exact absurd (iP.1 hb) h
theorem iM(h:k<l.length)(h1:name∉l.take k)(h2:¬l[k]=name):name∉l.take (k+1):=by
 rw[List.take_add_one,List.mem_append];rintro(h3|h3)
 ·exact h1 h3
 ·simp [h] at h3;exact h2 h3.symm
inductive aP where
 |mk (kind:Int) (name:ByteArray) (args:List aP)
mutual
def aP.cells:aP→List D
 | .mk k s args=>[.v (.int .i64 k),.v (.string s),.sl 3 (bF args)]
def bF:List aP→List (List D)
 |[]=>[]
 |l::r=>l.cells::bF r
end
def aP.d(l:aP):D:=.agg l.cells
theorem aP.oB:∀l:aP,l.cells.length=3
 | .mk _ _ _=>rfl
theorem aP.case(l:aP):∃k s args,l=.mk k s args:=by cases l;exact⟨_,_,_,rfl⟩
theorem bV:∀l:List aP,(bF l).length=l.length
 |[]=>rfl
 |l::r=>by simp[bF,bV r]
theorem CG:∀{l:List aP} {i:Nat} {x:aP},l[i]? =some x→(bF l)[i]? =some x.cells
 |[],i,x,h=>by simp at h
 |l::r,0,x,h=>by simp at h;subst h;simp[bF]
 |l::r,i+1,x,h=>by simpa[bF] using CG (l:=r) (i:=i) (by simpa using h)
theorem dD{l:List aP}{k:Int}{s:ByteArray}{args:List aP}(h:l[i]? =some (.mk k s args)):(bF l)[((i:Nat):Int).toNat]? =some [.v (.int .i64 k),.v (.string s),.sl 3 (bF args)]:=by
 rw[Int.toNat_natCast,CG h];rfl
theorem qb(l m:List aP):bF (l++m)=bF l++bF m:=by
 induction l with
 |nil=>rfl
 |cons a r ih=>simp[bF,ih]
theorem dh{ls:List aP}(h:i<ls.length):∃k s args,ls[i]? =some (.mk k s args):=by
 have:ls[i]? =some ls[i]:=by simp[h]
 rw[this];cases ls[i];exact⟨_,_,_,rfl⟩
mutual
def aP.size:aP→Nat
 | .mk _ _ args=>1+bh args
def bh:List aP→Nat
 |[]=>0
 |l::r=>l.size+bh r
end
theorem jE:∀{ls:List aP} {i:Nat} {l:aP},ls[i]? =some l→l.size≤bh ls
 |[],i,l,h=>by simp at h
 |a::r,0,l,h=>by simp at h;subst h;simp[bh]
 |a::r,i+1,l,h=>by simp at h;have:=jE h;simp[bh];omega
theorem iv:∀ls:List aP,ls.length≤bh ls
 |[]=>by simp
 |l::r=>by have:=iv r;cases l;simp[bh,aP.size];omega
mutual
def aP.same:aP→aP→Bool
 | .mk k s a,.mk k2 s2 a2=>decide (k=k2)&&decide (s=s2)&&fq a a2
def fq:List aP→List aP→Bool
 |[],[]=>true
 |l::r,l2::r2=>l.same l2&&fq r r2
 |_,_=>false
end
theorem aP.jz(k:Int)(s:ByteArray)(a:List aP)(k2:Int)(s2:ByteArray)(a2:List aP):aP.same (.mk k s a) (.mk k2 s2 a2)=(decide (k=k2)&&decide (s=s2)&&fq a a2):=by simp[aP.same]
theorem um:∀{a b:List aP},fq a b=true→a.length=b.length
 |[],[],_=>rfl
 |l::r,l2::r2,h=>by simp[fq] at h;simp[um h.2]
 |[],_::_,h=>by simp[fq] at h
 |_::_,[],h=>by simp[fq] at h
theorem zi:∀{a b:List aP} {x y:aP},a.length=b.length→fq (a++[x]) (b++[y])=(fq a b&&x.same y)
 |[],[],x,y,_=>by simp[fq]
 |l::r,l2::r2,x,y,h=>by simp[fq,zi (a:=r) (b:=r2) (by simpa using h),Bool.and_assoc]
 |[],_::_,_,_,h=>by simp at h
 |_::_,[],_,_,h=>by simp at h
theorem wI{a b:List aP}{x y:aP}(hx:a[i]? =some x)(hy:b[i]? =some y):fq (a.take (i+1)) (b.take (i+1))=(fq (a.take i) (b.take i)&&x.same y):=by
 have h1:=(List.getElem?_eq_some_iff.1 hx).1;have h2:=(List.getElem?_eq_some_iff.1 hy).1;rw[List.take_add_one,List.take_add_one,hx,hy];exact zi (by simp;omega)
theorem pU:∀{a b:List aP} {i:Nat} {x y:aP},a[i]? =some x→b[i]? =some y→x.same y=false→fq a b=false
 |[],_,i,_,_,h,_,_=>by simp at h
 |_::_,[],i,_,_,_,h,_=>by simp at h
 |l::r,l2::r2,0,x,y,h1,h2,h3=>by simp at h1 h2;subst h1 h2;simp[fq,h3]
 |l::r,l2::r2,i+1,x,y,h1,h2,h3=>by simp[fq];intro _;exact pU (i:=i) (by simpa using h1) (by simpa using h2) h3
mutual
def aP.tm:aP→Nat
 | .mk k _ args=>(if k=1 then 1 else 0)+Jd args
def Jd:List aP→Nat
 |[]=>0
 |l::r=>l.tm+Jd r
end
mutual
def aP.params:aP→List ByteArray→List ByteArray
 | .mk k s args,ah=>if k=4 then(if vL s ah then ah else ah++[s]) else db args ah
def db:List aP→List ByteArray→List ByteArray
 |[],ah=>ah
 |l::r,ah=>db r (l.params ah)
end
mutual
theorem aP.wS:∀(l:aP) (ah:List ByteArray),(l.params ah).length≤ah.length+l.size
 | .mk k s args,ah=>by
  have h:=p6 args ah;simp only[aP.params,aP.size];split
  ·split
   ·omega
   ·simp
  ·omega
theorem p6:∀(ls:List aP) (ah:List ByteArray),(db ls ah).length≤ah.length+bh ls
 |[],ah=>by simp[db]
 |l::r,ah=>by
  have h1:=l.wS ah;have h2:=p6 r (l.params ah);simp only[db,bh];omega
end
theorem p7(l m:List aP)(ah:List ByteArray):db (l++m) ah=db m (db l ah):=by
 induction l generalizing ah with
 |nil=>rfl
 |cons a r ih=>simp[db,ih]
variable {a:aP}
theorem oP{l:List aP}(h:l[i]? =some a)(ah:List ByteArray):db (l.take (i+1)) ah=a.params (db (l.take i) ah):=by
 rw[List.take_add_one,h];simp[p7,db]
theorem tp(l m:List aP):bh (l++m)=bh l+bh m:=by
 induction l with
 |nil=>simp[bh]
 |cons a r ih=>simp[bh,ih];omega
theorem kJ{l:List aP}(h:l[i]? =some a):bh (l.take (i+1))=bh (l.take i)+a.size:=by
 rw[List.take_add_one,h];simp[tp,bh]
theorem gZ(l:List aP)(i:Nat):bh (l.take i)≤bh l:=by
 have:bh l=bh (l.take i)+bh (l.drop i):=by rw[← tp,List.take_append_drop]
 omega
end Go.Vd
namespace Go.Vd
open Go Go.RowKit
inductive eC where
 |zero
 |succ (a:eC)
 |max (a b:eC)
 |imax (a b:eC)
 |param (s:ByteArray)
def eC.cC:eC→aP
 | .zero=>.mk 0 .empty []
 | .succ a=>.mk 1 .empty [a.cC]
 | .max a b=>.mk 2 .empty [a.cC,b.cC]
 | .imax a b=>.mk 3 .empty [a.cC,b.cC]
 | .param s=>.mk 4 s []
def eC.size:eC→Nat
 | .zero=>1
 | .succ a=>1+a.size
 | .max a b=>1+a.size+b.size
 | .imax a b=>1+a.size+b.size
 | .param _=>1
theorem eC.fS:∀l:eC,l.cC.size=l.size
 | .zero=>rfl
 | .succ a=>by simp[eC.cC,aP.size,bh,eC.size,a.fS]
 | .max a b=>by simp[eC.cC,aP.size,bh,eC.size,a.fS,b.fS];omega
 | .imax a b=>by simp[eC.cC,aP.size,bh,eC.size,a.fS,b.fS];omega
 | .param _=>rfl
def eC.tm:eC→Nat
 | .zero=>0
 | .succ a=>1+a.tm
 | .max a b=>a.tm+b.tm
 | .imax a b=>a.tm+b.tm
 | .param _=>0
def eC.params:eC→List ByteArray→List ByteArray
 | .zero,ah=>ah
 | .succ a,ah=>a.params ah
 | .max a b,ah=>b.params (a.params ah)
 | .imax a b,ah=>b.params (a.params ah)
 | .param s,ah=>if vL s ah then ah else ah++[s]
theorem eC.fc:∀(l:eC) (ah:List ByteArray),l.cC.params ah=l.params ah
 | .zero,ah=>by simp[eC.cC,aP.params,db,eC.params]
 | .succ a,ah=>by simp[eC.cC,aP.params,db,eC.params,a.fc]
 | .max a b,ah=>by simp[eC.cC,aP.params,db,eC.params,a.fc,b.fc]
 | .imax a b,ah=>by simp[eC.cC,aP.params,db,eC.params,a.fc,b.fc]
 | .param s,ah=>by simp[eC.cC,aP.params,eC.params]
def NC:List ByteArray→List Int→ByteArray→Int
 |p::ps,n::ns,s=>if p=s then n else NC ps ns s
 |_,_,_=>0
def eC.rr(σ:ByteArray→Int):eC→Int
 | .zero=>0
 | .succ a=>a.rr σ+1
 | .max a b=>Max.max (a.rr σ) (b.rr σ)
 | .imax a b=>if b.rr σ=0 then 0 else Max.max (a.rr σ) (b.rr σ)
 | .param s=>σ s
def FV(Fu:Int)(r:Nat):Int:=if r%3=0 then 0 else if r%3=1 then 1 else Fu
def yJ(Fu:Int)(k n:Nat):List Int:=(List.range n).map fun j=>FV Fu (k/3^j)
theorem Ib(Fu:Int)(k n:Nat):yJ Fu k (n+1)=yJ Fu k n++[FV Fu (k/3^n)]:=by simp[yJ,List.range_succ]
theorem Dg(Fu:Int)(k n:Nat):(yJ Fu k n).length=n:=by simp[yJ]
def eC.ps(a b:eC):List ByteArray:=b.params (a.params [])
def eC.Fu(a b:eC):Int:=2+a.tm+b.tm
def MF(a b:eC)(k:Nat):Prop:=a.rr (NC (a.ps b) (yJ (a.Fu b) k (a.ps b).length))≤b.rr (NC (a.ps b) (yJ (a.Fu b) k (a.ps b).length))
instance (a b:eC) (k:Nat):Decidable (MF a b k):=by unfold MF;infer_instance
def gb(c:Int)(first:Bool):Bool:=decide ((97≤c∧c≤122)∨(65≤c∧c≤90)∨c=95∨(first=false∧((48≤c∧c≤57)∨c=46∨c=39)))
def dJ(t:ByteArray):Bool:=decide (t≠ .empty)&&gb (bq t 0) true
theorem pR{t:ByteArray}(h:t≠ .empty):0<t.size:=by
 rcases Nat.eq_zero_or_pos t.size with h0|h0
 ·refine absurd ?_ h;apply ByteArray.ext;exact Array.eq_empty_of_size_eq_zero h0
 ·exact h0
def cZ(f:Int→Bool)(s:ByteArray)(p:Nat):Nat:=if h:p<s.size∧f (bq s p)=true then cZ f s (p+1) else p
termination_by s.size-p
decreasing_by omega
def rf(c:Int):Bool:=decide (c=32∨c=9∨c=10)
def jP(c:Int):Bool:=decide (48≤c∧c≤57)
def bd(s:ByteArray)(p0:Nat):ByteArray×Nat×Bool:=
 let p:=cZ rf s p0
 if p=s.size then(.empty,p,true) else
 let c:=bq s p
 if c=40∨c=41 then(s.extract p (p+1),p,true) else
 if gb c true then
  let q:=cZ (gb · false) s (p+1)
  if q-p>40 then(.empty,p,false) else(s.extract p q,p,true)
 else if c=35∨jP c then
  let q:=cZ jP s (p+1)
  let d:=if c=35 then p+1 else p
  if q=d∨q-d>5∨(q-d>1∧bq s d=48) then(.empty,p,false) else(s.extract p q,p,true)
 else(.empty,p,false)
theorem fw(f:Int→Bool)(s:ByteArray)(p:Nat)(h:p≤s.size):p≤cZ f s p∧cZ f s p≤s.size:=by
 rw[cZ];split
 ·rename_i h1;have:=fw f s (p+1) (by omega);omega
 ·omega
termination_by s.size-p
variable {f:Int→Bool} {s:ByteArray} {p:Nat}
theorem oH(h:p<s.size)(hf:f (bq s p)=true):cZ f s p=cZ f s (p+1):=by
 rw[cZ];simp[h,hf]
theorem jZ(h:¬(p<s.size∧f (bq s p)=true)):cZ f s p=p:=by
 rw[cZ];simp only[h];rfl
mutual
def aP.subst(ps:List ByteArray)(ls:List aP):aP→aP
 | .mk k s args=>if k=4 then(match ps.findIdx? (· =s) with|some i=>ls.getD i (.mk k s args)|none=>.mk k s args) else .mk k s (dW ps ls args)
def dW(ps:List ByteArray)(ls:List aP):List aP→List aP
 |[]=>[]
 |l::r=>l.subst ps ls::dW ps ls r
end
theorem rP(ps:List ByteArray)(ls:List aP):∀a:List aP,(dW ps ls a).length=a.length
 |[]=>rfl
 |l::r=>by simp[dW,rP ps ls r]
theorem wv(ps:List ByteArray)(ls:List aP):∀a b:List aP,dW ps ls (a++b)=dW ps ls a++dW ps ls b
 |[],b=>rfl
 |l::r,b=>by simp[dW,wv ps ls r b]
variable {ps:List ByteArray} {i:Nat}
theorem u5{ls a:List aP}{x:aP}(h:a[i]? =some x):dW ps ls (a.take (i+1))=dW ps ls (a.take i)++[x.subst ps ls]:=by
 rw[List.take_add_one,h,wv];rfl
theorem o6(h:i<ps.length)(h1:s∉ps.take i)(h2:ps[i]=s):ps.findIdx? (· =s)=some i:=by
 rw[List.findIdx?_eq_some_iff_getElem];refine⟨h,by simpa using h2,fun j hj=>?_⟩;simp only[decide_eq_true_eq];intro e;exact h1 (List.mem_iff_getElem.2 ⟨j,by simp;omega,by simpa using e⟩)
theorem o7(h:s∉ps):ps.findIdx? (· =s)=none:=by
 rw[List.findIdx?_eq_none_iff];intro x hx;simp only[decide_eq_false_iff_not];intro e;subst e;exact h hx
theorem qL(a:Array UInt8):(ByteArray.mk a).size=a.size:=rfl
def eC.weight:eC→Nat
 | .zero=>10
 | .succ a=>10+a.weight
 | .max a b=>10+a.weight+b.weight
 | .imax a b=>10+a.weight+b.weight
 | .param s=>10+s.size
mutual
def vO:aP→Prop
 | .mk k s args=>0≤k∧k≤4∧(k=4→s≠ .empty)∧E2 args
def E2:List aP→Prop
 |[]=>True
 |l::r=>vO l∧E2 r
end
end Go.Vd
namespace Go.Vd
open Go Go.RowKit
structure RS where
 p:Nat
 f:Option Nat
def bE:Option Nat→Int
 |none=>0
 |some _=>1
def eG:Option Nat→Int
 |none=>0
 |some a=>a
def RS.fail(at':Nat)(r:RS):RS:=match r.f with
 |none=>⟨r.p,some at'⟩
 |some a=>⟨r.p,some a⟩
def aS(s:ByteArray)(r:RS):ByteArray×RS:=
 let t:=bd s r.p
 if t.2.2=false∨t.1=.empty then(.empty,r.fail t.2.1)
 else match r.f with
  |none=>(t.1,⟨t.2.1+t.1.size,none⟩)
  |some a=>(.empty,⟨r.p,some a⟩)
def cw(s w:ByteArray)(r:RS):RS:=
 let t:=bd s r.p
 if t.2.2=false∨t.1≠w then r.fail t.2.1
 else match r.f with
  |none=>⟨t.2.1+t.1.size,none⟩
  |some a=>⟨r.p,some a⟩
def gQ(w:ByteArray):Int:=
 if w=⟨#[115]⟩ then 1 else if w=⟨#[109,97,120]⟩ then 2 else if w=⟨#[105,109,97,120]⟩ then 3 else 0
def j7:aP:=.mk 0 .empty []
def bN:Nat→ByteArray→RS→aP×RS
 |0,_,r=>(j7,r)
 |n+1,s,r=>
  match r.f with
  |some _=>(j7,r)
  |none=>
   let t:=bd s r.p
   if t.1=⟨#[48]⟩ then(j7,(aS s r).2)
   else if dJ t.1 then(.mk 4 t.1 [],(aS s r).2)
   else if t.1=⟨#[40]⟩ then
    let r1:=(aS s r).2
    let w:=bd s r1.p
    if gQ w.1=0 then(j7,r1.fail w.2.1)
    else
     let r2:=(aS s r1).2
     let a:=bN n s r2
     if gQ w.1=1 then(.mk 1 .empty [a.1],cw s ⟨#[41]⟩ a.2)
     else
      let b:=bN n s a.2
      (.mk (gQ w.1) .empty [a.1,b.1],cw s ⟨#[41]⟩ b.2)
   else(j7,r.fail t.2.1)
def iA(s:ByteArray)(r:RS):RS:=
 let t:=bd s r.p
 if t.2.2=false∨t.1≠ .empty then r.fail t.2.1 else r
section
variable {s:ByteArray} {p i:Nat}
theorem Le(h:cZ rf s p=cZ rf s i)(hi:i=s.size):bd s p=(.empty,i,true):=by
 have h1:cZ rf s p=i:=h.trans (jZ (by omega));unfold bd;simp only[h1,hi];rfl
theorem Ld(h:cZ rf s p=i)(hi:i<s.size)(hc:bq s i=40∨bq s i=41):bd s p=(s.extract i (i+1),i,true):=by
 unfold bd;simp only[h];rw[if_neg (by omega),if_pos hc]
variable {q:Nat}
theorem y5{f:Int→Bool}{s:ByteArray}{p:Nat}(h:cZ f s p=cZ f s q)(hn:(s.size:Int)≤q∨f (bq s q)=false):cZ f s p=q:=h.trans (jZ (by
 rintro⟨h1,h2⟩;rcases hn with h3|h3
 ·omega
 ·rw [h3] at h2;cases h2))
theorem oI{s:ByteArray}{p:Nat}(h:cZ jP s p=cZ jP s q)(hn:¬((q:Int)<s.size∧48≤bq s q∧bq s q≤57)):cZ jP s p=q:=h.trans (jZ (by
 rintro⟨h1,h2⟩;simp only[jP,decide_eq_true_eq] at h2;omega))
theorem DT(h:cZ rf s p=i)(hi:i<s.size)(hc:¬(bq s i=40∨bq s i=41))(hn:gb (bq s i) true=true)(hq:cZ (gb · false) s (i+1)=q)(hl:40<q-i):bd s p=(.empty,i,false):=by
 unfold bd;simp only[h];rw[if_neg (by omega),if_neg hc,if_pos hn,hq,if_pos hl]
theorem IZ(h:cZ rf s p=i)(hi:i<s.size)(hc:¬(bq s i=40∨bq s i=41))(hn:gb (bq s i) true=true)(hq:cZ (gb · false) s (i+1)=q)(hl:¬40<q-i):bd s p=(s.extract i q,i,true):=by
 unfold bd;simp only[h];rw[if_neg (by omega),if_neg hc,if_pos hn,hq,if_neg hl]
variable {d:Nat}
theorem yY(h:cZ rf s p=i)(hi:i<s.size)(hc:¬(bq s i=40∨bq s i=41))(hn:gb (bq s i) true=false)(hd:bq s i=35∨(48≤bq s i∧bq s i≤57))(hq:cZ jP s (i+1)=q)(hdd:(if bq s i=35 then i+1 else i)=d)(hl:q=d∨5<q-d∨(1<q-d∧bq s d=48)):bd s p=(.empty,i,false):=by
 have h2:bq s i=35∨jP (bq s i)=true:=by simpa[jP] using hd
 unfold bd;simp only[h];rw[if_neg (by omega),if_neg hc,if_neg (by simp[hn]),if_pos h2,hq,hdd,if_pos hl]
theorem FR(h:cZ rf s p=i)(hi:i<s.size)(hc:¬(bq s i=40∨bq s i=41))(hn:gb (bq s i) true=false)(hd:bq s i=35∨(48≤bq s i∧bq s i≤57))(hq:cZ jP s (i+1)=q)(hdd:(if bq s i=35 then i+1 else i)=d)(hl:¬(q=d∨5<q-d∨(1<q-d∧bq s d=48))):bd s p=(s.extract i q,i,true):=by
 have h2:bq s i=35∨jP (bq s i)=true:=by simpa[jP] using hd
 unfold bd;simp only[h];rw[if_neg (by omega),if_neg hc,if_neg (by simp[hn]),if_pos h2,hq,hdd,if_neg hl]
theorem IY(h:cZ rf s p=i)(hi:i<s.size)(hc:¬(bq s i=40∨bq s i=41))(hn:gb (bq s i) true=false)(hd:¬(bq s i=35∨(48≤bq s i∧bq s i≤57))):bd s p=(.empty,i,false):=by
 have h2:¬(bq s i=35∨jP (bq s i)=true):=by simpa[jP] using hd
 unfold bd;simp only[h];rw[if_neg (by omega),if_neg hc,if_neg (by simp[hn]),if_neg h2]
end
theorem ft{s:ByteArray}{p:Nat}(hp:p≤s.size):p≤(bd s p).2.1∧(bd s p).2.1+(bd s p).1.size≤s.size:=by
 have h1:=fw rf s p hp;unfold bd;simp only;split
 ·rename_i h;exact⟨h1.1,by simp;omega⟩
 ·rename_i h;have h2:cZ rf s p+1≤s.size:=by omega
  split
  ·exact ⟨h1.1,by simp[ByteArray.size_extract];omega⟩
  ·split
   ·have h3:=fw (gb · false) s _ h2;split
    ·exact ⟨h1.1,by simp;omega⟩
    ·exact ⟨h1.1,by simp[ByteArray.size_extract];omega⟩
   ·have h3:=fw jP s _ h2
    repeat' split
    all_goals first
     |exact⟨h1.1,by simp;omega⟩
     |exact⟨h1.1,by simp[ByteArray.size_extract];omega⟩
theorem rJ{s:ByteArray}{p:Nat}:(bd s p).2.2=false→(bd s p).1=.empty:=by
 unfold bd;dsimp only
 repeat' split
 all_goals first
  |(intro _;rfl)
  |(intro h;cases h)
theorem iN{s:ByteArray}{p:Nat}(ht:(bd s p).1≠ .empty):aS s ⟨p,none⟩=((bd s p).1,⟨(bd s p).2.1+(bd s p).1.size,none⟩):=by
 unfold aS;dsimp only;rw[if_neg];rintro(h|h)
 ·exact ht (rJ h)
 ·exact ht h
theorem RS.im(at':Nat)(r:RS):(r.fail at').p=r.p:=by obtain⟨p,f⟩:=r;cases f<;>rfl
variable {r:RS}
theorem c6{s:ByteArray}(hp:r.p≤s.size):r.p≤(aS s r).2.p∧(aS s r).2.p≤s.size:=by
 have hat:=ft (s:=s) hp;obtain⟨p,f⟩:=r;simp only at hp hat;unfold aS;dsimp only;split
 ·rw [RS.im];exact⟨Nat.le_refl _,hp⟩
 ·cases f with
  |none=>dsimp only;exact⟨by omega,hat.2⟩
  |some a=>exact⟨Nat.le_refl _,hp⟩
theorem bY{s w:ByteArray}(hp:r.p≤s.size):r.p≤(cw s w r).p∧(cw s w r).p≤s.size:=by
 have hat:=ft (s:=s) hp;obtain⟨p,f⟩:=r;simp only at hp hat;unfold cw;dsimp only;split
 ·rw [RS.im];exact⟨Nat.le_refl _,hp⟩
 ·cases f with
  |none=>dsimp only;exact⟨by omega,hat.2⟩
  |some a=>exact⟨Nat.le_refl _,hp⟩
theorem eJ{s:ByteArray}:∀(n:Nat) {r:RS},r.p≤s.size→r.p≤(bN n s r).2.p∧(bN n s r).2.p≤s.size:=by
 intro n
 induction n with
 |zero=>intro r hp;exact⟨Nat.le_refl _,hp⟩
 |succ n ih=>
  intro r hp;obtain⟨p,f⟩:=r;simp only at hp;cases f with
  |some a=>exact⟨Nat.le_refl _,hp⟩
  |none=>
   have h1:=c6 (s:=s) (r:=⟨p,none⟩) hp;have h2:=c6 (s:=s) (r:=(aS s ⟨p,none⟩).2) h1.2;have h3:=ih h2.2;have h4:=ih h3.2;simp only at h1;simp only[bN];split
   ·exact h1
   ·split
    ·exact h1
    ·split
     ·split
      ·rw [RS.im];exact h1
      ·split
       ·have h5:=bY (s:=s) (w:=⟨#[41]⟩) h3.2;exact⟨Nat.le_trans (m:=(bN n s (aS s (aS s ⟨p,none⟩).2).2).2.p) (by omega) h5.1,h5.2⟩
       ·have h5:=bY (s:=s) (w:=⟨#[41]⟩) h4.2;exact⟨Nat.le_trans (m:=(bN n s (bN n s (aS s (aS s ⟨p,none⟩).2).2).2).2.p) (by omega) h5.1,h5.2⟩
     ·rw [RS.im];exact⟨Nat.le_refl _,hp⟩
section
variable {s:ByteArray} {p n:Nat}
theorem nh(h5:(bd s p).1=⟨#[48]⟩):bN (n+1) s ⟨p,none⟩=(j7,(aS s ⟨p,none⟩).2):=by simp only[bN];rw[if_pos h5]
theorem ni(h5:¬(bd s p).1=⟨#[48]⟩)(h7:dJ (bd s p).1=true):bN (n+1) s ⟨p,none⟩=(.mk 4 (bd s p).1 [],(aS s ⟨p,none⟩).2):=by simp only[bN];rw[if_neg h5,if_pos h7]
theorem nj(h5:¬(bd s p).1=⟨#[48]⟩)(h7:dJ (bd s p).1=false)(h10:(bd s p).1=⟨#[40]⟩)(h21:gQ (bd s (aS s ⟨p,none⟩).2.p).1=0):
 bN (n+1) s ⟨p,none⟩=(j7,(aS s ⟨p,none⟩).2.fail (bd s (aS s ⟨p,none⟩).2.p).2.1):=by simp only[bN];rw[if_neg h5,if_neg (by simp[h7]),if_pos h10,if_pos h21]
theorem oY(h5:¬(bd s p).1=⟨#[48]⟩)(h7:dJ (bd s p).1=false)(h10:(bd s p).1=⟨#[40]⟩)(h27:gQ (bd s (aS s ⟨p,none⟩).2.p).1=1):
 bN (n+1) s ⟨p,none⟩=(.mk 1 .empty [(bN n s (aS s (aS s ⟨p,none⟩).2).2).1],cw s ⟨#[41]⟩ (bN n s (aS s (aS s ⟨p,none⟩).2).2).2):=by
 simp only[bN];rw[if_neg h5,if_neg (by simp[h7]),if_pos h10,if_neg (by omega),if_pos h27]
theorem jr(h5:¬(bd s p).1=⟨#[48]⟩)(h7:dJ (bd s p).1=false)(h10:(bd s p).1=⟨#[40]⟩)(h21:¬gQ (bd s (aS s ⟨p,none⟩).2.p).1=0)(h27:¬gQ (bd s (aS s ⟨p,none⟩).2.p).1=1):
 bN (n+1) s ⟨p,none⟩=(.mk (gQ (bd s (aS s ⟨p,none⟩).2.p).1) .empty [(bN n s (aS s (aS s ⟨p,none⟩).2).2).1,(bN n s (bN n s (aS s (aS s ⟨p,none⟩).2).2).2).1],cw s ⟨#[41]⟩ (bN n s (bN n s (aS s (aS s ⟨p,none⟩).2).2).2).2):=by
 simp only[bN];rw[if_neg h5,if_neg (by simp[h7]),if_pos h10,if_neg h21,if_neg h27]
theorem nk(h5:¬(bd s p).1=⟨#[48]⟩)(h7:dJ (bd s p).1=false)(h10:¬(bd s p).1=⟨#[40]⟩):bN (n+1) s ⟨p,none⟩=(j7,(RS.mk p none).fail (bd s p).2.1):=by
 simp only[bN];rw[if_neg h5,if_neg (by simp[h7]),if_neg h10]
end
end Go.Vd
namespace Go.Proofs.YtndbnldjidciiaaGreatDoor
section
open Go Go.Vd Go.RowKit
attribute [local irreducible] bu bA di ak bL
variable {gl:Nat→List D}
theorem jx(name:ByteArray)(l:List ByteArray)(hl:l.length≤281474976710656):cD Tryz.prog gl 101 [.v (.string name),eA l] (· =.v (.bool (vL name l))):=by
 refine bD Tryz.func101 Tryz.ntmps101 ?_;have hlen:=cQ l;refine kc 12 [5,0,1] 0 ?_;refine lP (ι:=Nat) (fun i=>[(5,int i)]) [0,1] (fun i=>i≤l.length∧name∉l.take i) (fun i=>l.length-i) (0) rfl ?I1 ?M1 ?H1
 case I1=>
  exact⟨by omega,by simp⟩
 case M1=>
  exact mz
 case H1=>
  rintro i hinv
  try dsimp only at hinv
  refine kc 0 [5,0,1] 9 ?_;refine cJ (fun h2=>?_) (fun h2=>?_)
  ·refine kc 5 [] 6 ?_;refine ez ?_;rw[Et];have:l.take i=l:=List.take_of_length_le (by omega);rw[← this];exact hinv.2
  refine kc 4 [5,0,1] 4 ?_;refine o1 (cu pN ue ?_ (he:=by exact(kj (by omega))));refine go 5 ?_;refine cj (fun h4=>?_) (fun h4=>?_)
  ·refine kc 0 [] 11 ?_;refine ez ?_;rw[Hq (by omega) h4]
  refine kc 3 [5,0,1] 2 ?_;refine o1 (cG ?_);refine go 2 ?_;refine bi (i+1) rfl ?_ ?_
  ·exact ⟨⟨by omega,iM (by omega) hinv.2 h4⟩,by omega⟩
  ·exact mz
theorem Ch:∀(n:Nat) (k:Int) (s:ByteArray) (args:List aP) (ah:List ByteArray),(aP.mk k s args).size≤n→ah.length+(aP.mk k s args).size≤1099511627776→
 et Tryz.prog gl 100 [.row 9 1] [.d (aP.mk k s args).d,.own 0 1 (strs ah)] fun out ob'=>out=.ret (.own 0 1 (strs ((aP.mk k s args).params ah)))∧ob'=[.row 9 1]:=by
 intro n
 induction n with
 |zero=>intro k s args ah h;simp[aP.size] at h
 |succ n ih=>
  intro k s args ah hn hb;have hsz:bh args≤n:=by simp[aP.size] at hn;omega
  have hlen:=bV args;have hlen2:=cQ ah;have hlb:=iv args;simp only[aP.size] at hb;refine bS Tryz.func100 Tryz.ntmps100 1 ?_;refine gc 14 ?_;refine cj (fun h1=>?_) (fun h1=>?_)
  ·refine kc 0 [2,1] 5 ?_;refine oc (cv Ad rfl rfl (jx s ah (by omega)) (an (bo .nil)) ?_);refine ko 4 [5,2,1] 6 ?_;refine cJ (fun h3=>?_) (fun h3=>?_)
   ·refine kc 2 [1] 8 ?_;refine fR ?_;refine iw ⟨_,_,rfl,rfl,rfl⟩ [0] (.own 0 1 (strs ah)) ([.row 9 1]) rfl rfl rfl ?_ rfl ?_ ?_
    ·repeat (first|exact cH|refine cr ?_)
    ·exact .refl _
    ·refine ⟨?_,rfl⟩;simp only[aP.params,if_pos (show k=4 by omega),h3];rfl
   refine gc 4 ?_;refine oc (gD rQ [.tmp 18] G3 ?_);refine oc (px rQ ?_);refine ko 3 [1] 8 ?_;refine fR ?_;refine iw ⟨_,_,rfl,rfl,rfl⟩ [0] (.own 0 1 (strs (ah++[s]))) ([.row 9 1]) rfl rfl rfl ?_ rfl ?_ ?_
   ·repeat (first|exact cH|refine cr ?_)
   ·exact Fit.of_eq (by rw[← nT];rfl)
   ·refine ⟨?_,rfl⟩;simp only[aP.params,if_pos (show k=4 by omega),h3];rfl
  refine kc 3 [2,1] 6 ?_;refine lP (ι:=Nat) (fun i=>[(6,int i),(1,.own 0 1 (strs (db (args.take i) ah)))]) [2] (fun i=>i≤args.length) (fun i=>args.length-i) (0) rfl ?I2 ?M2 ?H2
  case I2=>
   exact Nat.zero_le _
  case M2=>
   exact mz
  case H2=>
   rintro i hinv
   try dsimp only at hinv
   refine kc 0 [6,1,2] 10 ?_;refine cJ (fun h7=>?_) (fun h7=>?_)
   ·refine kc 5 [1] 7 ?_;refine fR ?_;refine iw ⟨_,_,rfl,rfl,rfl⟩ [0] (.own 0 1 (strs (db (args.take i) ah))) ([.row 9 1]) rfl rfl rfl ?_ rfl ?_ ?_
    ·repeat (first|exact cH|refine cr ?_)
    ·exact .refl _
    ·refine ⟨?_,rfl⟩;simp only[aP.params,if_neg (show ¬k=4 by omega)];rw[List.take_of_length_le (by omega)]
   refine kc 4 [6,1,2] 4 ?_;obtain⟨k',s',a',hget⟩:=dh (show i<args.length by omega);have hsz':=jE hget;have hlt:=p6 (args.take i) ah;have hst:=kJ hget;have hsl:=gZ args (i+1);refine o1 (cu fo fH ?_ (he:=by exact(dD hget)));refine go 2 ?_;refine oc (aN Dw rfl rfl rfl rfl (ih k' s' a' (db (args.take i) ah) (by omega) (by omega)) [0] (cr .nil) rfl rfl rfl rfl (bo (an .nil)) (fun s ob' hq=>?_) (fun s ob' hq=>?_));rotate_left
   ·first|exact hq.elim|cases hq.1
   obtain⟨hq1,rfl⟩:=hq;cases hq1;rw[← oP hget];refine⟨_,_,_,_,_,rfl,rfl,rfl,rfl,rfl,?_⟩;refine ko 4 [1,6,2] 2 ?_;refine o1 (cG ?_);refine go 2 ?_;refine bi (i+1) rfl ?_ ?_
   ·exact ⟨by omega,by omega⟩
   ·exact mz
end
section
open Go Go.Vd Go.RowKit
attribute [local irreducible] bu bA di ak bL
variable {gl:Nat→List D}
theorem nM(c:Int)(first:Bool):cD Tryz.prog gl 125 [.v (.int .u8 c),.v (.bool first)] (· =.v (.bool (gb c first))):=by
 refine bD Tryz.func125 Tryz.ntmps125 ?_;refine gc 10 ?_;refine' oa (yt:=10) (d:=8) 2 ?a1 ?b1 ?_
 case a1=>
  intro hc hK;refine go 2 ?_;exact hK [_,_] rfl rfl
 case b1=>
  intro _ hK;refine go 2 ?_;exact hK [_,_] rfl
 refine go 1 ?_;refine' oo (yt:=18) (d:=12) 6 ?a2 ?b2 ?_
 case a2=>
  intro hc hK;refine go 3 ?_;refine' oa (yt:=17) (d:=15) 2 ?a3 ?b3 ?_ (hg:=.yes rfl rfl rfl rfl)
  case a3=>
   intro hc hK;refine go 2 ?_;exact hK [_,_] rfl rfl
  case b3=>
   intro _ hK;refine go 2 ?_;exact hK [_,_] rfl
  exact hK [_,_,_,_] rfl rfl
 case b2=>
  intro _ hK;refine go 6 ?_;exact hK [_,_,_,_,_,_] rfl
 refine go 1 ?_;refine' oo (yt:=22) (d:=20) 2 ?a4 ?b4 ?_
 case a4=>
  intro hc hK;refine go 2 ?_;exact hK [_,_] rfl rfl
 case b4=>
  intro _ hK;refine go 2 ?_;exact hK [_,_] rfl
 refine ko 3 [5,0,1] 4 ?_;refine' oo (yt:=43) (d:=25) 18 ?a5 ?b5 ?_
 case a5=>
  intro hc hK;refine go 3 ?_;refine' oa (yt:=42) (d:=28) 14 ?a6 ?b6 ?_ (hg:=.yes rfl rfl rfl rfl)
  case a6=>
   intro hc hK;refine go 3 ?_;refine' oa (yt:=33) (d:=31) 2 ?a7 ?b7 ?_ (hg:=.yes rfl rfl rfl rfl)
   case a7=>
    intro hc hK;refine go 2 ?_;exact hK [_,_] rfl rfl
   case b7=>
    intro _ hK;refine go 2 ?_;exact hK [_,_] rfl
   refine go 1 ?_;refine' oo (yt:=37) (d:=35) 2 ?a8 ?b8 ?_ (hg:=.yes rfl rfl rfl rfl)
   case a8=>
    intro hc hK;refine go 2 ?_;exact hK [_,_] rfl rfl
   case b8=>
    intro _ hK;refine go 2 ?_;exact hK [_,_] rfl
   refine go 1 ?_;refine' oo (yt:=41) (d:=39) 2 ?a9 ?b9 ?_ (hg:=.yes rfl rfl rfl rfl)
   case a9=>
    intro hc hK;refine go 2 ?_;exact hK [_,_] rfl rfl
   case b9=>
    intro _ hK;refine go 2 ?_;exact hK [_,_] rfl
   exact hK [_,_,_,_,_,_,_,_] rfl rfl
  case b6=>
   intro _ hK;refine go 14 ?_;exact hK [_,_,_,_,_,_,_,_,_,_,_,_,_,_] rfl
  exact hK [_,_,_,_] rfl rfl
 case b5=>
  intro _ hK;refine go 18 ?_;exact hK [_,_,_,_,_,_,_,_,_,_,_,_,_,_,_,_,_,_] rfl
 refine go 4 ?_;refine ez ?_
 congr 2
 rw[Bool.eq_iff_iff];cases first<;>simp only[gb,Bool.or_eq_true,Bool.and_eq_true,decide_eq_true_eq,Bool.not_eq_true',Bool.not_true,Bool.not_false,Bool.false_eq_true,Bool.true_eq_false,true_and,false_and,or_false,reduceCtorEq]<;>constructor<;>intro h<;>omega
theorem nn(t:ByteArray):cD Tryz.prog gl 126 [.v (.string t)] (· =.v (.bool (dJ t))):=by
 refine bD Tryz.func126 Tryz.ntmps126 ?_;refine gc 10 ?_;refine' oa (yt:=8) (d:=5) 3 ?a10 ?b10 ?_
 case a10=>
  intro hc hK;refine go 1 ?_;have hpos:=pR hc;refine gy ?_;refine o1 (Fs uY ?_);refine gy ?_;refine oc (cv KI rfl rfl (nM (bq t (0:Int).toNat) true) (an (an .nil)) ?_);exact hK [_,_,_] rfl rfl
 case b10=>
  intro _ hK;refine go 3 ?_;exact hK [_,_,_] rfl
 refine go 4 ?_;refine ez ?_
 congr 2
 unfold dJ;rw[show(0:Int).toNat=0 from rfl];have e:(⟨#[]⟩:ByteArray)=.empty:=rfl;rw[e];simp
theorem No{s:ByteArray}{i:Nat}(h:bq s i=32∨bq s i=9∨bq s i=10):rf (bq s i)=true:=by simpa[rf] using h
theorem c7(s:ByteArray)(p:Nat)(c a:Int)(hs:s.size≤1099511627776)(hp:p≤s.size):
 et Tryz.prog gl 87 [.cells [.d (.v (.string s)),.d (.v (.int .i64 p)),.d (.v (.int .i64 c)),.d (.v (.int .i64 a))] 112] [.cb 0 0]
  fun out ob'=>out=.ret (.d (.bZ [.v (.string (bd s p).1),.v (.int .i64 (bd s p).2.1),.v (.bool (bd s p).2.2)]))∧ob'=[.cells [.d (.v (.string s)),.d (.v (.int .i64 p)),.d (.v (.int .i64 c)),.d (.v (.int .i64 a))] 112]:=by
 refine bS Tryz.func87 Tryz.ntmps87 1 ?_;refine kc 18 [5,0] 0 ?_;refine lP (ι:=Nat) (fun i=>[(5,int i)]) [0] (fun i=>i≤s.size∧cZ rf s p=cZ rf s i) (fun i=>s.size-i) (p) rfl ?I26 ?M26 ?H26
 case I26=>
  exact⟨hp,rfl⟩
 case M26=>
  exact mz
 case H26=>
  rintro i hinv
  try dsimp only at hinv
  refine kc 0 [5,0] 11 ?_;refine' oa (yt:=46) (d:=21) 25 ?a11 ?b11 ?_
  case a11=>
   intro hc hK;refine go 5 ?_;refine gy ?_;refine o1 (Fs uY ?_);refine go 2 ?_;refine' oo (yt:=36) (d:=29) 7 ?a12 ?b12 ?_ (hg:=.yes rfl rfl rfl rfl)
   case a12=>
    intro hc hK;refine go 5 ?_;refine gy ?_;refine o1 (Fs uY ?_);refine go 1 ?_;exact hK [_,_,_,_,_,_,_] rfl rfl
   case b12=>
    intro _ hK;refine go 7 ?_;exact hK [_,_,_,_,_,_,_] rfl
   refine go 1 ?_;refine' oo (yt:=45) (d:=38) 7 ?a13 ?b13 ?_ (hg:=.yes rfl rfl rfl rfl)
   case a13=>
    intro hc hK;refine go 5 ?_;refine gy ?_;refine o1 (Fs uY ?_);refine go 1 ?_;exact hK [_,_,_,_,_,_,_] rfl rfl
   case b13=>
    intro _ hK;refine go 7 ?_;exact hK [_,_,_,_,_,_,_] rfl
   exact hK [_,_,_,_,_,_,_,_,_,_,_] rfl rfl
  case b11=>
   intro _ hK;refine go 25 ?_;exact hK [_,_,_,_,_,_,_,_,_,_,_,_,_,_,_,_,_,_,_,_,_,_,_,_,_] rfl
  refine go 2 ?_;refine cj (fun h2=>?_) (fun h2=>?_)
  ·refine kc 3 [5,0] 2 ?_;refine o1 (cG ?_);refine go 3 ?_;refine bi (i+1) rfl ?_ mz;exact⟨⟨by omega,hinv.2.trans (oH (by omega) (No (by omega)))⟩,by omega⟩
  refine kc 6 [5,0] 11 ?_;refine cj (fun h4=>?_) (fun h4=>?_)
  ·refine kc 0 [5] 10 ?_;refine sZ [0] [.cells [.d (.v (.string s)),.d (.v (.int .i64 p)),.d (.v (.int .i64 c)),.d (.v (.int .i64 a))] 112] ?_
   ·rw [Le hinv.2 (by omega)];exact⟨rfl,rfl⟩
  refine kc 3 [5,0] 0 ?_;have hsp:=hinv.2.trans (jZ (by rintro⟨h8,h9⟩;have h10:bq s i=32∨bq s i=9∨bq s i=10:=(by simpa[rf] using h9);omega));refine gc 2 ?_;refine o1 (cG ?_);refine go 10 ?_;refine o1 (Fs uY ?_);refine ko 3 [7,6,5,0] 3 ?_;refine oc (cv KI rfl rfl (nM (bq s i) true) (an (an .nil)) ?_);refine go 10 ?_;refine' oo (yt:=74) (d:=72) 2 ?a14 ?b14 ?_
  case a14=>
   intro hc hK;refine go 2 ?_;exact hK [_,_] rfl rfl
  case b14=>
   intro _ hK;refine go 2 ?_;exact hK [_,_] rfl
  refine go 3 ?_;refine cj (fun h10=>?_) (fun h10=>?_)
  ·refine kc 3 [6,5,0] 8 ?_;refine o1 (qq uY ?_);refine go 7 ?_;refine sZ [0] [.cells [.d (.v (.string s)),.d (.v (.int .i64 p)),.d (.v (.int .i64 c)),.d (.v (.int .i64 a))] 112] ?_
   ·rw [Ld hsp (by omega) (by omega)];exact⟨rfl,rfl⟩
  refine kc 0 [8,7,6,5,0] 6 ?_;refine cj (fun h11=>?_) (fun h11=>?_)
  ·refine kc 2 [6,5,0] 0 ?_;refine lP (ι:=Nat) (fun q=>[(6,int q)]) [5,0] (fun q=>i<q∧q≤s.size∧cZ (gb · false) s (i+1)=cZ (gb · false) s q) (fun q=>s.size-q) (i+1) rfl ?I27 ?M27 ?H27
   case I27=>
    exact⟨by omega,by omega,rfl⟩
   case M27=>
    exact mz
   case H27=>
    rintro q hinv
    try dsimp only at hinv
    refine kc 0 [6,5,0] 11 ?_;refine' oa (yt:=92) (d:=85) 7 ?a15 ?b15 ?_
    case a15=>
     intro hc hK;refine go 5 ?_;refine gy ?_;refine o1 (Fs uY ?_);refine gy ?_;refine oc (cv KI rfl rfl (nM (bq s q) false) (an (an .nil)) ?_);exact hK [_,_,_,_,_,_,_] rfl rfl
    case b15=>
     intro _ hK;refine go 7 ?_;exact hK [_,_,_,_,_,_,_] rfl
    refine go 2 ?_;refine cj (fun h12=>?_) (fun h12=>?_)
    ·refine kc 3 [6,5,0] 2 ?_;refine o1 (cG ?_);refine go 3 ?_;refine bi (q+1) rfl ?_ mz;exact⟨⟨by omega,by omega,hinv.2.2.trans (oH (by omega) (by simpa using h12.2))⟩,by omega⟩
    refine kc 5 [6,5,0] 4 ?_;refine o1 (iC ?_);refine go 3 ?_;refine cj (fun h14=>?_) (fun h14=>?_)
    ·refine kc 0 [5] 11 ?_;refine sZ [0] [.cells [.d (.v (.string s)),.d (.v (.int .i64 p)),.d (.v (.int .i64 c)),.d (.v (.int .i64 a))] 112] ?_
     ·rw [DT hsp (by omega) (by omega) h11 (y5 hinv.2.2 h12) (by omega)];exact⟨rfl,rfl⟩
    refine kc 3 [6,5,0] 8 ?_;refine o1 (qq uY ?_);refine go 7 ?_;refine sZ [0] [.cells [.d (.v (.string s)),.d (.v (.int .i64 p)),.d (.v (.int .i64 c)),.d (.v (.int .i64 a))] 112] ?_
    ·rw [IZ hsp (by omega) (by omega) h11 (y5 hinv.2.2 h12) (by omega)];exact⟨rfl,rfl⟩
  refine gc 5 ?_;refine' oo (yt:=110) (d:=104) 6 ?a16 ?b16 ?_
  case a16=>
   intro hc hK;refine go 3 ?_;refine' oa (yt:=109) (d:=107) 2 ?a17 ?b17 ?_ (hg:=.yes rfl rfl rfl rfl)
   case a17=>
    intro hc hK;refine go 2 ?_;exact hK [_,_] rfl rfl
   case b17=>
    intro _ hK;refine go 2 ?_;exact hK [_,_] rfl
   exact hK [_,_,_,_] rfl rfl
  case b16=>
   intro _ hK;refine go 6 ?_;exact hK [_,_,_,_,_,_] rfl
  refine go 3 ?_;refine cJ (fun h16=>?_) (fun h16=>?_)
  ·refine kc 0 [5] 11 ?_;refine sZ [0] [.cells [.d (.v (.string s)),.d (.v (.int .i64 p)),.d (.v (.int .i64 c)),.d (.v (.int .i64 a))] 112] ?_
   ·rw [IY hsp (by omega) (by omega) h11 (by omega)];exact⟨rfl,rfl⟩
  refine kc 2 [7,6,5,0] 0 ?_;refine lP (ι:=Nat) (fun q=>[(6,int q)]) [7,5,0] (fun q=>i<q∧q≤s.size∧cZ jP s (i+1)=cZ jP s q) (fun q=>s.size-q) (i+1) rfl ?I28 ?M28 ?H28
  case I28=>
   exact⟨by omega,by omega,rfl⟩
  case M28=>
   exact mz
  case H28=>
   rintro q hinv
   try dsimp only at hinv
   refine kc 0 [6,7,5,0] 11 ?_;refine' oa (yt:=126) (d:=119) 7 ?a18 ?b18 ?_
   case a18=>
    intro hc hK;refine go 5 ?_;refine gy ?_;refine o1 (Fs uY ?_);refine go 1 ?_;exact hK [_,_,_,_,_,_,_] rfl rfl
   case b18=>
    intro _ hK;refine go 7 ?_;exact hK [_,_,_,_,_,_,_] rfl
   refine go 1 ?_;refine' oa (yt:=135) (d:=128) 7 ?a19 ?b19 ?_
   case a19=>
    intro hc hK;refine go 5 ?_;refine gy ?_;refine o1 (Fs uY ?_);refine go 1 ?_;exact hK [_,_,_,_,_,_,_] rfl rfl
   case b19=>
    intro _ hK;refine go 7 ?_;exact hK [_,_,_,_,_,_,_] rfl
   refine go 2 ?_;refine cj (fun h17=>?_) (fun h17=>?_)
   ·refine kc 3 [6,7,5,0] 2 ?_;refine o1 (cG ?_);refine go 3 ?_;refine bi (q+1) rfl ?_ mz;exact⟨⟨by omega,by omega,hinv.2.2.trans (oH (by omega) (by simp only[jP,decide_eq_true_eq];omega))⟩,by omega⟩
   refine kc 5 [6,7,5,0] 13 ?_;refine cJ (fun h20=>?_) (fun h20=>?_)
   ·refine kc 2 [9,6,5,0] 6 ?_;refine' oo (yt:=151) (d:=147) 4 ?a20 ?b20 ?_
    case a20=>
     intro hc hK;refine go 2 ?_;refine gy ?_;refine o1 (iC ?_);refine go 1 ?_;exact hK [_,_,_,_] rfl rfl
    case b20=>
     intro _ hK;refine go 4 ?_;exact hK [_,_,_,_] rfl
    refine go 1 ?_;refine' oo (yt:=166) (d:=153) 13 ?a21 ?b21 ?_
    case a21=>
     intro hc hK;refine go 2 ?_;refine gy ?_;refine o1 (iC ?_);refine go 2 ?_;refine' oa (yt:=165) (d:=158) 7 ?a22 ?b22 ?_ (hg:=.yes rfl rfl rfl rfl)
     case a22=>
      intro hc hK;refine go 5 ?_;refine gy ?_;refine o1 (Fs uY ?_);refine go 1 ?_;exact hK [_,_,_,_,_,_,_] rfl rfl
     case b22=>
      intro _ hK;refine go 7 ?_;exact hK [_,_,_,_,_,_,_] rfl
     exact hK [_,_,_,_,_,_] rfl rfl
    case b21=>
     intro _ hK;refine go 13 ?_;exact hK [_,_,_,_,_,_,_,_,_,_,_,_,_] rfl
    refine go 2 ?_;refine cj (fun h22=>?_) (fun h22=>?_)
    ·refine kc 0 [5] 11 ?_;refine sZ [0] [.cells [.d (.v (.string s)),.d (.v (.int .i64 p)),.d (.v (.int .i64 c)),.d (.v (.int .i64 a))] 112] ?_
     ·rw [yY hsp (by omega) (by omega) h11 (by omega) (oI hinv.2.2 (by omega)) (d:=i) (by rw[if_neg (by omega)]) (by omega)];exact⟨rfl,rfl⟩
    refine kc 3 [6,5,0] 8 ?_;refine o1 (qq uY ?_);refine go 7 ?_;refine sZ [0] [.cells [.d (.v (.string s)),.d (.v (.int .i64 p)),.d (.v (.int .i64 c)),.d (.v (.int .i64 a))] 112] ?_
    ·rw [FR hsp (by omega) (by omega) h11 (by omega) (oI hinv.2.2 (by omega)) (d:=i) (by rw[if_neg (by omega)]) (by omega)];exact⟨rfl,rfl⟩
   refine kc 0 [6,5,0] 2 ?_;refine o1 (cG ?_);refine go 9 ?_;refine' oo (yt:=151) (d:=147) 4 ?a23 ?b23 ?_
   case a23=>
    intro hc hK;refine go 2 ?_;refine gy ?_;refine o1 (iC ?_);refine go 1 ?_;exact hK [_,_,_,_] rfl rfl
   case b23=>
    intro _ hK;refine go 4 ?_;exact hK [_,_,_,_] rfl
   refine go 1 ?_;refine' oo (yt:=166) (d:=153) 13 ?a24 ?b24 ?_
   case a24=>
    intro hc hK;refine go 2 ?_;refine gy ?_;refine o1 (iC ?_);refine go 2 ?_;refine' oa (yt:=165) (d:=158) 7 ?a25 ?b25 ?_ (hg:=.yes rfl rfl rfl rfl)
    case a25=>
     intro hc hK;refine go 5 ?_;refine gy ?_;refine o1 (Fs uY ?_);refine go 1 ?_;exact hK [_,_,_,_,_,_,_] rfl rfl
    case b25=>
     intro _ hK;refine go 7 ?_;exact hK [_,_,_,_,_,_,_] rfl
    exact hK [_,_,_,_,_,_] rfl rfl
   case b24=>
    intro _ hK;refine go 13 ?_;exact hK [_,_,_,_,_,_,_,_,_,_,_,_,_] rfl
   refine go 2 ?_;refine cj (fun h22=>?_) (fun h22=>?_)
   ·refine kc 0 [5] 11 ?_;refine sZ [0] [.cells [.d (.v (.string s)),.d (.v (.int .i64 p)),.d (.v (.int .i64 c)),.d (.v (.int .i64 a))] 112] ?_
    ·rw [yY hsp (by omega) (by omega) h11 (by omega) (oI hinv.2.2 (by omega)) (d:=i+1) (by rw[if_pos (by omega)]) (by omega)];exact⟨rfl,rfl⟩
   refine kc 3 [6,5,0] 8 ?_;refine o1 (qq uY ?_);refine go 7 ?_;refine sZ [0] [.cells [.d (.v (.string s)),.d (.v (.int .i64 p)),.d (.v (.int .i64 c)),.d (.v (.int .i64 a))] 112] ?_
   ·rw [FR hsp (by omega) (by omega) h11 (by omega) (oI hinv.2.2 (by omega)) (d:=i+1) (by rw[if_pos (by omega)]) (by omega)];exact⟨rfl,rfl⟩
end
section
open Go Go.Vd Go.RowKit
attribute [local irreducible] bu bA di ak bL
variable {gl:Nat→List D}
def iB(s:ByteArray)(r:RS):Ob:=.cells [.d (.v (.string s)),.d (.v (.int .i64 r.p)),.d (.v (.int .i64 (bE r.f))),.d (.v (.int .i64 (eG r.f)))] 112
theorem eK(s:ByteArray)(at':Nat)(r:RS):
 et Tryz.prog gl 88 [iB s r] [.cb 0 0,.d (.v (.int .i64 at'))] fun out ob'=>out=.ret (.d (.bZ []))∧ob'=[iB s (r.fail at')]:=by
 obtain⟨p,f⟩:=r;cases f with
 |none=>
  refine bS Tryz.func88 Tryz.ntmps88 1 ?_;refine gc 10 ?_;refine v5 (fun h0=>?_) (fun h0=>?_)
  ·simp only[du,Int.reduceEq,Int.reduceNe,Int.reduceLT,Int.reduceLE,bE,eG] at h0
  (try simp only[du,Int.reduceEq,Int.reduceNe,Int.reduceLT,Int.reduceLE,bE,eG] at h0);refine kc 0 [0,1] 8 ?_;refine fM ?_;refine jO (l:=[]) rfl rfl ([0]) ([iB s (RS.fail at' ⟨p,none⟩)]) rfl rfl rfl ?_ ?_
  ·repeat (first|exact cH|refine bj ?_)
  ·exact ⟨rfl,rfl⟩
 |some a=>
  refine bS Tryz.func88 Tryz.ntmps88 1 ?_;refine gc 10 ?_;refine cd (fun h0=>?_) (fun h0=>?_)
  ·simp only[du,Int.reduceEq,Int.reduceNe,Int.reduceLT,Int.reduceLE,bE,eG] at h0
  (try simp only[du,Int.reduceEq,Int.reduceNe,Int.reduceLT,Int.reduceLE,bE,eG] at h0);refine gc 1 ?_;refine fM ?_;refine jO (l:=[]) rfl rfl ([0]) ([iB s (RS.fail at' ⟨p,some a⟩)]) rfl rfl rfl ?_ ?_
  ·repeat (first|exact cH|refine bj ?_)
  ·exact ⟨rfl,rfl⟩
theorem iu(s:ByteArray)(r:RS)(hs:s.size≤1099511627776)(hp:r.p≤s.size):
 et Tryz.prog gl 89 [iB s r] [.cb 0 0] fun out ob'=>out=.ret (.d (.v (.string (aS s r).1)))∧ob'=[iB s (aS s r).2]:=by
 have hat:=ft (s:=s) hp;obtain⟨p,f⟩:=r;simp only at hat hp;cases f with
 |none=>
  refine bS Tryz.func89 Tryz.ntmps89 1 ?_;refine gc 8 ?_;refine oc (ck pK rfl rfl (c7 s p (bE none) (eG none) hs hp) [0] rfl (bj .nil) (an .nil) ?_);refine ko 10 [5,4,3,0] 5 ?_;apply nI (yt:=16) (d:=14) 2 rfl rfl rfl (.none rfl) rfl rfl
  case h1=>
   intro hb4 hK;have hc:=hb4;(try simp only[du,Int.reduceEq,Int.reduceNe,Int.reduceLT,Int.reduceLE,bE,eG,RS.fail] at hc);refine mn ?_ (hbw:=by exact hb4);refine go 1 ?_;refine mn ?_ (hbw:=by exact hb4);refine go 1 ?_;exact hK [_,_] rfl rfl
  case h2=>
   intro hb4 hK;refine mi ?_ (hbw:=by exact hb4);refine mi ?_ (hbw:=by exact hb4);exact hK [_,_] rfl
  refine go 2 ?_;refine cd (fun h2=>?_) (fun h2=>?_)
  ·(try simp only[du,Int.reduceEq,Int.reduceNe,Int.reduceLT,Int.reduceLE,bE,eG,RS.fail] at h2)
   refine kc 0 [4,3,0] 3 ?_;refine oc (ck uS rfl rfl (eK s (bd s p).2.1 ⟨p,none⟩) [0] rfl (bj .nil) (an (an .nil)) ?_);refine go 13 ?_;refine v5 (fun h4=>?_) (fun h4=>?_)
   ·simp only[du,Int.reduceEq,Int.reduceNe,Int.reduceLT,Int.reduceLE,bE,eG,RS.fail] at h4
   (try simp only[du,Int.reduceEq,Int.reduceNe,Int.reduceLT,Int.reduceLE,bE,eG,RS.fail] at h4);refine kc 0 [] 7 ?_;refine sZ [0] [iB s (RS.fail (bd s p).2.1 ⟨p,none⟩)] ?_
   ·unfold aS;simp only;rw[if_pos (by exact h2)];exact⟨rfl,rfl⟩
  (try simp only[du,Int.reduceEq,Int.reduceNe,Int.reduceLT,Int.reduceLE,bE,eG,RS.fail] at h2);refine kc 3 [4,3,0] 10 ?_;refine cd (fun h4=>?_) (fun h4=>?_)
  ·simp only[du,Int.reduceEq,Int.reduceNe,Int.reduceLT,Int.reduceLE,bE,eG,RS.fail] at h4
  (try simp only[du,Int.reduceEq,Int.reduceNe,Int.reduceLT,Int.reduceLE,bE,eG,RS.fail] at h4);refine kc 2 [4,3,0] 6 ?_;refine o1 (cG ?_);refine ko 5 [3] 7 ?_;refine sZ [0] [iB s ⟨(bd s p).2.1+(bd s p).1.size,none⟩] ?_
  ·unfold aS;simp only;rw[if_neg (by rintro(h|h);exact absurd h (by simpa using h2.1);exact h2.2 h)];exact⟨rfl,rfl⟩
 |some a=>
  refine bS Tryz.func89 Tryz.ntmps89 1 ?_;refine gc 8 ?_;refine oc (ck pK rfl rfl (c7 s p (bE (some a)) (eG (some a)) hs hp) [0] rfl (bj .nil) (an .nil) ?_);refine ko 10 [5,4,3,0] 5 ?_;apply nI (yt:=16) (d:=14) 2 rfl rfl rfl (.none rfl) rfl rfl
  case h1=>
   intro hb4 hK;have hc:=hb4;(try simp only[du,Int.reduceEq,Int.reduceNe,Int.reduceLT,Int.reduceLE,bE,eG,RS.fail] at hc);refine mn ?_ (hbw:=by exact hb4);refine go 1 ?_;refine mn ?_ (hbw:=by exact hb4);refine go 1 ?_;exact hK [_,_] rfl rfl
  case h2=>
   intro hb4 hK;refine mi ?_ (hbw:=by exact hb4);refine mi ?_ (hbw:=by exact hb4);exact hK [_,_] rfl
  refine go 2 ?_;refine v5 (fun h2=>?_) (fun h2=>?_)
  ·(try simp only[du,Int.reduceEq,Int.reduceNe,Int.reduceLT,Int.reduceLE,bE,eG,RS.fail] at h2)
   refine kc 3 [4,3,0] 10 ?_;refine v5 (fun h4=>?_) (fun h4=>?_)
   ·simp only[du,Int.reduceEq,Int.reduceNe,Int.reduceLT,Int.reduceLE,bE,eG,RS.fail] at h4
   (try simp only[du,Int.reduceEq,Int.reduceNe,Int.reduceLT,Int.reduceLE,bE,eG,RS.fail] at h4);refine kc 0 [] 7 ?_;refine sZ [0] [iB s ⟨p,some a⟩] ?_
   ·unfold aS;simp only;rw[if_neg (by rintro(h|h);exact absurd h (by simpa using h2.1);exact h2.2 h)];exact⟨rfl,rfl⟩
  (try simp only[du,Int.reduceEq,Int.reduceNe,Int.reduceLT,Int.reduceLE,bE,eG,RS.fail] at h2);refine kc 0 [4,3,0] 3 ?_;refine oc (ck uS rfl rfl (eK s (bd s p).2.1 ⟨p,some a⟩) [0] rfl (bj .nil) (an (an .nil)) ?_);refine go 13 ?_;refine v5 (fun h4=>?_) (fun h4=>?_)
  ·simp only[du,Int.reduceEq,Int.reduceNe,Int.reduceLT,Int.reduceLE,bE,eG,RS.fail] at h4
  (try simp only[du,Int.reduceEq,Int.reduceNe,Int.reduceLT,Int.reduceLE,bE,eG,RS.fail] at h4);refine kc 0 [] 7 ?_;refine sZ [0] [iB s (RS.fail (bd s p).2.1 ⟨p,some a⟩)] ?_
  ·unfold aS;simp only;rw[if_pos (by exact h2)];exact⟨rfl,rfl⟩
theorem gf(s t:ByteArray)(r:RS)(hs:s.size≤1099511627776)(hp:r.p≤s.size):
 et Tryz.prog gl 94 [iB s r] [.cb 0 0,.d (.v (.string t))] fun out ob'=>out=.ret (.d (.bZ []))∧ob'=[iB s (cw s t r)]:=by
 have hat:=ft (s:=s) hp;obtain⟨p,f⟩:=r;simp only at hat hp;cases f with
 |none=>
  refine bS Tryz.func94 Tryz.ntmps94 1 ?_;refine gc 3 ?_;refine oc (ck pK rfl rfl (c7 s p (bE none) (eG none) hs hp) [0] rfl (bj .nil) (an .nil) ?_);refine ko 10 [6,5,4,0,1] 5 ?_;apply nI (yt:=18) (d:=15) 3 rfl rfl rfl (.none rfl) rfl rfl
  case h1=>
   intro hb4 hK;have hc:=hb4;(try simp only[du,Int.reduceEq,Int.reduceNe,Int.reduceLT,Int.reduceLE,bE,eG,RS.fail] at hc);refine mn ?_ (hbw:=by exact hb4);refine go 1 ?_;refine mn ?_ (hbw:=by exact hb4);refine go 1 ?_;refine mn ?_ (hbw:=by exact hb4);refine go 1 ?_;exact hK [_,_,_] rfl rfl
  case h2=>
   intro hb4 hK;refine mi ?_ (hbw:=by exact hb4);refine mi ?_ (hbw:=by exact hb4);refine mi ?_ (hbw:=by exact hb4);exact hK [_,_,_] rfl
  refine go 2 ?_;refine cd (fun h1=>?_) (fun h1=>?_)
  ·(try simp only[du,Int.reduceEq,Int.reduceNe,Int.reduceLT,Int.reduceLE,bE,eG,RS.fail] at h1)
   refine kc 0 [5,4,0] 3 ?_;refine oc (ck uS rfl rfl (eK s (bd s p).2.1 ⟨p,none⟩) [0] rfl (bj .nil) (an (an .nil)) ?_);refine go 12 ?_;refine cd (fun h3=>?_) (fun h3=>?_)
   ·simp only[du,Int.reduceEq,Int.reduceNe,Int.reduceLT,Int.reduceLE,bE,eG,RS.fail] at h3
   (try simp only[du,Int.reduceEq,Int.reduceNe,Int.reduceLT,Int.reduceLE,bE,eG,RS.fail] at h3);refine gc 1 ?_;refine fM ?_;refine jO (l:=[]) rfl rfl ([0]) ([iB s (RS.fail (bd s p).2.1 ⟨p,none⟩)]) rfl rfl rfl ?_ ?_
   ·repeat (first|exact cH|refine bj ?_)
   ·refine ⟨rfl,?_⟩;unfold cw;dsimp only;rw[if_pos (by exact h1)]
  (try simp only[du,Int.reduceEq,Int.reduceNe,Int.reduceLT,Int.reduceLE,bE,eG,RS.fail] at h1);refine kc 2 [5,4,0] 10 ?_;refine v5 (fun h3=>?_) (fun h3=>?_)
  ·simp only[du,Int.reduceEq,Int.reduceNe,Int.reduceLT,Int.reduceLE,bE,eG,RS.fail] at h3
  (try simp only[du,Int.reduceEq,Int.reduceNe,Int.reduceLT,Int.reduceLE,bE,eG,RS.fail] at h3);refine kc 0 [5,4,0] 5 ?_;refine o1 (cG ?_);refine go 4 ?_;refine fM ?_;refine jO (l:=[]) rfl rfl ([0]) ([iB s ⟨(bd s p).2.1+(bd s p).1.size,none⟩]) rfl rfl rfl ?_ ?_
  ·repeat (first|exact cH|refine bj ?_)
  ·refine ⟨rfl,?_⟩;unfold cw;dsimp only;rw[if_neg (by rintro(h|h);exact absurd h (by simpa using h1.1);exact h h1.2)]
 |some a=>
  refine bS Tryz.func94 Tryz.ntmps94 1 ?_;refine gc 3 ?_;refine oc (ck pK rfl rfl (c7 s p (bE (some a)) (eG (some a)) hs hp) [0] rfl (bj .nil) (an .nil) ?_);refine ko 10 [6,5,4,0,1] 5 ?_;apply nI (yt:=18) (d:=15) 3 rfl rfl rfl (.none rfl) rfl rfl
  case h1=>
   intro hb4 hK;have hc:=hb4;(try simp only[du,Int.reduceEq,Int.reduceNe,Int.reduceLT,Int.reduceLE,bE,eG,RS.fail] at hc);refine mn ?_ (hbw:=by exact hb4);refine go 1 ?_;refine mn ?_ (hbw:=by exact hb4);refine go 1 ?_;refine mn ?_ (hbw:=by exact hb4);refine go 1 ?_;exact hK [_,_,_] rfl rfl
  case h2=>
   intro hb4 hK;refine mi ?_ (hbw:=by exact hb4);refine mi ?_ (hbw:=by exact hb4);refine mi ?_ (hbw:=by exact hb4);exact hK [_,_,_] rfl
  refine go 2 ?_;refine v5 (fun h1=>?_) (fun h1=>?_)
  ·(try simp only[du,Int.reduceEq,Int.reduceNe,Int.reduceLT,Int.reduceLE,bE,eG,RS.fail] at h1)
   refine kc 2 [5,4,0] 10 ?_;refine cd (fun h3=>?_) (fun h3=>?_)
   ·simp only[du,Int.reduceEq,Int.reduceNe,Int.reduceLT,Int.reduceLE,bE,eG,RS.fail] at h3
   (try simp only[du,Int.reduceEq,Int.reduceNe,Int.reduceLT,Int.reduceLE,bE,eG,RS.fail] at h3);refine gc 1 ?_;refine fM ?_;refine jO (l:=[]) rfl rfl ([0]) ([iB s ⟨p,some a⟩]) rfl rfl rfl ?_ ?_
   ·repeat (first|exact cH|refine bj ?_)
   ·refine ⟨rfl,?_⟩;unfold cw;dsimp only;rw[if_neg (by rintro(h|h);exact absurd h (by simpa using h1.1);exact h h1.2)]
  (try simp only[du,Int.reduceEq,Int.reduceNe,Int.reduceLT,Int.reduceLE,bE,eG,RS.fail] at h1);refine kc 0 [5,4,0] 3 ?_;refine oc (ck uS rfl rfl (eK s (bd s p).2.1 ⟨p,some a⟩) [0] rfl (bj .nil) (an (an .nil)) ?_);refine go 12 ?_;refine cd (fun h3=>?_) (fun h3=>?_)
  ·simp only[du,Int.reduceEq,Int.reduceNe,Int.reduceLT,Int.reduceLE,bE,eG,RS.fail] at h3
  (try simp only[du,Int.reduceEq,Int.reduceNe,Int.reduceLT,Int.reduceLE,bE,eG,RS.fail] at h3);refine gc 1 ?_;refine fM ?_;refine jO (l:=[]) rfl rfl ([0]) ([iB s (RS.fail (bd s p).2.1 ⟨p,some a⟩)]) rfl rfl rfl ?_ ?_
  ·repeat (first|exact cH|refine bj ?_)
  ·refine ⟨rfl,?_⟩;unfold cw;dsimp only;rw[if_pos (by exact h1)]
theorem H0(s:ByteArray)(r:RS)(hs:s.size≤1099511627776)(hp:r.p≤s.size):
 et Tryz.prog gl 53 [iB s r] [.cb 0 0] fun out ob'=>out=.ret (.d (.agg [.v (.int .i64 (bE (iA s r).f)),.v (.int .i64 (eG (iA s r).f))]))∧ob'=[iB s (iA s r)]:=by
 refine bS Tryz.func53 Tryz.ntmps53 1 ?_;refine gc 8 ?_;refine oc (ck pK rfl rfl (c7 s r.p (bE r.f) (eG r.f) hs hp) [0] rfl (bj .nil) (an .nil) ?_);refine ko 10 [5,4,3,2,0] 5 ?_;refine' oo (yt:=16) (d:=14) 2 ?a1 ?b1 ?_
 case a1=>
  intro hc hK;refine go 2 ?_;exact hK [_,_] rfl rfl
 case b1=>
  intro _ hK;refine go 2 ?_;exact hK [_,_] rfl
 refine go 2 ?_;refine cJ (fun h2=>?_) (fun h2=>?_)
 ·refine kc 2 [2,0] 10 ?_;refine sZ [0] [iB s r] ?_
  ·unfold iA;simp only;rw[if_neg (by rintro(h|h);exact absurd h (by simpa using h2.1);exact h h2.2)];exact⟨rfl,rfl⟩
 refine kc 0 [4,2,0] 3 ?_;refine oc (ck uS rfl rfl (eK s (bd s r.p).2.1 r) [0] rfl (bj .nil) (an (an .nil)) ?_);refine ko 2 [2,0] 10 ?_;refine sZ [0] [iB s (RS.fail (bd s r.p).2.1 r)] ?_
 ·unfold iA;simp only;rw[if_pos (by exact h2)];exact⟨rfl,rfl⟩
end
section
open Go Go.Vd Go.RowKit
attribute [local irreducible] bu bA di ak bL
variable {gl:Nat→List D}
theorem xq(s:ByteArray)(hs:s.size≤1099511627776):∀(n:Nat) (r:RS),r.p≤s.size→s.size-r.p<n→
 et Tryz.prog gl 91 [iB s r] [.cb 0 0] fun out ob'=>out=.ret (.d (bN n s r).1.d)∧ob'=[iB s (bN n s r).2]:=by
 intro n
 induction n with
 |zero=>intro r _ h;omega
 |succ n ih=>
  intro r hp hn;have hat:=ft (s:=s) hp;obtain⟨p,f⟩:=r;simp only at hat hp hn;cases f with
  |some a=>
   refine bS Tryz.func91 Tryz.ntmps91 1 ?_;refine gc 8 ?_;refine oc (ck pK rfl rfl (c7 s p (bE (some a)) (eG (some a)) hs hp) [0] rfl (bj .nil) (an .nil) ?_);refine ko 9 [4,3,2,0] 3 ?_;refine oc (cv GH rfl rfl (nn (bd s p).1) (an .nil) ?_);refine go 16 ?_;refine v5 (fun h4=>?_) (fun h4=>?_)
   ·simp only[du,Int.reduceEq,Int.reduceNe,Int.reduceLT,Int.reduceLE,bE,eG] at h4
   (try simp only[du,Int.reduceEq,Int.reduceNe,Int.reduceLT,Int.reduceLE,bE,eG] at h4);refine kc 3 [2] 7 ?_;refine eo (j7.d) [0] [iB s ⟨p,some a⟩] ?_
   ·exact ⟨rfl,rfl⟩
  |none=>
   have hn1:=c6 (s:=s) (r:=⟨p,none⟩) hp;have hn2:=c6 (s:=s) (r:=(aS s ⟨p,none⟩).2) hn1.2;have hl1:=eJ (s:=s) n (r:=(aS s (aS s ⟨p,none⟩).2).2) hn2.2;have hl2:=eJ (s:=s) n (r:=(bN n s (aS s (aS s ⟨p,none⟩).2).2).2) hl1.2;refine bS Tryz.func91 Tryz.ntmps91 1 ?_;refine gc 8 ?_;refine oc (ck pK rfl rfl (c7 s p (bE none) (eG none) hs hp) [0] rfl (bj .nil) (an .nil) ?_);refine ko 9 [4,3,2,0] 3 ?_;refine oc (cv GH rfl rfl (nn (bd s p).1) (an .nil) ?_);refine go 16 ?_;refine cd (fun h4=>?_) (fun h4=>?_)
   ·simp only[du,Int.reduceEq,Int.reduceNe,Int.reduceLT,Int.reduceLE,bE,eG] at h4
   (try simp only[du,Int.reduceEq,Int.reduceNe,Int.reduceLT,Int.reduceLE,bE,eG] at h4);refine kc 0 [6,4,3,2,0] 7 ?_;refine cd (fun h5=>?_) (fun h5=>?_)
   ·(try simp only[du,Int.reduceEq,Int.reduceNe,Int.reduceLT,Int.reduceLE,bE,eG] at h5)
    refine kc 0 [2,0] 2 ?_;refine oc (ck Dr rfl rfl (iu s ⟨p,none⟩ hs hp) [0] rfl (bj .nil) (an .nil) ?_);refine go 10 ?_;refine eo (j7.d) [0] [iB s (aS s ⟨p,none⟩).2] ?_
    ·rw [nh h5];exact⟨rfl,rfl⟩
   (try simp only[du,Int.reduceEq,Int.reduceNe,Int.reduceLT,Int.reduceLE,bE,eG] at h5);refine gc 6 ?_;refine cd (fun h7=>?_) (fun h7=>?_)
   ·(try simp only[du,Int.reduceEq,Int.reduceNe,Int.reduceLT,Int.reduceLE,bE,eG] at h7)
    refine kc 0 [3,2,0] 3 ?_;refine oc (ck Dr rfl rfl (iu s ⟨p,none⟩ hs hp) [0] rfl (bj .nil) (an .nil) ?_);refine go 12 ?_;refine eo ((aP.mk 4 (bd s p).1 []).d) [0] [iB s (aS s ⟨p,none⟩).2] ?_
    ·rw [ni h5 h7];exact⟨rfl,rfl⟩
   (try simp only[du,Int.reduceEq,Int.reduceNe,Int.reduceLT,Int.reduceLE,bE,eG] at h7);refine kc 0 [4,3,2,0] 7 ?_;refine v5 (fun h10=>?_) (fun h10=>?_)
   ·(try simp only[du,Int.reduceEq,Int.reduceNe,Int.reduceLT,Int.reduceLE,bE,eG] at h10)
    refine kc 0 [4,2,0] 3 ?_;refine oc (ck uS rfl rfl (eK s (bd s p).2.1 ⟨p,none⟩) [0] rfl (bj .nil) (an (an .nil)) ?_);refine ko 3 [2] 7 ?_;refine eo (j7.d) [0] [iB s ((RS.mk p none).fail (bd s p).2.1)] ?_
    ·rw [nk h5 h7 h10];exact⟨rfl,rfl⟩
   (try simp only[du,Int.reduceEq,Int.reduceNe,Int.reduceLT,Int.reduceLE,bE,eG] at h10);refine kc 0 [2,0] 3 ?_;refine oc (ck Dr rfl rfl (iu s ⟨p,none⟩ hs hp) [0] rfl (bj .nil) (an .nil) ?_);refine go 5 ?_;refine oc (ck pK rfl rfl (c7 s (aS s ⟨p,none⟩).2.p (bE (aS s ⟨p,none⟩).2.f) (eG (aS s ⟨p,none⟩).2.f) hs hn1.2) [0] rfl (bj .nil) (an .nil) ?_);refine ko 20 [52,10,8,2,0] 0 ?_;refine xc (ι:=Unit) (fun _=>[(10,int (gQ (bd s (aS s ⟨p,none⟩).2.p).1))]) [8,2,0] (fun _=>True) rfl ?A1 ?B1
   case A1=>
    refine gc 7 ?_;refine cd (fun h15=>?_) (fun h15=>?_)
    ·(try simp only[du,Int.reduceEq,Int.reduceNe,Int.reduceLT,Int.reduceLE,bE,eG] at h15)
     refine kc 0 [8,2,0] 4 ?_;refine bi (()) rfl ?_ ?_
     ·trivial
     ·refine mo ?_ (ef rfl (by exact Fit.of_eq (by simp only[gQ];simp_all<;>rfl)) (aJ (aJ (aJ dC))))
      repeat (first|exact cH|refine bj ?_)
    (try simp only[du,Int.reduceEq,Int.reduceNe,Int.reduceLT,Int.reduceLE,bE,eG] at h15);refine gc 6 ?_;refine cd (fun h17=>?_) (fun h17=>?_)
    ·(try simp only[du,Int.reduceEq,Int.reduceNe,Int.reduceLT,Int.reduceLE,bE,eG] at h17)
     refine kc 0 [8,2,0] 4 ?_;refine bi (()) rfl ?_ ?_
     ·trivial
     ·refine mo ?_ (ef rfl (by exact Fit.of_eq (by simp only[gQ];simp_all<;>rfl)) (aJ (aJ (aJ dC))))
      repeat (first|exact cH|refine bj ?_)
    (try simp only[du,Int.reduceEq,Int.reduceNe,Int.reduceLT,Int.reduceLE,bE,eG] at h17);refine kc 0 [52,10,8,2,0] 6 ?_;refine v5 (fun h19=>?_) (fun h19=>?_)
    ·(try simp only[du,Int.reduceEq,Int.reduceNe,Int.reduceLT,Int.reduceLE,bE,eG] at h19)
     refine gc 2 ?_;refine bi (()) rfl ?_ ?_
     ·trivial
     ·refine mo ?_ (ef rfl (by exact Fit.of_eq (by simp only[gQ];simp_all<;>rfl)) (aJ (aJ (aJ dC))))
      repeat (first|exact cH|refine bj ?_)
    (try simp only[du,Int.reduceEq,Int.reduceNe,Int.reduceLT,Int.reduceLE,bE,eG] at h19);refine kc 0 [8,2,0] 4 ?_;refine bi (()) rfl ?_ ?_
    ·trivial
    ·refine mo ?_ (ef rfl (by exact Fit.of_eq (by simp only[gQ];simp_all<;>rfl)) (aJ (aJ (aJ dC))))
     repeat (first|exact cH|refine bj ?_)
   case B1=>
    rintro _ hcut
    try dsimp only at hcut
    refine kc 0 [10,8,2,0] 7 ?_;refine cd (fun h21=>?_) (fun h21=>?_)
    ·(try simp only[du,Int.reduceEq,Int.reduceNe,Int.reduceLT,Int.reduceLE,bE,eG] at h21)
     refine gc 4 ?_;refine oc (ck uS rfl rfl (eK s (bd s (aS s ⟨p,none⟩).2.p).2.1 (aS s ⟨p,none⟩).2) [0] rfl (bj .nil) (an (an .nil)) ?_);refine ko 2 [2] 10 ?_;refine eo (j7.d) [0] [iB s ((aS s ⟨p,none⟩).2.fail (bd s (aS s ⟨p,none⟩).2.p).2.1)] ?_
     ·rw [nj h5 h7 h10 h21];exact⟨rfl,rfl⟩
    (try simp only[du,Int.reduceEq,Int.reduceNe,Int.reduceLT,Int.reduceLE,bE,eG] at h21);refine gc 5 ?_;refine oc (ck Dr rfl rfl (iu s (aS s ⟨p,none⟩).2 hs hn1.2) [0] rfl (bj .nil) (an .nil) ?_);refine ko 2 [10,2,0] 9 ?_
    have hne:(bd s p).1≠ .empty:=by rw[h10];decide
    have hsz1:(bd s p).1.size=1:=by rw[h10];rfl
    have hnx:=iN hne;have hpr:p<(aS s ⟨p,none⟩).2.p:=by rw[hnx];simp only;omega
    have hpr2:=hn2.1;obtain⟨k1,s1,a1,hX1⟩:=aP.case (bN n s (aS s (aS s ⟨p,none⟩).2).2).1;obtain⟨k2,s2,a2,hX2⟩:=aP.case (bN n s (bN n s (aS s (aS s ⟨p,none⟩).2).2).2).1;refine gz [0,1,2] mixed ?_;refine A2 3 rfl (aN Mf rfl rfl rfl rfl (ih (aS s (aS s ⟨p,none⟩).2).2 hn2.2 (by omega)) [0] (bj .nil) rfl rfl rfl rfl (an .nil) (fun s ob' hq=>?_) (fun s ob' hq=>?_))
    rotate_left
    ·first|exact hq.elim|cases hq.1
    obtain⟨hq1,rfl⟩:=hq;rw[hX1] at hq1;cases hq1;refine⟨_,_,_,_,_,rfl,rfl,rfl,rfl,rfl,?_⟩;refine A2 4 rfl (gD ji [.tmp 72] eL ?_);refine A2 (T:=fun _=>False) 5 rfl (rA ji rfl rfl rfl rfl rfl rfl (by simp only[List.length_cons,List.length_nil,Nat.reduceAdd];rfl) rfl rfl (by decide) (by simp) (by first|decide|(simp only[maxLen,List.length_cons,List.length_nil,List.length_append,List.length_map];omega)|omega) rfl rfl rfl ?_);refine ga [6] ?_;refine A2 7 rfl (dN vH ?_);refine aZ ?_;refine ke 2 [11,10,2,0] 6 ?_;refine v5 (fun h27=>?_) (fun h27=>?_)
    ·(try simp only[du,Int.reduceEq,Int.reduceNe,Int.reduceLT,Int.reduceLE,bE,eG] at h27)
     refine gc 5 ?_;refine oc (ck yL rfl rfl (gf s ⟨#[41]⟩ (bN n s (aS s (aS s ⟨p,none⟩).2).2).2 hs hl1.2) [0] rfl (bj .nil) (an (an .nil)) ?_);refine ko 2 [11,2] 9 ?_;refine eo ((aP.mk (gQ (bd s (aS s ⟨p,none⟩).2.p).1) .empty [aP.mk k1 s1 a1]).d) [0] [iB s (cw s ⟨#[41]⟩ (bN n s (aS s (aS s ⟨p,none⟩).2).2).2)] ?_
     ·rw [oY h5 h7 h10 h27,hX1,h27];exact⟨rfl,rfl⟩
    (try simp only[du,Int.reduceEq,Int.reduceNe,Int.reduceLT,Int.reduceLE,bE,eG] at h27);refine gz [0,1,2] mixed ?_;refine A2 3 rfl (aN Mf rfl rfl rfl rfl (ih (bN n s (aS s (aS s ⟨p,none⟩).2).2).2 hl1.2 (by have:=hl1.1;omega)) [0] (bj .nil) rfl rfl rfl rfl (an .nil) (fun s ob' hq=>?_) (fun s ob' hq=>?_))
    rotate_left
    ·first|exact hq.elim|cases hq.1
    obtain⟨hq1,rfl⟩:=hq;rw[hX2] at hq1;cases hq1;refine⟨_,_,_,_,_,rfl,rfl,rfl,rfl,rfl,?_⟩;refine A2 4 rfl (gD ji [.tmp 81] eL ?_);refine A2 5 rfl (px ji ?_);refine ga [6] ?_;refine A2 7 rfl (dN vH ?_);refine aZ ?_;refine ke 1 [11,2,0] 3 ?_;refine oc (ck yL rfl rfl (gf s ⟨#[41]⟩ (bN n s (bN n s (aS s (aS s ⟨p,none⟩).2).2).2).2 hs hl2.2) [0] rfl (bj .nil) (an (an .nil)) ?_);refine go 11 ?_;refine eo ((aP.mk (gQ (bd s (aS s ⟨p,none⟩).2.p).1) .empty [aP.mk k1 s1 a1,aP.mk k2 s2 a2]).d) [0] [iB s (cw s ⟨#[41]⟩ (bN n s (bN n s (aS s (aS s ⟨p,none⟩).2).2).2).2)] ?_
    ·rw [jr h5 h7 h10 h21 h27,hX1,hX2];exact⟨rfl,rfl⟩
end
section
open Go Go.Vd Go.RowKit
attribute [local irreducible] bu bA di ak bL
variable {gl:Nat→List D}
theorem xA(w:ByteArray):gQ w=0∨((gQ w=1∨gQ w=2∨gQ w=3)∧w≠ .empty):=by
 unfold gQ;split
 ·rename_i h;subst h;exact .inr ⟨.inl rfl,by decide⟩
 ·split
  ·rename_i h;subst h;exact .inr ⟨.inr (.inl rfl),by decide⟩
  ·split
   ·rename_i h;subst h;exact .inr ⟨.inr (.inr rfl),by decide⟩
   ·exact .inl rfl
theorem xu{s:ByteArray}:∀(n:Nat) {r:RS},r.p≤s.size→∃x:eC,(bN n s r).1=x.cC∧vO x.cC∧x.weight+20*r.p≤10+20*(bN n s r).2.p:=by
 have hz:vO eC.zero.cC:=by simp[eC.cC,vO,E2]
 have hzz:j7=eC.zero.cC:=rfl;intro n
 induction n with
 |zero=>intro r hp;exact⟨.zero,rfl,hz,by simp[bN,eC.weight]⟩
 |succ n ih=>
  intro r hp;obtain⟨p,f⟩:=r;simp only at hp;cases f with
  |some a=>exact⟨.zero,rfl,hz,by simp[bN,eC.weight]⟩
  |none=>
   have hat:=ft (s:=s) hp;have h1:=c6 (s:=s) (r:=⟨p,none⟩) hp;have h2:=c6 (s:=s) (r:=(aS s ⟨p,none⟩).2) h1.2;have h3:=eJ n h2.2;have h4:=eJ n h3.2;obtain⟨xa,ea,fa,wa⟩:=ih h2.2;obtain⟨xb,eb,fb,wb⟩:=ih h3.2;have h5:=bY (s:=s) (w:=⟨#[41]⟩) h3.2;have h6:=bY (s:=s) (w:=⟨#[41]⟩) h4.2;simp only at h1;by_cases c0:(bd s p).1=⟨#[48]⟩
   ·rw [nh c0];exact⟨.zero,rfl,hz,by simp only[eC.weight];omega⟩
   cases c1:dJ (bd s p).1 with
   |true=>
    have hne:(bd s p).1≠ .empty:=by
     intro e;rw[e] at c1;simp[dJ] at c1
    rw[ni c0 c1,iN hne];refine⟨.param (bd s p).1,rfl,by simp[eC.cC,vO,E2,hne],?_⟩;simp only[eC.weight];omega
   |false=>
    by_cases c2:(bd s p).1=⟨#[40]⟩
    ·have hne:(bd s p).1≠ .empty:=by rw[c2];decide
     have hp1:p+1≤(aS s ⟨p,none⟩).2.p:=by
      rw[iN hne];have:(bd s p).1.size=1:=by rw[c2];rfl
      simp only;omega
     rcases xA (bd s (aS s ⟨p,none⟩).2.p).1 with hk|⟨hk,hne2⟩
     ·rw [nj c0 c1 c2 hk];exact⟨.zero,rfl,hz,by simp only[eC.weight,RS.im];omega⟩
     ·have hp2:(aS s ⟨p,none⟩).2.p+1≤(aS s (aS s ⟨p,none⟩).2).2.p:=by
       have h7:aS s ⟨p,none⟩=((bd s p).1,⟨(bd s p).2.1+(bd s p).1.size,none⟩):=iN hne;rw[h7] at hne2 ⊢;simp only at hne2 ⊢;rw[iN hne2];have h8:=ft (s:=s) (p:=(bd s p).2.1+(bd s p).1.size) hat.2;have h9:=pR hne2;simp only;omega
      rcases hk with hk|hk|hk
      ·rw [oY c0 c1 c2 hk,ea];refine⟨.succ xa,rfl,by simp[eC.cC,vO,E2,fa],?_⟩;simp only[eC.weight];omega
      ·rw [jr c0 c1 c2 (by omega) (by omega),ea,eb,hk];refine⟨.max xa xb,rfl,by simp[eC.cC,vO,E2,fa,fb],?_⟩;simp only[eC.weight];omega
      ·rw [jr c0 c1 c2 (by omega) (by omega),ea,eb,hk];refine⟨.imax xa xb,rfl,by simp[eC.cC,vO,E2,fa,fb],?_⟩;simp only[eC.weight];omega
    ·rw [nk c0 c1 c2];exact⟨.zero,rfl,hz,by simp only[eC.weight,RS.im];omega⟩
end
section
open Go Go.Vd Go.RowKit
def i64(n:Int):Prop:= -9223372036854775808≤n∧n≤9223372036854775807
structure Step where
 k:Int
 s:ByteArray
 t:ByteArray
 u:ByteArray
 a:Int
 b:Int
def Step.cells(o:Step):List D:=[.v (.int .i64 o.k),.v (.string o.s),.v (.string o.t),.v (.string o.u),.v (.int .i64 o.a),.v (.int .i64 o.b)]
def steps(l:List Step):List (List D):=l.map Step.cells
theorem ug(l:List Step):(steps l).length=l.length:=by simp[steps]
theorem vS{l:List Step}{i:Nat}(h:i<l.length):(steps l)[((i:Nat):Int).toNat]? =some [.v (.int .i64 l[i].k),.v (.string l[i].s),.v (.string l[i].t),.v (.string l[i].u),.v (.int .i64 l[i].a),.v (.int .i64 l[i].b)]:=by simp[steps,h,Step.cells]
end
section
open Go Go.Vd Go.RowKit Go.ChangeShapes Go.WideShapes
def rk(w:World):Mem:=fun b o=>(w.cell? ⟨b,o,none⟩).bind fun x=>if x.oneCell' then some x else none
variable {w:World}
theorem vX{b o:Nat}{x:Value}(h:w.cell? ⟨b,o,none⟩=some x)(h1:x.oneCell'=true):rk w b o=some x:=by simp[rk,h,h1]
variable {gl:Nat→List D}
theorem Nt(hg:∀b,eX (rk w) b 0 (gl b)):cX gl [] ⟨rk w,[]⟩ w:=by
 refine⟨rfl,by simp,by simp,by simp,fun b o x h=>?_,hg⟩;simp only[rk,Option.bind_eq_some_iff] at h;obtain⟨y,h1,h2⟩:=h;split at h2
 ·cases h2;exact⟨h1,by assumption⟩
 ·cases h2
theorem yK{P:Program}{f:FuncId}{ds:List D}{Q:D→Prop}{vs:List Value}(h:cD P gl f ds Q)(hg:∀b,eX (rk w) b 0 (gl b))(hd:bC ⟨rk w,[]⟩ (ds.map .d) vs):
 Calls P f ⟨vs⟩ w fun e w'=> ∃v d m,e=.returned v∧D.Den m d v∧Q d∧Below w.heap.size w w':=by
 refine(h _ w vs (Nt hg) hd).mono fun e w' he=>?_
 obtain⟨g',ob',hs,hst,_,_,he⟩:=he;have hb:Below w.heap.size w w':=⟨hst.fr.os,hst.fr.tape,hst.fr.output,hst.fr.size,fun k hk=>hst.fr.block k hk (fun hx=>by
  obtain⟨i,o,p,h1,_⟩:=hx;simp at h1)⟩
 cases e with
 |returned v=>
  obtain⟨s,h1,h2,d,h3,h4⟩:=he;cases h3;exact⟨v,d,_,rfl,h1,h4,hb⟩
 |panicked c=>obtain⟨v,s,_,_,_,d,h3,_⟩:=he;cases h3
 |outgrown=>exact he.elim
theorem Dd{α:Type}{n:Nat}{p:Nat→α→Prop}(h:∀i,i<n→∃x,p i x):∃l:List α,l.length=n∧∀(i:Nat) x,l[i]? =some x→p i x:=by
 induction n with
 |zero=>exact⟨[],rfl,by simp⟩
 |succ n ih=>
  obtain⟨l,h1,h2⟩:=ih fun i hi=>h i (by omega)
  obtain⟨x,hx⟩:=h n (by omega);refine⟨l++[x],by simp[h1],fun i y hy=>?_⟩;by_cases hi:i<l.length
  ·rw [List.getElem?_append_left hi] at hy;exact h2 i y hy
  ·have hil:i=l.length:=by
    have:=(List.getElem?_eq_some_iff.1 hy).1;simp at this;omega
   subst hil;rw[List.getElem?_append_right (Nat.le_refl _),Nat.sub_self] at hy;simp at hy;subst hy;rw[h1];exact hx
theorem Bg{α:Type}{m:Mem}{k b:Nat}(c:α→List D):∀{l:List α} {off:Nat},(∀ (i:Nat) x,l[i]? =some x→(c x).length=k∧eX m b (off+i*k) (c x))→ey m k b off (l.map c)
 |[],_,_=>trivial
 |x::r,off,h=>⟨by have:=h 0 x rfl;simpa using this,Bg c fun i y hy=>by
  have:=h (i+1) y (by simpa using hy)
  rwa [show off+(i+1)*k=off+k+i*k by rw[Nat.add_mul];omega] at this⟩
section
variable {H:Type} {enc:TypeId×Value→H} {W:World} {sp:Nat→Bool} {hd:Bool}
variable {fuel:Nat} {cs:List Value} {x:DataW H×List MemPlace}
theorem qh{k:Nat}(h:DataW.trod enc Tryz.prog W 0 sp hd fuel 3 cs=some x):∃n:Int,cs=[.int .i64 n]∧i64 n:=by
 obtain⟨n,h1,_,h2⟩:=DataW.trod_int Rs h;refine⟨n,h1,?_⟩;simp only[Lit.wf,Bool.and_eq_true,decide_eq_true_eq] at h2;exact⟨h2.1,h2.2⟩
theorem u6(h:DataW.trod enc Tryz.prog W 0 sp hd fuel 9 cs=some x):∃s:ByteArray,cs=[.string s]:=by
 obtain⟨s,h1,_⟩:=DataW.trod_string uY h;exact⟨s,h1⟩
end
end
section
open Go Go.Vd Go.RowKit Go.Extern
theorem yN(t:Addr)(w:World):(ReflectliteValue.unpack (.iface 117 (.pointer (some t)))).run Tryz.prog w
 =.ok (.agg #[.pointer (some ⟨2,117,none⟩),.pointer (some ⟨w.heap.size,0,none⟩),.int .u64 150]) (w.alloc (.cells #[.pointer (some t)] 117)):=by kernel_rfl
theorem Fx(a : Addr)(w : World) : (ReflectliteValue.methodAny (ReflectliteValue.valueError "reflectlite.Value.Type" 0) (fun t _ _ _ => ReflectliteType.toType t) #[.agg #[.pointer (some ⟨2, 117, none⟩), .pointer (some a), .int .u64 150]]).run Tryz.prog w
 =.ok (.iface 180 (.agg #[.pointer (some ⟨2,117,none⟩)])) w:=by kernel_rfl
theorem yO(h : Value)(w : World) : (Go.method 372 180 (.agg #[h]) "Kind").run Tryz.prog w = .ok (197, h) w := by kernel_rfl
theorem FA(w:World):((ReflectliteType.abiMethod fun t=>(fun a:Nat=>Value.int IntKind.u8 (a:Int)) <$> Rtype.kind t) #[.pointer (some ⟨2,117,none⟩)]).run Tryz.prog w=.ok (.int .u8 22) w:=by kernel_rfl
theorem IC(w:World):((ReflectliteType.abiMethod fun t=>(fun a:Nat=>Value.int IntKind.u8 (a:Int)) <$> Rtype.kind t) #[.pointer (some ⟨2,115,none⟩)]).run Tryz.prog w=.ok (.int .u8 22) w:=by kernel_rfl
theorem KM(z:Sem Value)(f:TypeId→Addr→Nat→Nat→Sem Value)(v:Value):
 ReflectliteValue.method z f #[v]=(do match ←ReflectliteValue.parts v with|none=>z|some (t,a,fl)=>f t a fl (fl%32)):=rfl
theorem vF(a:Addr)(w:World):(ReflectliteValue.parts (.agg #[.pointer (some ⟨2,117,none⟩),.pointer (some a),.int .u64 150])).run Tryz.prog w=.ok (some (117,a,150)) w:=by kernel_rfl
theorem DA(a p:Addr)(W:World)(ha:W.cell? a=some (.pointer (some p))):
 (ReflectliteValue.method (ReflectliteValue.valueError "reflectlite.Value.IsNil" 0) ReflectliteValue.isNil #[.agg #[.pointer (some ⟨2, 117, none⟩), .pointer (some a), .int .u64 150]]).run Tryz.prog W = .ok (.bool false) W := by
 rw[KM];simp only[Sem.run_bind,vF,Result.andThen];simp[ReflectliteValue.isNil,loadVar,isAgg,underlying,My,ha,Result.andThen]
theorem yP(h : Value)(w : World) : (Go.method 372 180 (.agg #[h]) "Elem").run Tryz.prog w = .ok (208, .agg #[h]) w := by kernel_rfl
theorem rn(h : Value)(w : World) : (Go.method 372 180 (.agg #[h]) "Implements").run Tryz.prog w = .ok (209, .agg #[h]) w := by kernel_rfl
theorem pL(h : Value)(w : World) : (Go.method 372 180 (.agg #[h]) "AssignableTo").run Tryz.prog w = .ok (206, .agg #[h]) w := by kernel_rfl
theorem FB(w:World):(ReflectliteType.method ReflectliteType.elem #[.agg #[.pointer (some ⟨2,117,none⟩)]]).run Tryz.prog w=.ok (.iface 180 (.agg #[.pointer (some ⟨2,115,none⟩)])) w:=by kernel_rfl
theorem vP(w : World) : (ReflectliteType.relation "Implements" ReflectliteType.implements_ #[.agg #[.pointer (some ⟨2, 115, none⟩)], .iface 180 (.agg #[.pointer (some ⟨2, 49, none⟩)])]).run Tryz.prog w = .ok (.bool true) w := by kernel_rfl
theorem Dx(v:Value)(w:World):(ReflectliteType.typeOf #[.iface 115 v]).run Tryz.prog w=.ok (.iface 180 (.agg #[.pointer (some ⟨2,115,none⟩)])) w:=by kernel_rfl
theorem vQ(w : World) : (ReflectliteType.relation "AssignableTo" ReflectliteType.assignableTo #[.agg #[.pointer (some ⟨2, 115, none⟩)], .iface 180 (.agg #[.pointer (some ⟨2, 115, none⟩)])]).run Tryz.prog w = .ok (.bool true) w := by kernel_rfl
theorem Bk(e:Addr)(w:World):(ReflectliteValue.unpack (.iface 115 (.pointer (some e)))).run Tryz.prog w
 =.ok (.agg #[.pointer (some ⟨2,115,none⟩),.pointer (some ⟨w.heap.size,0,none⟩),.int .u64 150]) (w.alloc (.cells #[.pointer (some e)] 115)):=by kernel_rfl
theorem Bl(w:World):(Rtype.elem? 117).run Tryz.prog w=.ok (some 115) w:=by kernel_rfl
theorem Mq(p:Addr)(w:World):(ReflectliteValue.mk 115 p ReflectliteValue.flagAddr).run Tryz.prog w=.ok (.agg #[.pointer (some ⟨2,115,none⟩),.pointer (some p),.int .u64 406]) w:=by kernel_rfl
theorem DB(a p:Addr)(W:World)(ha:W.cell? a=some (.pointer (some p))):
 (ReflectliteValue.method (ReflectliteValue.valueError "reflectlite.Value.Elem" 0) ReflectliteValue.elem #[.agg #[.pointer (some ⟨2, 117, none⟩), .pointer (some a), .int .u64 150]]).run Tryz.prog W
  =.ok (.agg #[.pointer (some ⟨2,115,none⟩),.pointer (some p),.int .u64 406]) W:=by
 rw[KM];simp only[Sem.run_bind,vF,Result.andThen];simp[ReflectliteValue.elem,loadVar,isAgg,underlying,My,ha,Result.andThen,Bl,Mq]
theorem OB(v x:Value):ReflectliteValue.set #[v,x]=(do
 let (some (dst,a,fl),some (src,b,_)):=(← ReflectliteValue.parts v,←ReflectliteValue.parts x)
  | unsupported (.noEntry "extern/(internal/reflectlite.Value).Set.zeroValue")
 if fl / ReflectliteValue.flagAddr % 2 == 0 then unsupported (.noEntry "extern/(internal/reflectlite.Value).Set.unaddressable")
 let val ←loadVar src b
 if ←Rtype.directlyAssignable dst src then storeVar dst a val
 else if ←Rtype.implements dst src then
  if (← Rtype.kind src)==20 then
   match val with
   | .nilIface => unsupported (.noEntry "extern/reflectlite: a nil value of one interface type handed on as a value of another")
   |_=>storeVar dst a val
  else storeVar dst a (.iface src val)
 else panicString ("reflectlite.Set: value of type " ++ (← Rtype.spelt src) ++ " is not assignable to type " ++ (← Rtype.spelt dst))
 pure (.tuple #[])):=rfl
theorem Dy(a:Addr)(w:World):(ReflectliteValue.parts (.agg #[.pointer (some ⟨2,115,none⟩),.pointer (some a),.int .u64 406])).run Tryz.prog w=.ok (some (115,a,406)) w:=by kernel_rfl
theorem Fy(a:Addr)(w:World):(ReflectliteValue.parts (.agg #[.pointer (some ⟨2,115,none⟩),.pointer (some a),.int .u64 150])).run Tryz.prog w=.ok (some (115,a,150)) w:=by kernel_rfl
theorem DC(w:World):(Rtype.directlyAssignable 115 115).run Tryz.prog w=.ok true w:=by kernel_rfl
theorem KL(ta b e:Addr)(old:Value)(W:World)(hb:W.cell? b=some (.pointer (some e)))(ht:W.cell? ta=some old)(hf:W.frozen? ta=false):
 (ReflectliteValue.set #[.agg #[.pointer (some ⟨2,115,none⟩),.pointer (some ta),.int .u64 406],.agg #[.pointer (some ⟨2,115,none⟩),.pointer (some b),.int .u64 150]]).run Tryz.prog W
  =.ok (.tuple #[]) (W.setCell ta (.pointer (some e))):=by
 rw[OB];simp only[Sem.run_bind,Dy,Fy,Result.andThen];simp[ReflectliteValue.flagAddr,loadVar,isAgg,underlying,Mz,hb,Result.andThen,DC,storeVar,Value.cells,storeCells,Addr.add];rw[run_store Tryz.prog W ta _ _ (by rfl)];simp[ht,hf]
set_option maxHeartbeats 4000000 in
theorem OC(e t:Addr)(old:Value)(w:World)(hg:w.cell? ⟨1,0,none⟩=some (.iface 180 (.agg #[.pointer (some ⟨2,49,none⟩)])))(ht0:w.cell? t=some old)(hf0:w.frozen? t=false):
 Calls Tryz.prog 54 #[.iface 115 (.pointer (some e)),.iface 117 (.pointer (some t))] w fun ev w'=>ev=.returned (.bool true)∧w'=((((w.alloc (.cells #[.pointer (some t)] 117)).alloc (.cells #[.pointer (some ⟨2,117,none⟩),.pointer (some ⟨w.heap.size,0,none⟩),.int .u64 150] 156)).alloc (.cells #[.pointer (some ⟨2,117,none⟩),.pointer (some ⟨w.heap.size,0,none⟩),.int .u64 150] 156)).alloc (.cells #[.pointer (some e)] 115)).setCell t (.pointer (some e)):=by
 have h6:=@run_callFunc_extern Tryz.prog 95 _ (fun args=>ReflectliteValue.unpack (args.getD 0 (.tuple #[]))) Tryz.func95 (by kernel_rfl) (by kernel_rfl) (by kernel_rfl) (by kernel_rfl);have h7 := @run_callFunc_extern Tryz.prog 96 _ (ReflectliteValue.methodAny (ReflectliteValue.valueError "reflectlite.Value.Type" 0) (fun t _ _ _ => ReflectliteType.toType t)) Tryz.func96 (by kernel_rfl) (by kernel_rfl) (by kernel_rfl) (by kernel_rfl)
 have h8 := @run_callFunc_extern Tryz.prog 97 _ (ReflectliteValue.method (ReflectliteValue.valueError "reflectlite.Value.IsNil" 0) ReflectliteValue.isNil) Tryz.func97 (by kernel_rfl) (by kernel_rfl) (by kernel_rfl) (by kernel_rfl)
 have h27:=@run_callFunc_extern Tryz.prog 197 _ (ReflectliteType.abiMethod fun t=>do pure (.int .u8 (← Rtype.kind t))) Tryz.func197 (by kernel_rfl) (by kernel_rfl) (by kernel_rfl) (by kernel_rfl);have h37:=@run_callFunc_extern Tryz.prog 208 _ (ReflectliteType.method ReflectliteType.elem) Tryz.func208 (by kernel_rfl) (by kernel_rfl) (by kernel_rfl) (by kernel_rfl);have h38 := @run_callFunc_extern Tryz.prog 209 _ (ReflectliteType.relation "Implements" ReflectliteType.implements_) Tryz.func209 (by kernel_rfl) (by kernel_rfl) (by kernel_rfl) (by kernel_rfl)
 have h10:=@run_callFunc_extern Tryz.prog 127 _ ReflectliteType.typeOf Tryz.func127 (by kernel_rfl) (by kernel_rfl) (by kernel_rfl) (by kernel_rfl);have h35 := @run_callFunc_extern Tryz.prog 206 _ (ReflectliteType.relation "AssignableTo" ReflectliteType.assignableTo) Tryz.func206 (by kernel_rfl) (by kernel_rfl) (by kernel_rfl) (by kernel_rfl)
 have h11 := @run_callFunc_extern Tryz.prog 128 _ (ReflectliteValue.method (ReflectliteValue.valueError "reflectlite.Value.Elem" 0) ReflectliteValue.elem) Tryz.func128 (by kernel_rfl) (by kernel_rfl) (by kernel_rfl) (by kernel_rfl)
 have h12:=@run_callFunc_extern Tryz.prog 129 _ ReflectliteValue.set Tryz.func129 (by kernel_rfl) (by kernel_rfl) (by kernel_rfl) (by kernel_rfl);have tO:=Dx;have mA:=pL;have a25:=vQ;have v25:=Bk;have f6:=yN;have f7:=Fx;have mK:=yO;have mE:=yP;have mI:=rn;have k27:=FA;have k25:=IC;have e27:=FB;have i25:=vP;have n8:=DA ⟨w.heap.size,0,none⟩ t ((w.alloc (.cells #[.pointer (some t)] 117)).alloc (.cells #[.pointer (some ⟨2,117,none⟩),.pointer (some ⟨w.heap.size,0,none⟩),.int .u64 150] 156)) (by simp);have hlt:1<w.heap.size:=by
  rcases Nat.lt_or_ge 1 w.heap.size with h|h
  ·exact h
  ·simp [World.cell?,Array.getElem?_eq_none h] at hg
 have hg2:((w.alloc (.cells #[.pointer (some t)] 117)).alloc (.cells #[.pointer (some ⟨2,117,none⟩),.pointer (some ⟨w.heap.size,0,none⟩),.int .u64 150] 156)).cell? ⟨1,0,none⟩=some (.iface 180 (.agg #[.pointer (some ⟨2,49,none⟩)])):=by
  rw[World.cell?_alloc_lt _ _ ⟨1,0,none⟩ (by simp;omega),World.cell?_alloc_lt _ _ ⟨1,0,none⟩ hlt];exact hg
 have htl:t.block<w.heap.size:=by
  rcases Nat.lt_or_ge t.block w.heap.size with h|h
  ·exact h
  ·simp [World.cell?,Array.getElem?_eq_none h] at ht0
 have el:=DB ⟨w.heap.size,0,none⟩ t (((w.alloc (.cells #[.pointer (some t)] 117)).alloc (.cells #[.pointer (some ⟨2,117,none⟩),.pointer (some ⟨w.heap.size,0,none⟩),.int .u64 150] 156)).alloc (.cells #[.pointer (some ⟨2,117,none⟩),.pointer (some ⟨w.heap.size,0,none⟩),.int .u64 150] 156)) (by rw[World.cell?_alloc_lt _ _ ⟨w.heap.size,0,none⟩ (by simp;omega)];simp);have st:=KL t ⟨w.heap.size+1+1+1,0,none⟩ e old ((((w.alloc (.cells #[.pointer (some t)] 117)).alloc (.cells #[.pointer (some ⟨2,117,none⟩),.pointer (some ⟨w.heap.size,0,none⟩),.int .u64 150] 156)).alloc (.cells #[.pointer (some ⟨2,117,none⟩),.pointer (some ⟨w.heap.size,0,none⟩),.int .u64 150] 156)).alloc (.cells #[.pointer (some e)] 115))
  (by rw[World.cell?_alloc_at _ _ _ _ (by simp)];rfl)
  (by rw[World.cell?_alloc_lt _ _ t (by simp;omega),World.cell?_alloc_lt _ _ t (by simp;omega),World.cell?_alloc_lt _ _ t (by simp;omega),World.cell?_alloc_lt _ _ t htl];exact ht0)
  (by rw[World.frozen?_alloc_old _ _ t (by simp;omega),World.frozen?_alloc_old _ _ t (by simp;omega),World.frozen?_alloc_old _ _ t (by simp;omega),World.frozen?_alloc_old _ _ t (Nat.ne_of_lt htl)];exact hf0)
 go_enter Tryz.func54,Tryz.ntmps54
 go_wp2
 refine wp_loop_rounds 1 ?_;rw[rounds_succ]
 go_wp2
 go_ret
 exact⟨rfl,rfl⟩
end
end Go.Proofs.YtndbnldjidciiaaGreatDoor
namespace Go.Vd
open Go Go.RowKit
abbrev OM:=ByteArray→Option Int
def eC.has:eC→ByteArray→Prop
 | .zero,_=>False
 | .succ a,p=>a.has p
 | .max a b,p=>a.has p∨b.has p
 | .imax a b,p=>a.has p∨b.has p
 | .param s,p=>p=s
structure Fits (z o:OM) (σ:ByteArray→Int):Prop where
 pos:∀p,0≤σ p
 zero:∀p,z p≠none→σ p=0
 one:∀p,o p≠none→1≤σ p
def off(o:OM)(σ:ByteArray→Int):ByteArray→Int:=fun p=>σ p-(o p).getD 0
def Sem(z o:OM)(a b:eC):Prop:= ∀σ,Fits z o σ→a.rr σ≤b.rr σ
theorem uw{α:Type}:∀{a b:List α},a.Nodup→(∀ x∈a,x∈b)→a.length≤b.length
 |[],b,_,_=>by simp
 |x::r,b,hn,hs=>by
  obtain⟨s,t,rfl⟩:=List.append_of_mem (hs x List.mem_cons_self);simp only[List.nodup_cons] at hn;have:=uw (b:=s++t) hn.2 fun y hy=>by
   have h1:=hs y (List.mem_cons_of_mem _ hy);simp only[List.mem_append,List.mem_cons] at h1 ⊢;rcases h1 with h1|h1|h1
   ·exact .inl h1
   ·subst h1;exact absurd hy hn.1
   ·exact .inr h1
  simp only[List.length_append,List.length_cons] at this ⊢;omega
theorem eC.gB:∀(l:eC) {ah:List ByteArray} {p:ByteArray},p∈ah→p∈l.params ah
 | .zero,_,_,h=>h
 | .succ a,_,_,h=>a.gB h
 | .max a b,_,_,h=>b.gB (a.gB h)
 | .imax a b,_,_,h=>b.gB (a.gB h)
 | .param s,ah,p,h=>by
  simp only[eC.params];split
  ·exact h
  ·exact List.mem_append_left _ h
theorem eC.jv:∀(l:eC) {ah:List ByteArray} {p:ByteArray},l.has p→p∈l.params ah
 | .zero,_,_,h=>h.elim
 | .succ a,_,_,h=>a.jv (show a.has _ from h)
 | .max a b,_,_,h=>(show a.has _∨b.has _ from h).elim (fun h=>b.gB (a.jv h)) (fun h=>b.jv h)
 | .imax a b,_,_,h=>(show a.has _∨b.has _ from h).elim (fun h=>b.gB (a.jv h)) (fun h=>b.jv h)
 | .param s,ah,p,h=>by
  have e:p=s:=h;subst e;simp only[eC.params];split
  ·rename_i h2;exact iP.1 h2
  ·simp
end Go.Vd
namespace Go.Vd
open Go Go.RowKit
variable {p:Nat}
theorem cF(s:ByteArray){q i:Nat}(h:p+i<q)(hq:q≤s.size):bq (s.extract p q) i=bq s (p+i):=by
 unfold bq;have e:(s.extract p q).data=s.data.extract p q:=by simp
 rw[e];have hs:s.size=s.data.size:=rfl;simp only[Array.getD_eq_getD_getElem?,Array.getElem?_extract];rw[if_pos (by omega)]
variable {s:ByteArray}
theorem uh{f:Int→Bool}:∀{p j:Nat},p≤j→j<cZ f s p→f (bq s j)=true:=by
 intro p
 induction h:s.size-p generalizing p with
 |zero=>
  intro j h1 h2;rw[jZ (by omega)] at h2;omega
 |succ n ih=>
  intro j h1 h2;by_cases hc:p<s.size∧f (bq s p)=true
  ·rw [oH hc.1 hc.2] at h2;rcases Nat.eq_or_lt_of_le h1 with rfl|h3
   ·exact hc.2
   ·exact ih (by omega) (by omega) h2
  ·rw [jZ hc] at h2;omega
structure ij (w:ByteArray):Prop where
 ne:0<w.size
 le:w.size≤40
 first:gb (bq w 0) true=true
 rest:∀i,i<w.size→gb (bq w i) false=true
theorem wm(hp:p≤s.size)(h:dJ (bd s p).1=true):ij (bd s p).1:=by
 have h1:=fw rf s p hp;unfold bd at h ⊢;simp only at h ⊢;generalize hi:cZ rf s p=i at h h1 ⊢;split at h
 ·simp [dJ] at h
 rename_i hne;rw[if_neg hne];have hil:i<s.size:=by omega
 split at h
 ·rename_i hpar;have hb:bq (s.extract i (i+1)) 0=bq s i:=cF s (by omega) (by omega);simp only[dJ,Bool.and_eq_true] at h;rw[hb] at h;have h2:=h.2;simp only[gb,decide_eq_true_eq] at h2;omega
 rename_i hpar;rw[if_neg hpar];have h2:i+1≤s.size:=by omega
 split at h
 ·rename_i hnm;rw[if_pos hnm];have h3:=fw (gb · false) s (i+1) h2;generalize hq:cZ (fun x=>gb x false) s (i+1)=q at h h3 ⊢;split at h
  ·simp [dJ] at h
  ·rename_i hl;rw[if_neg hl];have hsz:(s.extract i q).size=q-i:=by rw[ByteArray.size_extract];omega
   refine⟨by rw[hsz];omega,by rw[hsz];omega,?_,fun j hj=>?_⟩
   ·rw [cF s (by omega) h3.2];exact hnm
   ·rw [hsz] at hj;rw[cF s (by omega) h3.2];rcases Nat.eq_zero_or_pos j with rfl|hj0
    ·rw [Nat.add_zero];simp[gb] at hnm ⊢;omega
    ·exact uh (f:=fun x=>gb x false) (p:=i+1) (by omega) (by rw[hq];omega)
 ·rename_i hnm;rw[if_neg hnm];have hbad:∀q,i<q→q≤s.size→dJ (s.extract i q)=false:=fun q h5 h6=>by
   unfold dJ;rw[cF s (by omega) h6,Nat.add_zero];simp only[Bool.not_eq_true] at hnm;rw[hnm];simp
  have h4:=fw jP s (i+1) h2;generalize(if bq s i=35 then i+1 else i)=d at h ⊢;split at h
  ·split at h
   ·simp [dJ] at h
   ·rw [hbad _ (by omega) h4.2] at h;cases h
  ·simp [dJ] at h
end Go.Vd
namespace Go.Vd
open Go Go.RowKit
inductive ae where
 |mk (kind num:Int) (name:ByteArray) (levels:List aP) (args:List ae)
mutual
def ae.cells:ae→List D
 | .mk k n s ls args=>[.v (.int .i64 k),.v (.int .i64 n),.v (.string s),.sl 3 (bF ls),.sl 5 (aH args)]
def aH:List ae→List (List D)
 |[]=>[]
 |t::r=>t.cells::aH r
end
def ae.d(t:ae):D:=.agg t.cells
theorem ae.case(t:ae):∃k n s ls args,t=.mk k n s ls args:=by cases t;exact⟨_,_,_,_,_,rfl⟩
theorem aO:∀l:List ae,(aH l).length=l.length
 |[]=>rfl
 |l::r=>by simp[aH,aO r]
theorem gY:∀{l:List ae} {i:Nat} {x:ae},l[i]? =some x→(aH l)[i]? =some x.cells
 |[],i,x,h=>by simp at h
 |l::r,0,x,h=>by simp at h;subst h;simp[aH]
 |l::r,i+1,x,h=>by simpa[aH] using gY (l:=r) (i:=i) (by simpa using h)
variable {i:Nat}
theorem bW{l:List ae}{k n:Int}{s:ByteArray}{ls:List aP}{args:List ae}(h:l[i]? =some (.mk k n s ls args)):(aH l)[((i:Nat):Int).toNat]? =some [.v (.int .i64 k),.v (.int .i64 n),.v (.string s),.sl 3 (bF ls),.sl 5 (aH args)]:=by
 rw[Int.toNat_natCast,gY h];rfl
theorem dj(l m:List ae):aH (l++m)=aH l++aH m:=by
 induction l with
 |nil=>rfl
 |cons a r ih=>simp[aH,ih]
theorem bK{ls:List ae}(h:i<ls.length):∃k n s l args,ls[i]? =some (.mk k n s l args):=by
 have:ls[i]? =some ls[i]:=by simp[h]
 rw[this];cases ls[i];exact⟨_,_,_,_,_,rfl⟩
mutual
def ae.size:ae→Nat
 | .mk _ _ _ ls args=>1+bh ls+aj args
def aj:List ae→Nat
 |[]=>0
 |l::r=>l.size+aj r
end
theorem bG:∀{ls:List ae} {i:Nat} {l:ae},ls[i]? =some l→l.size≤aj ls
 |[],i,l,h=>by simp at h
 |a::r,0,l,h=>by simp at h;subst h;simp[aj]
 |a::r,i+1,l,h=>by simp at h;have:=bG h;simp[aj];omega
theorem yW:∀ls:List ae,ls.length≤aj ls
 |[]=>by simp
 |l::r=>by have:=yW r;cases l;simp[aj,ae.size];omega
mutual
def ae.same:ae→ae→Bool
 | .mk k n s ls a,.mk k2 n2 s2 ls2 a2=>decide (k=k2)&&decide (n=n2)&&decide (s=s2)&&fq ls ls2&&gP a a2
def gP:List ae→List ae→Bool
 |[],[]=>true
 |l::r,l2::r2=>l.same l2&&gP r r2
 |_,_=>false
end
theorem ae.jz(k n:Int)(s:ByteArray)(ls:List aP)(a:List ae)(k2 n2:Int)(s2:ByteArray)(ls2:List aP)(a2:List ae):ae.same (.mk k n s ls a) (.mk k2 n2 s2 ls2 a2)=(decide (k=k2)&&decide (n=n2)&&decide (s=s2)&&fq ls ls2&&gP a a2):=by simp[ae.same]
theorem ze:∀{a b:List ae},gP a b=true→a.length=b.length
 |[],[],_=>rfl
 |l::r,l2::r2,h=>by simp[gP] at h;simp[ze h.2]
 |[],_::_,h=>by simp[gP] at h
 |_::_,[],h=>by simp[gP] at h
theorem zh:∀{a b:List ae} {x y:ae},a.length=b.length→gP (a++[x]) (b++[y])=(gP a b&&x.same y)
 |[],[],x,y,_=>by simp[gP]
 |l::r,l2::r2,x,y,h=>by simp[gP,zh (a:=r) (b:=r2) (by simpa using h),Bool.and_assoc]
 |[],_::_,_,_,h=>by simp at h
 |_::_,[],_,_,h=>by simp at h
theorem D8{a b:List ae}{x y:ae}(hx:a[i]? =some x)(hy:b[i]? =some y):gP (a.take (i+1)) (b.take (i+1))=(gP (a.take i) (b.take i)&&x.same y):=by
 have h1:=(List.getElem?_eq_some_iff.1 hx).1;have h2:=(List.getElem?_eq_some_iff.1 hy).1;rw[List.take_add_one,List.take_add_one,hx,hy];exact zh (by simp;omega)
theorem vh:∀{a b:List ae} {i:Nat} {x y:ae},a[i]? =some x→b[i]? =some y→x.same y=false→gP a b=false
 |[],_,i,_,_,h,_,_=>by simp at h
 |_::_,[],i,_,_,_,h,_=>by simp at h
 |l::r,l2::r2,0,x,y,h1,h2,h3=>by simp at h1 h2;subst h1 h2;simp[gP,h3]
 |l::r,l2::r2,i+1,x,y,h1,h2,h3=>by simp[gP];intro _;exact vh (i:=i) (by simpa using h1) (by simpa using h2) h3
mutual
theorem aP.qM:∀l:aP,l.same l=true
 | .mk k s a=>by rw[aP.jz];simp[rU a]
theorem rU:∀l:List aP,fq l l=true
 |[]=>rfl
 |t::r=>by simp[fq,t.qM,rU r]
end
mutual
theorem ae.qM:∀t:ae,t.same t=true
 | .mk k n s ls a=>by rw[ae.jz];simp[rU ls,wH a]
theorem wH:∀l:List ae,gP l l=true
 |[]=>rfl
 |t::r=>by simp[gP,t.qM,wH r]
end
def ll(t:ByteArray):Nat→Int
 |0=>0
 |k+1=>10*ll t k+(bq t k-48)
def uW(t:ByteArray):Prop:= ∀i:Nat,(i:Int)<t.size→48≤bq t i∧bq t i≤57
theorem wZ{t:ByteArray}(h:uW t):∀k:Nat,k≤t.size→k≤5→0≤ll t k∧ll t k≤99999
 |0,_,_=>by simp[ll]
 |1,h1,h2=>by have:=h 0 (by omega);simp only[ll];omega
 |2,h1,h2=>by have:=h 0 (by omega);have:=h 1 (by omega);simp only[ll];omega
 |3,h1,h2=>by have:=h 0 (by omega);have:=h 1 (by omega);have:=h 2 (by omega);simp only[ll];omega
 |4,h1,h2=>by have:=h 0 (by omega);have:=h 1 (by omega);have:=h 2 (by omega);have:=h 3 (by omega);simp only[ll];omega
 |5,h1,h2=>by have:=h 0 (by omega);have:=h 1 (by omega);have:=h 2 (by omega);have:=h 3 (by omega);have:=h 4 (by omega);simp only[ll];omega
 |_+6,_,h2=>by omega
def kZ(s:ByteArray)(r:RS):ByteArray:=if (bd s r.p).2.2=false∨r.f≠none then .empty else(bd s r.p).1
def cW(s:ByteArray)(r:RS):ByteArray×RS:=
 let t:=bd s r.p
 if t.2.2=false∨dJ t.1=false then(.empty,r.fail t.2.1)
 else match r.f with
  |none=>(t.1,⟨t.2.1+t.1.size,none⟩)
  |some a=>(.empty,⟨r.p,some a⟩)
def dc:Nat→ByteArray→RS→List aP×RS
 |0,_,r=>([],r)
 |n+1,s,r=>
  if r.f=none∧kZ s r≠⟨#[41]⟩ then
   let a:=bN (s.size+1) s r
   let b:=dc n s a.2
   (a.1::b.1,b.2)
  else([],r)
def fm:List ByteArray:=[.empty,⟨#[115,111,114,116]⟩,⟨#[99,111,110,115,116]⟩,⟨#[97,112,112]⟩,⟨#[108,97,109]⟩,⟨#[112,105]⟩,⟨#[108,101,116]⟩]
def fC(w:ByteArray):Nat:=
 if w=⟨#[115,111,114,116]⟩ then 1 else if w=⟨#[99,111,110,115,116]⟩ then 2 else if w=⟨#[97,112,112]⟩ then 3
 else if w=⟨#[108,97,109]⟩ then 4 else if w=⟨#[112,105]⟩ then 5 else if w=⟨#[108,101,116]⟩ then 6 else 0
theorem xz(w:ByteArray):fC w≤6:=by
 unfold fC;repeat' split
 all_goals omega
variable {w:ByteArray}
theorem xy(h1:1≤i)(h:i<fm.length):fm[i]=w↔fC w=i:=by
 constructor
 ·rintro rfl;rcases i with _|_|_|_|_|_|_|i
  ·omega
  all_goals first
   |rfl
   |(simp[fm] at h;omega)
 ·intro e;unfold fC at e
  repeat' split at e
  all_goals (subst e;first|omega|(rename_i h2;exact h2.symm)|(simp_all [fm]))
def oZ(w:ByteArray)(i:Nat):Nat:=if fC w<i then fC w else 0
theorem JT(w:ByteArray):oZ w 7=fC w:=by have:=xz w;unfold oZ;rw[if_pos (by omega)]
theorem xx(h1:1≤i)(h:i<fm.length)(e:fm[i]=w):oZ w (i+1)=i:=by
 have:=(xy h1 h).1 e;unfold oZ;rw[if_pos (by omega)];exact this
theorem zH(h1:1≤i)(h:i<fm.length)(e:¬fm[i]=w):oZ w (i+1)=oZ w i:=by
 have:¬fC w=i:=fun h2=>e ((xy h1 h).2 h2)
 unfold oZ;by_cases h3:fC w<i
 ·rw [if_pos h3,if_pos (by omega)]
 ·rw [if_neg h3,if_neg (by omega)]
def aQ:ae:=.mk 0 0 .empty [] []
def dX(f:RS→ae×RS):Nat→RS→List ae×RS
 |0,r=>([],r)
 |n+1,r=>let b:=dX f n r;let a:=f b.2;(b.1++[a.1],a.2)
def partsOf(k:Nat):Nat:=if k=1∨k=2 then 0 else if k=6 then 3 else 2
def jc(s:ByteArray)(k:Nat)(r2:RS):ByteArray×List aP×RS:=
 if k=1 then(.empty,[(bN (s.size+1) s r2).1],(bN (s.size+1) s r2).2)
 else if k=2 then((cW s r2).1,(dc (s.size+2) s (cW s r2).2).1,(dc (s.size+2) s (cW s r2).2).2)
 else(.empty,[],r2)
def vu(t:ByteArray):Prop:=t≠ .empty∧(bq t 0=35∨t=⟨#[40]⟩)
instance (t:ByteArray):Decidable (vu t):=inferInstanceAs (Decidable (_∧_))
def bU:Nat→ByteArray→RS→ae×RS
 |0,_,r=>(aQ,r)
 |n+1,s,r=>
  match r.f with
  |some _=>(aQ,r)
  |none=>
   let t:=bd s r.p
   if ¬vu t.1 then(aQ,r.fail t.2.1)
   else if t.1≠⟨#[40]⟩ then(.mk 0 (ll (t.1.extract 1 t.1.size) (t.1.size-1)) .empty [] [],(aS s r).2)
   else
    let r1:=(aS s r).2
    let w:=bd s r1.p
    let k:=fC w.1
    if k=0 then(aQ,r1.fail w.2.1)
    else
     let h:=jc s k (aS s r1).2
     let a:=dX (bU n s) (partsOf k) h.2.2
     (.mk k 0 h.1 h.2.1 a.1,cw s ⟨#[41]⟩ a.2)
def gi(s:ByteArray):ae×Int×Int:=
 if s.size>20000 then(aQ,2,0)
 else
  let a:=bU (s.size+1) s ⟨0,none⟩
  match (iA s a.2).f with
  |none=>(a.1,0,0)
  |some at'=>(aQ,1,at')
variable {r:RS}
theorem eE{s:ByteArray}(hp:r.p≤s.size):r.p≤(cW s r).2.p∧(cW s r).2.p≤s.size:=by
 have hat:=ft (s:=s) hp;obtain⟨p,f⟩:=r;simp only at hp hat;unfold cW;dsimp only;split
 ·rw [RS.im];exact⟨Nat.le_refl _,hp⟩
 ·cases f with
  |none=>dsimp only;exact⟨by omega,hat.2⟩
  |some a=>exact⟨Nat.le_refl _,hp⟩
theorem Ey{s:ByteArray}:∀(n:Nat) {r:RS},r.p≤s.size→r.p≤(dc n s r).2.p∧(dc n s r).2.p≤s.size:=by
 intro n
 induction n with
 |zero=>intro r hp;exact⟨Nat.le_refl _,hp⟩
 |succ n ih=>
  intro r hp;simp only[dc];split
  ·have h1:=eJ (s:=s) (s.size+1) hp;have h2:=ih h1.2;exact⟨Nat.le_trans h1.1 h2.1,h2.2⟩
  ·exact ⟨Nat.le_refl _,hp⟩
theorem tF{s:ByteArray}(k:Nat)(hp:r.p≤s.size):r.p≤(jc s k r).2.2.p∧(jc s k r).2.2.p≤s.size:=by
 unfold jc;split
 ·exact eJ (s:=s) (s.size+1) hp
 ·split
  ·have h1:=eE (s:=s) hp;have h2:=Ey (s.size+2) h1.2;exact⟨Nat.le_trans h1.1 h2.1,h2.2⟩
  ·exact ⟨Nat.le_refl _,hp⟩
theorem j3{s:ByteArray}{f:RS→ae×RS}(hf:∀r:RS,r.p≤s.size→r.p≤(f r).2.p∧(f r).2.p≤s.size):∀(n:Nat) {r:RS},r.p≤s.size→r.p≤(dX f n r).2.p∧(dX f n r).2.p≤s.size:=by
 intro n
 induction n with
 |zero=>intro r hp;exact⟨Nat.le_refl _,hp⟩
 |succ n ih=>
  intro r hp;have h1:=ih hp;have h2:=hf _ h1.2;exact⟨Nat.le_trans h1.1 h2.1,h2.2⟩
theorem wP(f:RS→ae×RS):∀(n:Nat) (r:RS),(dX f n r).1.length=n:=by
 intro n
 induction n with
 |zero=>intro r;rfl
 |succ n ih=>intro r;simp[dX,ih]
theorem eu{s:ByteArray}:∀(n:Nat) (r:RS),r.p≤s.size→r.p≤(bU n s r).2.p∧(bU n s r).2.p≤s.size:=by
 intro n
 induction n with
 |zero=>intro r hp;exact⟨Nat.le_refl _,hp⟩
 |succ n ih=>
  intro r hp;obtain⟨p,f⟩:=r;simp only at hp;cases f with
  |some a=>exact⟨Nat.le_refl _,hp⟩
  |none=>
   have h1:=c6 (s:=s) (r:=⟨p,none⟩) hp;have h2:=c6 (s:=s) (r:=(aS s ⟨p,none⟩).2) h1.2;simp only at h1;simp only[bU];split
   ·rw [RS.im];exact⟨Nat.le_refl _,hp⟩
   ·split
    ·exact h1
    ·split
     ·rw [RS.im];exact h1
     ·have h3:=tF (s:=s) (fC (bd s (aS s ⟨p,none⟩).2.p).1) h2.2;have h4:=j3 ih (partsOf (fC (bd s (aS s ⟨p,none⟩).2.p).1)) h3.2;have h5:=bY (s:=s) (w:=⟨#[41]⟩) h4.2;exact⟨Nat.le_trans h1.1 (Nat.le_trans h2.1 (Nat.le_trans h3.1 (Nat.le_trans h4.1 h5.1))),h5.2⟩
theorem G2{s:ByteArray}{p:Nat}(hp:p≤s.size)(h0:(bd s p).1≠ .empty)(h:bq (bd s p).1 0=35):(bd s p).1.size≤6∧2≤(bd s p).1.size∧uW ((bd s p).1.extract 1 (bd s p).1.size):=by
 have hle:=fw rf s p hp;revert h0 h;unfold bd;dsimp only;split
 ·intro h0;exact absurd rfl h0
 ·rename_i hn;have hlt:cZ rf s p<s.size:=by omega
  split
  ·rename_i hc;intro _ h;rw[cF s (by omega) (by omega),Nat.add_zero] at h;omega
  ·split
   ·rename_i hc hnm;have h3:=fw (gb · false) s (cZ rf s p+1) (by omega);split
    ·intro h0;exact absurd rfl h0
    ·intro _ h;rw[cF s (by omega) (by omega),Nat.add_zero] at h;rw[h] at hnm;exact absurd hnm (by decide)
   ·split
    ·have h3:=fw jP s (cZ rf s p+1) (by omega);by_cases h35:bq s (cZ rf s p)=35
     ·simp only[if_pos h35];split
      ·intro h0;exact absurd rfl h0
      ·rename_i hd;intro _ h;simp only[ByteArray.size_extract];refine⟨by omega,by omega,fun i hi=>?_⟩;simp only[ByteArray.size_extract] at hi;rw[cF _ (by omega) (by simp only[ByteArray.size_extract];omega),cF s (by omega) (by omega)];have:=uh (f:=jP) (s:=s) (p:=cZ rf s p+1) (j:=cZ rf s p+(1+i)) (by omega) (by omega)
       simpa[jP] using this
     ·simp only[if_neg h35];split
      ·intro h0;exact absurd rfl h0
      ·intro _ h;rw[cF s (by omega) (by omega),Nat.add_zero] at h;exact absurd h h35
    ·intro h0;exact absurd rfl h0
theorem By{s:ByteArray}{p:Nat}(hp:p≤s.size)(h0:(bd s p).1≠ .empty)(h:bq (bd s p).1 0=35):(bd s p).1.size≤6∧1≤(bd s p).1.size∧uW ((bd s p).1.extract 1 (bd s p).1.size):=by
 have:=G2 hp h0 h;exact⟨this.1,by omega,this.2.2⟩
section
variable {s:ByteArray} {p n:Nat}
theorem ud(h:¬vu (bd s p).1):bU (n+1) s ⟨p,none⟩=(aQ,(RS.mk p none).fail (bd s p).2.1):=by simp only[bU];rw[if_pos h]
theorem uc(h:vu (bd s p).1)(h1:(bd s p).1≠⟨#[40]⟩):bU (n+1) s ⟨p,none⟩=(.mk 0 (ll ((bd s p).1.extract 1 (bd s p).1.size) ((bd s p).1.size-1)) .empty [] [],(aS s ⟨p,none⟩).2):=by
 simp only[bU];rw[if_neg (by simpa using h),if_pos h1]
theorem rM(h1:(bd s p).1=⟨#[40]⟩)(h2:fC (bd s (aS s ⟨p,none⟩).2.p).1=0):bU (n+1) s ⟨p,none⟩=(aQ,(aS s ⟨p,none⟩).2.fail (bd s (aS s ⟨p,none⟩).2.p).2.1):=by
 simp only[bU];rw[if_neg (by rw[h1];decide),if_neg (by simpa using h1),if_pos h2]
theorem rL(h1:(bd s p).1=⟨#[40]⟩){k:Nat}(h2:fC (bd s (aS s ⟨p,none⟩).2.p).1=k)(h3:¬k=0){nm:ByteArray}{L:List aP}{r3:RS}(h4:jc s k (aS s (aS s ⟨p,none⟩).2).2=(nm,L,r3)):
 bU (n+1) s ⟨p,none⟩=(.mk k 0 nm L (dX (bU n s) (partsOf k) r3).1,cw s ⟨#[41]⟩ (dX (bU n s) (partsOf k) r3).2):=by
 simp only[bU];rw[if_neg (by rw[h1];decide),if_neg (by simpa using h1),h2,if_neg h3,h4]
end
theorem Ek{s:ByteArray}(h:¬s.size>20000)(hf:¬bE (iA s (bU (s.size+1) s ⟨0,none⟩).2).f=0):
 gi s=(aQ,bE (iA s (bU (s.size+1) s ⟨0,none⟩).2).f,eG (iA s (bU (s.size+1) s ⟨0,none⟩).2).f):=by
 unfold gi;rw[if_neg h];simp only;cases hf2:(iA s (bU (s.size+1) s ⟨0,none⟩).2).f with
 |none=>rw[hf2] at hf;exact absurd rfl hf
 |some a=>rfl
theorem Cg{s:ByteArray}(h:¬s.size>20000)(hf:bE (iA s (bU (s.size+1) s ⟨0,none⟩).2).f=0):
 gi s=((bU (s.size+1) s ⟨0,none⟩).1,bE (iA s (bU (s.size+1) s ⟨0,none⟩).2).f,eG (iA s (bU (s.size+1) s ⟨0,none⟩).2).f):=by
 unfold gi;rw[if_neg h];simp only;cases hf2:(iA s (bU (s.size+1) s ⟨0,none⟩).2).f with
 |none=>rfl
 |some a=>rw[hf2] at hf;cases hf
end Go.Vd
namespace Go.Proofs.YtndbnldjidciiaaGreatDoor
section
open Go Go.Vd Go.RowKit
mutual
def b0(F:ae→Int→ae):ae→Int→ae
 | .mk k n s ls args,d=>if k=0 then F (.mk k n s ls args) d else .mk k n s ls (bQ F (decide (4≤k)) args d)
def bQ(F:ae→Int→ae)(b:Bool):List ae→Int→List ae
 |[],_=>[]
 |t::r,d=>b0 F t (if b&&r.isEmpty then d+1 else d)::bQ F b r d
end
theorem fB(F:ae→Int→ae)(b:Bool)(d:Int):∀l:List ae,(bQ F b l d).length=l.length
 |[]=>by simp[bQ]
 |t::r=>by simp[bQ,fB F b d r]
theorem n5(F:ae→Int→ae)(b:Bool)(d:Int):∀{l:List ae} {i:Nat} {t:ae},l[i]? =some t→(bQ F b l d)[i]? =some (b0 F t (if b=true∧i+1=l.length then d+1 else d))
 |[],i,t,h=>by simp at h
 |a::r,0,t,h=>by
  simp at h;subst h;simp only[bQ,List.getElem?_cons_zero];cases r<;>simp
 |a::r,i+1,t,h=>by
  have:=n5 F b d (l:=r) (i:=i) (t:=t) (by simpa using h);simp only[bQ,List.getElem?_cons_succ,this,List.length_cons,Nat.add_right_cancel_iff]
mutual
def yR(P:Int→Int→Prop):ae→Int→Prop
 | .mk k n s ls args,d=>if k=0 then P n d else Ai P (decide (4≤k)) args d
def Ai(P:Int→Int→Prop)(b:Bool):List ae→Int→Prop
 |[],_=>True
 |t::r,d=>yR P t (if b&&r.isEmpty then d+1 else d)∧Ai P b r d
end
def pI(B:Int)(t:ae):Prop:=yR (fun n _=>0≤n∧n≤B) t 0
def dK(m from':Int):ae→Int→ae
 | .mk k n s ls args,d=>if n≥from'+d then .mk k (n+m) s ls args else .mk k n s ls args
def dz(t:ae)(m from':Int):ae:=if m=0 then t else b0 (dK m from') t 0
def de(v:ae):ae→Int→ae
 | .mk k n s ls args,d=>if n-d<0 then .mk k n s ls args else if n-d<1 then dz v d 0 else .mk k (n-1) s ls args
def dp(t v:ae):ae:=b0 (de v) t 0
def O2:List D:=[.v (.int .i64 0),.v (.int .i64 0),.v (.string .empty),.v (.slice none 0 0),.v (.slice none 0 0)]
def uq(L:List ae)(i n:Nat):List (List D):=aH (L.take i)++List.replicate (n-i) O2
variable {L:List ae} {i n:Nat}
theorem BV(h:i≤L.length)(hn:i≤n):(uq L i n).length=n:=by
 simp only[uq,List.length_append,aO,List.length_take,List.length_replicate];omega
variable {t:ae}
theorem BU(h:L[i]? =some t)(hn:i<n):(uq L i n).set i t.cells=uq L (i+1) n:=by
 have hi:=(List.getElem?_eq_some_iff.1 h).1;have hl:(aH (L.take i)).length=i:=by rw[aO,List.length_take];omega
 unfold uq;rw[List.set_append_right _ _ (by omega),hl,Nat.sub_self,List.take_add_one,h];simp only[Option.toList_some,dj,List.append_assoc];rw[show n-i=(n-(i+1))+1 by omega,List.replicate_succ];rfl
theorem BW(h:L.length=n):uq L n n=aH L:=by
 unfold uq;rw[Nat.sub_self,List.take_of_length_le (by omega)];simp
theorem bG:∀{l:List ae} {i:Nat} {t:ae},l[i]? =some t→t.size≤aj l
 |[],i,t,h=>by simp at h
 |a::r,0,t,h=>by simp at h;subst h;simp[aj]
 |a::r,i+1,t,h=>by
  have:=bG (l:=r) (i:=i) (t:=t) (by simpa using h);simp[aj];omega
theorem br:∀l:List ae,l.length≤aj l
 |[]=>by simp
 | .mk k n s ls args::r=>by have:=br r;simp[aj,ae.size];omega
theorem Ag{P:Int→Int→Prop}{b:Bool}{d:Int}:∀{l:List ae} {i:Nat} {t:ae},Ai P b l d→l[i]? =some t→yR P t (if b=true∧i+1=l.length then d+1 else d)
 |[],i,t,_,h=>by simp at h
 |a::r,0,t,hp,h=>by
  simp at h;subst h;have:=hp.1;cases r<;>simpa using this
 |a::r,i+1,t,hp,h=>by
  have:=Ag (l:=r) (i:=i) (t:=t) hp.2 (by simpa using h)
  simpa only[List.length_cons,Nat.add_right_cancel_iff] using this
mutual
theorem DD{P:Int→Prop}:∀(t:ae) (d e:Int),yR (fun n _=>P n) t d→yR (fun n _=>P n) t e
 | .mk k n s ls args,d,e,h=>by
  simp only[yR] at h ⊢;by_cases hk:k=0
  ·rw [if_pos hk] at h ⊢;exact h
  ·rw [if_neg hk] at h ⊢;exact Ah args _ d e h
theorem Ah{P:Int→Prop}:∀(l:List ae) (b:Bool) (d e:Int),Ai (fun n _=>P n) b l d→Ai (fun n _=>P n) b l e
 |[],_,_,_,_=>trivial
 |t::r,b,d,e,h=>⟨DD t _ _ h.1,Ah r b d e h.2⟩
end
variable {B:Int} {s:ByteArray} {ls:List aP} {args:List ae}
theorem Cx{k n:Int}(h:pI B (.mk k n s ls args))(hk:¬k=0)(hi:args[i]? =some t):pI B t:=by
 unfold pI at h ⊢;simp only[yR,if_neg hk] at h;exact DD _ _ _ (Ag h hi)
theorem Cw{n:Int}(h:pI B (.mk 0 n s ls args)):0≤n∧n≤B:=by
 unfold pI at h
 simpa only[yR,if_true] using h
end
section
open Go Go.Vd Go.RowKit
mutual
def eU(G:ae→Int→Bool):ae→Int→Bool
 | .mk k n s ls args,d=>G (.mk k n s ls args) d||iF G (decide (4≤k)) args d
def iF(G:ae→Int→Bool)(b:Bool):List ae→Int→Bool
 |[],_=>false
 |t::r,d=>eU G t (if b&&r.isEmpty then d+1 else d)||iF G b r d
end
theorem pP{G:ae→Int→Bool}{b:Bool}{d:Int}:∀{l:List ae} {i:Nat} {t:ae},l[i]? =some t→eU G t (if b=true∧i+1=l.length then d+1 else d)=true→iF G b l d=true
 |[],i,t,h,_=>by simp at h
 |a::r,0,t,h,hg=>by
  simp at h;subst h;simp only[iF,Bool.or_eq_true];left;cases r<;>simpa using hg
 |a::r,i+1,t,h,hg=>by
  simp only[iF,Bool.or_eq_true];right;exact pP (l:=r) (i:=i) (t:=t) (by simpa using h) (by simpa only[List.length_cons,Nat.add_right_cancel_iff] using hg)
theorem oJ{G:ae→Int→Bool}{b:Bool}{d:Int}:∀{l:List ae},(∀ (i:Nat) t,l[i]? =some t→eU G t (if b=true∧i+1=l.length then d+1 else d)=false)→iF G b l d=false
 |[],_=>rfl
 |a::r,h=>by
  simp only[iF,Bool.or_eq_false_iff];refine⟨?_,oJ fun i t hi=>?_⟩
  ·have:=h 0 a rfl;cases r<;>simpa using this
  ·have:=h (i+1) t (by simpa using hi)
   simpa only[List.length_cons,Nat.add_right_cancel_iff] using this
def bf:ae→ae×List ae
 | .mk k n s ls [f,a]=>if k=3 then((bf f).1,(bf f).2++[a]) else(.mk k n s ls [f,a],[])
 |t=>(t,[])
def bt(f:ae)(bs:List ae):ae:=bs.foldl (fun f a=>.mk 3 0 .empty [] [f,a]) f
def rh:ae→Prop
 | .mk k n s ls [f,a]=>k=3→rh f
 | .mk k n s ls _=> ¬k=3
variable {k n:Int} {s:ByteArray} {ls:List aP} {args:List ae}
theorem wz(h:rh (.mk k n s ls args))(hk:k=3):∃k1 n1 s1 l1 a1 k2 n2 s2 l2 a2,args=[.mk k1 n1 s1 l1 a1,.mk k2 n2 s2 l2 a2]∧rh (.mk k1 n1 s1 l1 a1):=by
 match args,h with
 |[⟨k1,n1,s1,l1,a1⟩,⟨k2,n2,s2,l2,a2⟩],h=>exact⟨k1,n1,s1,l1,a1,k2,n2,s2,l2,a2,rfl,by simp only[rh] at h;exact h hk⟩
 |[],h=>exact absurd hk (by simpa only[rh] using h)
 |[a],h=>exact absurd hk (by simpa only[rh] using h)
 |a::b::c::r,h=>exact absurd hk (by simpa only[rh] using h)
theorem jh{f a:ae}:bf (.mk 3 n s ls [f,a])=((bf f).1,(bf f).2++[a]):=by
 simp only[bf,if_true]
theorem kH(h:¬k=3):bf (.mk k n s ls args)=(.mk k n s ls args,[]):=by
 match args with
 |[f,a]=>simp only[bf,if_neg h]
 |[]=>rfl
 |[a]=>rfl
 |a::b::c::r=>rfl
end
section
open Go Go.Vd Go.RowKit
theorem jG(F:ae→Int→ae)(b:Bool)(r:List ae)(d:Int):(bQ F b r d).isEmpty=r.isEmpty:=by cases r<;>simp[bQ]
mutual
theorem qV{F G H:ae→Int→ae}(hv:∀n s ls args (j:Int),0≤j→b0 G (F (.mk 0 n s ls args) j) j=H (.mk 0 n s ls args) j):∀(t:ae) (j:Int),0≤j→b0 G (b0 F t j) j=b0 H t j
 | .mk k n s ls args,j,hj=>by
  by_cases hk:k=0
  ·subst hk;rw[b0,if_pos rfl,hv n s ls args j hj,b0,if_pos rfl]
  ·rw [b0,if_neg hk,b0,if_neg hk,b0,if_neg hk,xj hv args _ j hj]
theorem xj{F G H:ae→Int→ae}(hv:∀n s ls args (j:Int),0≤j→b0 G (F (.mk 0 n s ls args) j) j=H (.mk 0 n s ls args) j):∀(l:List ae) (b:Bool) (j:Int),0≤j→bQ G b (bQ F b l j) j=bQ H b l j
 |[],b,j,_=>rfl
 |t::r,b,j,hj=>by
  simp only[bQ,jG];rw[qV hv t _ (by split<;>omega),xj hv r b j hj]
end
mutual
theorem uz{F:ae→Int→ae}(hv:∀n s ls args (j:Int),F (.mk 0 n s ls args) j=.mk 0 n s ls args):∀(t:ae) (j:Int),b0 F t j=t
 | .mk k n s ls args,j=>by
  by_cases hk:k=0
  ·subst hk;rw[b0,if_pos rfl,hv]
  ·rw [b0,if_neg hk,xi hv args]
theorem xi{F:ae→Int→ae}(hv:∀n s ls args (j:Int),F (.mk 0 n s ls args) j=.mk 0 n s ls args):∀(l:List ae) (b:Bool) (j:Int),bQ F b l j=l
 |[],b,j=>rfl
 |t::r,b,j=>by
  simp only[bQ];rw[uz hv t,xi hv r]
end
theorem dY(t:ae)(m fr:Int):dz t m fr=b0 (dK m fr) t 0:=by
 unfold dz;split
 ·rename_i h;subst h;exact(uz (fun n s ls args j=>by rw[dK];split<;>simp) t 0).symm
 ·rfl
theorem cO(F:ae→Int→ae)(n:Int)(s:ByteArray)(ls:List aP)(args:List ae)(j:Int):b0 F (.mk 0 n s ls args) j=F (.mk 0 n s ls args) j:=by rw[b0,if_pos rfl]
end
section
open Go Go.Vd Go.RowKit
theorem tc{x:eC}(h:j7=x.cC):∀w,x.has w→ij w:=by
 cases x<;>simp[j7,eC.cC] at h;intro w hw;exact hw.elim
theorem Ht{s:ByteArray}:∀(n:Nat) {r:RS},r.p≤s.size→∀x:eC,(bN n s r).1=x.cC→∀w,x.has w→ij w:=by
 intro n
 induction n with
 |zero=>intro r hp x h;exact tc h
 |succ n ih=>
  intro r hp x h;obtain⟨p,f⟩:=r;simp only at hp;cases f with
  |some a=>exact tc h
  |none=>
   have h1:=c6 (s:=s) (r:=⟨p,none⟩) hp;have h2:=c6 (s:=s) (r:=(aS s ⟨p,none⟩).2) h1.2;have h3:=eJ n h2.2;by_cases c0:(bd s p).1=⟨#[48]⟩
   ·rw [nh c0] at h;exact tc h
   cases c1:dJ (bd s p).1 with
   |true=>
    rw[ni c0 c1] at h;cases x<;>simp[eC.cC] at h;intro w hw;have e:w=_:=hw;rw[e,←h];exact wm hp c1
   |false=>
    by_cases c2:(bd s p).1=⟨#[40]⟩
    ·rcases xA (bd s (aS s ⟨p,none⟩).2.p).1 with hk|⟨hk,hne2⟩
     ·rw [nj c0 c1 c2 hk] at h;exact tc h
     ·rcases hk with hk|hk|hk
      ·rw [oY c0 c1 c2 hk] at h;cases x<;>simp[eC.cC] at h;intro w hw;exact ih h2.2 _ h w hw
      ·rw [jr c0 c1 c2 (by omega) (by omega),hk] at h;cases x<;>simp[eC.cC] at h;intro w hw;rcases hw with hw|hw
       ·exact ih h2.2 _ h.1 w hw
       ·exact ih h3.2 _ h.2 w hw
      ·rw [jr c0 c1 c2 (by omega) (by omega),hk] at h;cases x<;>simp[eC.cC] at h;intro w hw;rcases hw with hw|hw
       ·exact ih h2.2 _ h.1 w hw
       ·exact ih h3.2 _ h.2 w hw
    ·rw [nk c0 c1 c2] at h;exact tc h
end
end Go.Proofs.YtndbnldjidciiaaGreatDoor
namespace Go.Vd
open Go Go.RowKit
inductive dP where
 |mk (kind:Int) (name:ByteArray) (params:List ByteArray) (ty val:ae) (arity:Int) (ctors:List (ByteArray×ae))
def gM(l:List (ByteArray×ae)):List (List D):=l.map fun c=>.v (.string c.1)::c.2.cells
def dP.cells:dP→List D
 | .mk k s ps t v a cs=>.v (.int .i64 k)::.v (.string s)::.sl 1 (strs ps)::(t.cells++(v.cells++[.v (.int .i64 a),.sl 6 (gM cs)]))
def dP.d(x:dP):D:=.agg x.cells
def lN(l:List dP):List (List D):=l.map dP.cells
theorem dP.case(x:dP):∃k s ps k1 n1 s1 l1 a1 k2 n2 s2 l2 a2 a cs,x=.mk k s ps (.mk k1 n1 s1 l1 a1) (.mk k2 n2 s2 l2 a2) a cs:=by
 obtain⟨k,s,ps,⟨k1,n1,s1,l1,a1⟩,⟨k2,n2,s2,l2,a2⟩,a,cs⟩:=x;exact⟨_,_,_,_,_,_,_,_,_,_,_,_,_,_,_,rfl⟩
theorem dP.Dq(k:Int)(s:ByteArray)(ps:List ByteArray)(k1 n1:Int)(s1:ByteArray)(l1:List aP)(a1:List ae)(k2 n2:Int)(s2:ByteArray)(l2:List aP)(a2:List ae)(a:Int)(cs:List (ByteArray×ae)):
 (dP.mk k s ps (.mk k1 n1 s1 l1 a1) (.mk k2 n2 s2 l2 a2) a cs).cells=[.v (.int .i64 k),.v (.string s),.sl 1 (strs ps),.v (.int .i64 k1),.v (.int .i64 n1),.v (.string s1),.sl 3 (bF l1),.sl 5 (aH a1),.v (.int .i64 k2),.v (.int .i64 n2),.v (.string s2),.sl 3 (bF l2),.sl 5 (aH a2),.v (.int .i64 a),.sl 6 (gM cs)]:=rfl
theorem iU(l:List (ByteArray×ae)):(gM l).length=l.length:=by simp[gM]
theorem xT(l:List dP):(lN l).length=l.length:=by simp[lN]
theorem Kw(l m:List (ByteArray×ae)):gM (l++m)=gM l++gM m:=by simp[gM]
theorem Dk(l m:List dP):lN (l++m)=lN l++lN m:=by simp[lN]
variable {i:Nat} {nm s:ByteArray}
theorem pk{l:List (ByteArray×ae)}{k n:Int}{ls:List aP}{args:List ae}(h:l[i]? =some (nm,.mk k n s ls args)):(gM l)[((i:Nat):Int).toNat]? =some [.v (.string nm),.v (.int .i64 k),.v (.int .i64 n),.v (.string s),.sl 3 (bF ls),.sl 5 (aH args)]:=by
 simp[gM,h,ae.cells]
variable {ps:List ByteArray} {a:Int}
theorem Ol{l:List dP}{k:Int}{k1 n1:Int}{s1:ByteArray}{l1:List aP}{a1:List ae}{k2 n2:Int}{s2:ByteArray}{l2:List aP}{a2:List ae}{cs:List (ByteArray×ae)}
 (h:l[i]? =some (.mk k s ps (.mk k1 n1 s1 l1 a1) (.mk k2 n2 s2 l2 a2) a cs)):(lN l)[((i:Nat):Int).toNat]? =some [.v (.int .i64 k),.v (.string s),.sl 1 (strs ps),.v (.int .i64 k1),.v (.int .i64 n1),.v (.string s1),.sl 3 (bF l1),.sl 5 (aH a1),.v (.int .i64 k2),.v (.int .i64 n2),.v (.string s2),.sl 3 (bF l2),.sl 5 (aH a2),.v (.int .i64 a),.sl 6 (gM cs)]:=by
 simp[lN,h,dP.Dq]
theorem rb{l:List (ByteArray×ae)}(h:i<l.length):∃nm k n s ls args,l[i]? =some (nm,.mk k n s ls args):=by
 have:l[i]? =some l[i]:=by simp[h]
 rw[this];obtain⟨nm,⟨k,n,s,ls,args⟩⟩:=l[i];exact⟨_,_,_,_,_,_,rfl⟩
def dS:Nat→ByteArray→RS→List ByteArray×RS
 |0,_,r=>([],r)
 |n+1,s,r=>
  if r.f=none∧kZ s r≠⟨#[41]⟩ then
   let a:=cW s r
   let b:=dS n s a.2
   (a.1::b.1,b.2)
  else([],r)
def jT:ByteArray:=⟨#[99,116,111,114]⟩
def eR(s:ByteArray)(r:RS):(ByteArray×ae)×RS:=
 let c:=cW s (cw s jT (cw s ⟨#[40]⟩ r))
 let t:=bU (s.size+1) s c.2
 ((c.1,t.1),cw s ⟨#[41]⟩ t.2)
def dM:Nat→ByteArray→RS→List (ByteArray×ae)×RS
 |0,_,r=>([],r)
 |n+1,s,r=>
  if r.f=none∧kZ s r=⟨#[40]⟩ then
   let a:=eR s r
   let b:=dM n s a.2
   (a.1::b.1,b.2)
  else([],r)
def vt(w:ByteArray):Nat:=
 if w=⟨#[97,120,105,111,109]⟩ then 1 else if w=⟨#[100,101,102]⟩ then 2 else if w=⟨#[105,110,100,117,99,116,105,118,101]⟩ then 3 else 0
theorem JU(w:ByteArray):vt w≤3:=by
 unfold vt;repeat' split
 all_goals omega
def qy(t:ByteArray×Nat×Bool):Prop:=t.1≠ .empty∧48≤bq t.1 0∧bq t.1 0≤57∧t.1.size≤2
instance (t:ByteArray×Nat×Bool):Decidable (qy t):=inferInstanceAs (Decidable (_∧_))
def bO(s:ByteArray)(r:RS):Nat×ByteArray×List ByteArray×RS:=
 let r1:=cw s ⟨#[40]⟩ r
 let k:=vt (bd s r1.p).1
 if k=0 then(0,.empty,[],r1.fail (bd s r1.p).2.1)
 else
  let nm:=cW s (aS s r1).2
  let ps:=dS (s.size+2) s (cw s ⟨#[40]⟩ nm.2)
  (k,nm.1,ps.1,cw s ⟨#[41]⟩ ps.2)
def fW(s:ByteArray)(k:Nat)(r:RS):Int×RS:=if k=3 then(ll (bd s r.p).1 (bd s r.p).1.size,(aS s r).2) else(0,r)
def rH(s:ByteArray)(k:Nat)(r:RS):ae×RS:=if k=2 then bU (s.size+1) s r else(aQ,r)
def nA(s:ByteArray)(k:Nat)(r:RS):List (ByteArray×ae)×RS:=if k=3 then dM (s.size+2) s r else([],r)
def iT(s:ByteArray)(k:Nat)(nm:ByteArray)(ps:List ByteArray)(a:Int)(r:RS):dP×RS:=
 let t:=bU (s.size+1) s r
 let v:=rH s k t.2
 let c:=nA s k v.2
 (.mk k nm ps t.1 v.1 a c.1,cw s ⟨#[41]⟩ c.2)
def eF(s:ByteArray)(r:RS):dP×RS:=
 let h:=bO s r
 if h.1=0 then(.mk 0 .empty [] aQ aQ 0 [],h.2.2.2)
 else if h.1=3∧¬qy (bd s h.2.2.2.p) then(.mk 3 h.2.1 h.2.2.1 aQ aQ 0 [],h.2.2.2.fail (bd s h.2.2.2.p).2.1)
 else iT s h.1 h.2.1 h.2.2.1 (fW s h.1 h.2.2.2).1 (fW s h.1 h.2.2.2).2
def atEnd(s:ByteArray)(r:RS):Prop:=(bd s r.p).2.2=true∧(bd s r.p).1=.empty
instance (s:ByteArray) (r:RS):Decidable (atEnd s r):=inferInstanceAs (Decidable (_∧_))
def fE:Nat→ByteArray→RS→List dP×RS
 |0,_,r=>([],r)
 |n+1,s,r=>
  if r.f=none∧¬atEnd s r then
   let a:=eF s r
   let b:=fE n s a.2
   (a.1::b.1,b.2)
  else([],r)
def eZ(s:ByteArray):List dP×Int×Int:=
 match (fE (s.size+2) s ⟨0,none⟩).2.f with
 |none=>((fE (s.size+2) s ⟨0,none⟩).1,0,0)
 |some a=>([],1,a)
def fT(s:ByteArray):List dP×Int×Int:=if s.size>200000 then([],2,0) else eZ s
theorem zB:∀(n:Nat) {r:RS},r.p≤s.size→r.p≤(dS n s r).2.p∧(dS n s r).2.p≤s.size:=by
 intro n
 induction n with
 |zero=>intro r hp;exact⟨Nat.le_refl _,hp⟩
 |succ n ih=>
  intro r hp;simp only[dS];split
  ·have h1:=eE (s:=s) hp;have h2:=ih h1.2;exact⟨Nat.le_trans h1.1 h2.1,h2.2⟩
  ·exact ⟨Nat.le_refl _,hp⟩
variable {r:RS}
theorem tP(hp:r.p≤s.size):r.p≤(eR s r).2.p∧(eR s r).2.p≤s.size:=by
 have h1:=bY (s:=s) (w:=⟨#[40]⟩) hp;have h2:=bY (s:=s) (w:=jT) h1.2;have h3:=eE (s:=s) h2.2;have h4:=eu (s:=s) (s.size+1) _ h3.2;have h5:=bY (s:=s) (w:=⟨#[41]⟩) h4.2;unfold eR;exact⟨Nat.le_trans h1.1 (Nat.le_trans h2.1 (Nat.le_trans h3.1 (Nat.le_trans h4.1 h5.1))),h5.2⟩
theorem z9:∀(n:Nat) {r:RS},r.p≤s.size→r.p≤(dM n s r).2.p∧(dM n s r).2.p≤s.size:=by
 intro n
 induction n with
 |zero=>intro r hp;exact⟨Nat.le_refl _,hp⟩
 |succ n ih=>
  intro r hp;simp only[dM];split
  ·have h1:=tP (s:=s) hp;have h2:=ih h1.2;exact⟨Nat.le_trans h1.1 h2.1,h2.2⟩
  ·exact ⟨Nat.le_refl _,hp⟩
theorem ny(hp:r.p≤s.size):r.p≤(bO s r).2.2.2.p∧(bO s r).2.2.2.p≤s.size:=by
 have h1:=bY (s:=s) (w:=⟨#[40]⟩) hp;have h2:=c6 (s:=s) h1.2;have h3:=eE (s:=s) h2.2;have h4:=bY (s:=s) (w:=⟨#[40]⟩) h3.2;have h5:=zB (s:=s) (s.size+2) h4.2;have h6:=bY (s:=s) (w:=⟨#[41]⟩) h5.2;unfold bO;dsimp only;split
 ·rw [RS.im];exact h1
 ·exact ⟨Nat.le_trans h1.1 (Nat.le_trans h2.1 (Nat.le_trans h3.1 (Nat.le_trans h4.1 (Nat.le_trans h5.1 h6.1)))),h6.2⟩
variable {k:Nat}
theorem oC(hp:r.p≤s.size):r.p≤(fW s k r).2.p∧(fW s k r).2.p≤s.size:=by
 have h2:=c6 (s:=s) hp;unfold fW;split
 ·exact h2
 ·exact ⟨Nat.le_refl _,hp⟩
theorem vR(hp:r.p≤s.size):r.p≤(rH s k r).2.p∧(rH s k r).2.p≤s.size:=by
 have h2:=eu (s:=s) (s.size+1) r hp;unfold rH;split
 ·exact h2
 ·exact ⟨Nat.le_refl _,hp⟩
theorem Kz(hp:r.p≤s.size):r.p≤(nA s k r).2.p∧(nA s k r).2.p≤s.size:=by
 have h2:=z9 (s:=s) (s.size+2) hp;unfold nA;split
 ·exact h2
 ·exact ⟨Nat.le_refl _,hp⟩
theorem vA(hp:r.p≤s.size):r.p≤(iT s k nm ps a r).2.p∧(iT s k nm ps a r).2.p≤s.size:=by
 have h1:=eu (s:=s) (s.size+1) r hp;have h2:=vR (s:=s) (k:=k) h1.2;have h3:=Kz (s:=s) (k:=k) h2.2;have h4:=bY (s:=s) (w:=⟨#[41]⟩) h3.2;unfold iT;exact⟨Nat.le_trans h1.1 (Nat.le_trans h2.1 (Nat.le_trans h3.1 h4.1)),h4.2⟩
theorem xU(hp:r.p≤s.size):r.p≤(eF s r).2.p∧(eF s r).2.p≤s.size:=by
 have h1:=ny (s:=s) hp;unfold eF;dsimp only;split
 ·exact h1
 ·split
  ·rw [RS.im];exact h1
  ·have h2:=oC (s:=s) (k:=(bO s r).1) h1.2;have h3:=vA (s:=s) (k:=(bO s r).1) (nm:=(bO s r).2.1) (ps:=(bO s r).2.2.1) (a:=(fW s (bO s r).1 (bO s r).2.2.2).1) h2.2;exact⟨Nat.le_trans h1.1 (Nat.le_trans h2.1 h3.1),h3.2⟩
theorem iS(r:RS)(x:Nat):(r.fail x).f≠none:=by obtain⟨a,f⟩:=r;cases f<;>simp[RS.fail]
variable {w:ByteArray}
theorem jg(h:(cw s w r).f=none):r.f=none:=by
 obtain⟨p,f⟩:=r;unfold cw at h;dsimp only at h;split at h
 ·exact absurd h (iS _ _)
 ·cases f with
  |none=>rfl
  |some a=>cases h
theorem JL(h:(aS s r).2.f=none):r.f=none:=by
 obtain⟨p,f⟩:=r;unfold aS at h;dsimp only at h;split at h
 ·exact absurd h (iS _ _)
 ·cases f with
  |none=>rfl
  |some a=>cases h
theorem AL(h:(cW s r).2.f=none):r.f=none:=by
 obtain⟨p,f⟩:=r;unfold cW at h;dsimp only at h;split at h
 ·exact absurd h (iS _ _)
 ·cases f with
  |none=>rfl
  |some a=>cases h
theorem rK{n:Nat}(h:(bU n s r).2.f=none):r.f=none:=by
 obtain⟨p,f⟩:=r;cases f with
 |none=>rfl
 |some a=>cases n<;>cases h
theorem vV{s:ByteArray}:∀{n:Nat} {r:RS},(dS n s r).2.f=none→r.f=none
 |0,r,h=>h
 |n+1,r,h=>by
  simp only[dS] at h;split at h
  ·exact AL (vV h)
  ·exact h
theorem Om(h:(eR s r).2.f=none):r.f=none:=jg (jg (AL (rK (jg h))))
theorem Bh{s:ByteArray}:∀{n:Nat} {r:RS},(dM n s r).2.f=none→r.f=none
 |0,r,h=>h
 |n+1,r,h=>by
  simp only[dM] at h;split at h
  ·exact Om (Bh h)
  ·exact h
theorem J1(h:(bO s r).2.2.2.f=none):(cw s ⟨#[40]⟩ r).f=none:=by
 unfold bO at h;dsimp only at h;split at h
 ·exact absurd h (iS _ _)
 ·exact JL (AL (jg (vV (jg h))))
theorem GN(h:(fW s k r).2.f=none):r.f=none:=by
 unfold fW at h;split at h
 ·exact JL h
 ·exact h
theorem Mx(h:(rH s k r).2.f=none):r.f=none:=by
 unfold rH at h;split at h
 ·exact rK h
 ·exact h
theorem Ky(h:(nA s k r).2.f=none):r.f=none:=by
 unfold nA at h;split at h
 ·exact Bh h
 ·exact h
theorem Jc(h:(iT s k nm ps a r).2.f=none):r.f=none:=
 rK (Mx (Ky (jg h)))
theorem Ok(h:(eF s r).2.f=none):(cw s ⟨#[40]⟩ r).f=none:=by
 unfold eF at h;dsimp only at h;split at h
 ·exact J1 h
 ·split at h
  ·exact absurd h (iS _ _)
  ·exact J1 (GN (Jc h))
theorem yZ(hw:w≠ .empty)(hp:r.p≤s.size)(h:(cw s w r).f=none):r.p<(cw s w r).p:=by
 have hat:=ft (s:=s) hp;obtain⟨p,f⟩:=r;unfold cw at h ⊢;dsimp only at h ⊢;split at h
 ·exact absurd h (iS _ _)
 ·rename_i hn;rw[if_neg hn];cases f with
  |none=>
   have:(bd s p).1=w:=Classical.byContradiction fun e=>hn (.inr e)
   have h2:0<(bd s p).1.size:=by
    rcases Nat.eq_zero_or_pos (bd s p).1.size with h3|h3
    ·exact absurd (this▸ByteArray.size_eq_zero_iff.1 h3) hw
    ·exact h3
   simp only at hat ⊢;omega
  |some a=>cases h
theorem Hp(hp:r.p≤s.size)(h:(cW s r).2.f=none):r.p<(cW s r).2.p:=by
 have hat:=ft (s:=s) hp;obtain⟨p,f⟩:=r;unfold cW at h ⊢;dsimp only at h ⊢;split at h
 ·exact absurd h (iS _ _)
 ·rename_i hn;rw[if_neg hn];cases f with
  |none=>
   have h2:0<(bd s p).1.size:=by
    rcases Nat.eq_zero_or_pos (bd s p).1.size with h3|h3
    ·exfalso;apply hn;right;rw[ByteArray.size_eq_zero_iff.1 h3];rfl
    ·exact h3
   simp only at hat ⊢;omega
  |some a=>cases h
theorem Io(hp:r.p≤s.size)(h:(eR s r).2.f=none):r.p<(eR s r).2.p:=by
 have h1:=yZ (w:=⟨#[40]⟩) (by decide) hp (jg (AL (rK (jg h))));have h0:=bY (s:=s) (w:=⟨#[40]⟩) hp;have h2:=bY (s:=s) (w:=jT) h0.2;have h3:=eE (s:=s) h2.2;have h4:=eu (s:=s) (s.size+1) _ h3.2;have h5:=bY (s:=s) (w:=⟨#[41]⟩) h4.2;have:(eR s r).2=cw s ⟨#[41]⟩ (bU (s.size+1) s (cW s (cw s jT (cw s ⟨#[40]⟩ r))).2).2:=rfl;rw[this];omega
theorem Ig(hp:r.p≤s.size)(h:(eF s r).2.f=none):r.p<(eF s r).2.p:=by
 have h1:=yZ (w:=⟨#[40]⟩) (by decide) hp (Ok h);have h2:=bY (s:=s) (w:=⟨#[40]⟩) hp;have key:(cw s ⟨#[40]⟩ r).p≤(bO s r).2.2.2.p:=by
  have h3:=c6 (s:=s) h2.2;have h4:=eE (s:=s) h3.2;have h5:=bY (s:=s) (w:=⟨#[40]⟩) h4.2;have h6:=zB (s:=s) (s.size+2) h5.2;have h7:=bY (s:=s) (w:=⟨#[41]⟩) h6.2;unfold bO;dsimp only;split
  ·rw [RS.im];exact Nat.le_refl _
  ·exact Nat.le_trans h3.1 (Nat.le_trans h4.1 (Nat.le_trans h5.1 (Nat.le_trans h6.1 h7.1)))
 have h8:=ny (s:=s) hp;have h9:(bO s r).2.2.2.p≤(eF s r).2.p:=by
  unfold eF;dsimp only;split
  ·exact Nat.le_refl _
  ·split
   ·rw [RS.im];exact Nat.le_refl _
   ·have h2:=oC (s:=s) (k:=(bO s r).1) h8.2;have h3:=vA (s:=s) (k:=(bO s r).1) (nm:=(bO s r).2.1) (ps:=(bO s r).2.2.1) (a:=(fW s (bO s r).1 (bO s r).2.2.2).1) h2.2;exact Nat.le_trans h2.1 h3.1
 omega
variable {m:Nat}
theorem Eo(h:¬(r.f=none∧¬kZ s r=⟨#[41]⟩)):dS m s r=([],r):=by
 cases m with
 |zero=>rfl
 |succ m=>simp only[dS];rw[if_neg h]
variable {r0 r':RS}
theorem Ep{acc:List ByteArray}{x:ByteArray}(hinv:r'.p≤s.size∧acc.length+m=s.size+2∧(r'.f=none→s.size-r'.p<m)∧dS (s.size+2) s r0=(acc++(dS m s r').1,(dS m s r').2))
 (h:r'.f=none∧¬kZ s r'=⟨#[41]⟩) (hX:(cW s r').1=x):
 (cW s r').2.p≤s.size∧(acc++[x]).length+(m-1)=s.size+2∧((cW s r').2.f=none→s.size-(cW s r').2.p<m-1)∧
  dS (s.size+2) s r0=(acc++[x]++(dS (m-1) s (cW s r').2).1,(dS (m-1) s (cW s r').2).2):=by
 obtain⟨h1,h2,h3,h4⟩:=hinv;have hm:=h3 h.1;obtain⟨m,rfl⟩:∃k,m=k+1:=⟨m-1,by omega⟩;have hle:=eE (s:=s) h1;refine⟨hle.2,by simp;omega,fun hf=>by have:=Hp h1 hf;omega,?_⟩;rw[h4];simp only[dS];rw[if_pos h,←hX];simp
theorem Fh(h:¬(r.f=none∧kZ s r=⟨#[40]⟩)):dM m s r=([],r):=by
 cases m with
 |zero=>rfl
 |succ m=>simp only[dM];rw[if_neg h]
theorem Fi{acc:List (ByteArray×ae)}{x:ByteArray×ae}(hinv:r'.p≤s.size∧acc.length+m=s.size+2∧(r'.f=none→s.size-r'.p<m)∧dM (s.size+2) s r0=(acc++(dM m s r').1,(dM m s r').2))
 (h:r'.f=none∧kZ s r'=⟨#[40]⟩) (hX:(eR s r').1=x):
 (eR s r').2.p≤s.size∧(acc++[x]).length+(m-1)=s.size+2∧((eR s r').2.f=none→s.size-(eR s r').2.p<m-1)∧
  dM (s.size+2) s r0=(acc++[x]++(dM (m-1) s (eR s r').2).1,(dM (m-1) s (eR s r').2).2):=by
 obtain⟨h1,h2,h3,h4⟩:=hinv;have hm:=h3 h.1;obtain⟨m,rfl⟩:∃k,m=k+1:=⟨m-1,by omega⟩;have hle:=tP (s:=s) h1;refine⟨hle.2,by simp;omega,fun hf=>by have:=Io h1 hf;omega,?_⟩;rw[h4];simp only[dM];rw[if_pos h,←hX];simp
theorem uL(h:¬(r.f=none∧¬atEnd s r)):fE m s r=([],r):=by
 cases m with
 |zero=>rfl
 |succ m=>simp only[fE];rw[if_neg h]
theorem HQ{acc:List dP}{x:dP}(hinv:r'.p≤s.size∧acc.length+m=s.size+2∧(r'.f=none→s.size-r'.p<m)∧fE (s.size+2) s r0=(acc++(fE m s r').1,(fE m s r').2))
 (h:r'.f=none∧¬atEnd s r') (hX:(eF s r').1=x):
 (eF s r').2.p≤s.size∧(acc++[x]).length+(m-1)=s.size+2∧((eF s r').2.f=none→s.size-(eF s r').2.p<m-1)∧
  fE (s.size+2) s r0=(acc++[x]++(fE (m-1) s (eF s r').2).1,(fE (m-1) s (eF s r').2).2):=by
 obtain⟨h1,h2,h3,h4⟩:=hinv;have hm:=h3 h.1;obtain⟨m,rfl⟩:∃k,m=k+1:=⟨m-1,by omega⟩;have hle:=xU (s:=s) h1;refine⟨hle.2,by simp;omega,fun hf=>by have:=Ig h1 hf;omega,?_⟩;rw[h4];simp only[fE];rw[if_pos h,←hX];simp
end Go.Vd
namespace Go.Proofs.YtndbnldjidciiaaGreatDoor
section
open Go Go.Vd Go.RowKit
attribute [local irreducible] bu bA di ak bL
variable {gl:Nat→List D}
theorem ur(s:ByteArray)(r:RS)(hs:s.size≤1099511627776)(hp:r.p≤s.size):
 et Tryz.prog gl 93 [iB s r] [.cb 0 0] fun out ob'=>out=.ret (.d (.v (.string (kZ s r))))∧ob'=[iB s r]:=by
 obtain⟨p,f⟩:=r;simp only at hp;cases f with
 |none=>
  refine bS Tryz.func93 Tryz.ntmps93 1 ?_;refine gc 8 ?_;refine oc (ck pK rfl rfl (c7 s p (bE none) (eG none) hs hp) [0] rfl (bj .nil) (an .nil) ?_);refine ko 10 [5,3,0] 5 ?_;apply nI (yt:=20) (d:=14) 6 rfl rfl rfl (.none rfl) rfl rfl
  case h1=>
   intro hb4 hK;have hc:=hb4;(try simp only[du,Int.reduceEq,Int.reduceNe,Int.reduceLT,Int.reduceLE,bE,eG] at hc);refine mn ?_ (hbw:=by exact hb4);refine go 1 ?_;refine mn ?_ (hbw:=by exact hb4);refine go 1 ?_;refine mn ?_ (hbw:=by exact hb4);refine go 1 ?_;refine mn ?_ (hbw:=by exact hb4);refine go 1 ?_;refine mn ?_ (hbw:=by exact hb4);refine go 1 ?_;refine mn ?_ (hbw:=by exact hb4);refine go 1 ?_;exact hK [_,_,_,_,_,_] rfl rfl
  case h2=>
   intro hb4 hK;refine mi ?_ (hbw:=by exact hb4);refine mi ?_ (hbw:=by exact hb4);refine mi ?_ (hbw:=by exact hb4);refine mi ?_ (hbw:=by exact hb4);refine mi ?_ (hbw:=by exact hb4);refine mi ?_ (hbw:=by exact hb4);exact hK [_,_,_,_,_,_] rfl
  refine go 2 ?_;refine cd (fun h2=>?_) (fun h2=>?_)
  ·(try simp only[du,Int.reduceEq,Int.reduceNe,Int.reduceLT,Int.reduceLE,bE,eG] at h2)
   refine kc 0 [] 7 ?_;refine sZ [0] [iB s ⟨p,none⟩] ?_
   ·refine ⟨?_,rfl⟩;unfold kZ;dsimp only;rw[if_pos (by simp_all)];rfl
  (try simp only[du,Int.reduceEq,Int.reduceNe,Int.reduceLT,Int.reduceLE,bE,eG] at h2);refine kc 2 [3] 7 ?_;refine sZ [0] [iB s ⟨p,none⟩] ?_
  ·refine ⟨?_,rfl⟩;unfold kZ;dsimp only;rw[if_neg (by simp_all)]
 |some a=>
  refine bS Tryz.func93 Tryz.ntmps93 1 ?_;refine gc 8 ?_;refine oc (ck pK rfl rfl (c7 s p (bE (some a)) (eG (some a)) hs hp) [0] rfl (bj .nil) (an .nil) ?_);refine ko 10 [5,3,0] 5 ?_;apply nI (yt:=20) (d:=14) 6 rfl rfl rfl (.none rfl) rfl rfl
  case h1=>
   intro hb4 hK;have hc:=hb4;(try simp only[du,Int.reduceEq,Int.reduceNe,Int.reduceLT,Int.reduceLE,bE,eG] at hc);refine mn ?_ (hbw:=by exact hb4);refine go 1 ?_;refine mn ?_ (hbw:=by exact hb4);refine go 1 ?_;refine mn ?_ (hbw:=by exact hb4);refine go 1 ?_;refine mn ?_ (hbw:=by exact hb4);refine go 1 ?_;refine mn ?_ (hbw:=by exact hb4);refine go 1 ?_;refine mn ?_ (hbw:=by exact hb4);refine go 1 ?_;exact hK [_,_,_,_,_,_] rfl rfl
  case h2=>
   intro hb4 hK;refine mi ?_ (hbw:=by exact hb4);refine mi ?_ (hbw:=by exact hb4);refine mi ?_ (hbw:=by exact hb4);refine mi ?_ (hbw:=by exact hb4);refine mi ?_ (hbw:=by exact hb4);refine mi ?_ (hbw:=by exact hb4);exact hK [_,_,_,_,_,_] rfl
  refine go 2 ?_;refine v5 (fun h2=>?_) (fun h2=>?_)
  ·simp only[du,Int.reduceEq,Int.reduceNe,Int.reduceLT,Int.reduceLE,bE,eG] at h2
  (try simp only[du,Int.reduceEq,Int.reduceNe,Int.reduceLT,Int.reduceLE,bE,eG] at h2);refine kc 0 [] 7 ?_;refine sZ [0] [iB s ⟨p,some a⟩] ?_
  ·refine ⟨?_,rfl⟩;unfold kZ;dsimp only;rw[if_pos (by simp)];rfl
theorem qU(s:ByteArray)(r:RS)(hs:s.size≤1099511627776)(hp:r.p≤s.size):
 et Tryz.prog gl 92 [iB s r] [.cb 0 0] fun out ob'=>out=.ret (.d (.v (.string (cW s r).1)))∧ob'=[iB s (cW s r).2]:=by
 have hat:=ft (s:=s) hp;obtain⟨p,f⟩:=r;simp only at hat hp;cases f with
 |none=>
  refine bS Tryz.func92 Tryz.ntmps92 1 ?_;refine gc 8 ?_;refine oc (ck pK rfl rfl (c7 s p (bE none) (eG none) hs hp) [0] rfl (bj .nil) (an .nil) ?_);refine ko 9 [5,4,3,0] 3 ?_;refine oc (cv GH rfl rfl (nn (bd s p).1) (an .nil) ?_);refine go 9 ?_;apply nI (yt:=19) (d:=17) 2 rfl rfl rfl (.none rfl) rfl rfl
  case h1=>
   intro hb4 hK;have hc:=hb4;(try simp only[du,Int.reduceEq,Int.reduceNe,Int.reduceLT,Int.reduceLE,bE,eG,RS.fail] at hc);refine mn ?_ (hbw:=by exact hb4);refine go 1 ?_;refine mn ?_ (hbw:=by exact hb4);refine go 1 ?_;exact hK [_,_] rfl rfl
  case h2=>
   intro hb4 hK;refine mi ?_ (hbw:=by exact hb4);refine mi ?_ (hbw:=by exact hb4);exact hK [_,_] rfl
  refine go 2 ?_;refine cd (fun h3=>?_) (fun h3=>?_)
  ·(try simp only[du,Int.reduceEq,Int.reduceNe,Int.reduceLT,Int.reduceLE,bE,eG,RS.fail] at h3)
   refine kc 0 [4,3,0] 3 ?_;refine oc (ck uS rfl rfl (eK s (bd s p).2.1 ⟨p,none⟩) [0] rfl (bj .nil) (an (an .nil)) ?_);refine go 13 ?_;refine v5 (fun h5=>?_) (fun h5=>?_)
   ·simp only[du,Int.reduceEq,Int.reduceNe,Int.reduceLT,Int.reduceLE,bE,eG,RS.fail] at h5
   (try simp only[du,Int.reduceEq,Int.reduceNe,Int.reduceLT,Int.reduceLE,bE,eG,RS.fail] at h5);refine kc 0 [] 7 ?_;refine sZ [0] [iB s (RS.fail (bd s p).2.1 ⟨p,none⟩)] ?_
   ·unfold cW;simp only;rw[if_pos (by simp_all)];exact⟨rfl,rfl⟩
  (try simp only[du,Int.reduceEq,Int.reduceNe,Int.reduceLT,Int.reduceLE,bE,eG,RS.fail] at h3);refine kc 3 [4,3,0] 10 ?_;refine cd (fun h5=>?_) (fun h5=>?_)
  ·simp only[du,Int.reduceEq,Int.reduceNe,Int.reduceLT,Int.reduceLE,bE,eG,RS.fail] at h5
  (try simp only[du,Int.reduceEq,Int.reduceNe,Int.reduceLT,Int.reduceLE,bE,eG,RS.fail] at h5);refine kc 2 [4,3,0] 6 ?_;refine o1 (cG ?_);refine ko 5 [3] 7 ?_;refine sZ [0] [iB s ⟨(bd s p).2.1+(bd s p).1.size,none⟩] ?_
  ·unfold cW;simp only;rw[if_neg (by simp_all)];exact⟨rfl,rfl⟩
 |some a=>
  refine bS Tryz.func92 Tryz.ntmps92 1 ?_;refine gc 8 ?_;refine oc (ck pK rfl rfl (c7 s p (bE (some a)) (eG (some a)) hs hp) [0] rfl (bj .nil) (an .nil) ?_);refine ko 9 [5,4,3,0] 3 ?_;refine oc (cv GH rfl rfl (nn (bd s p).1) (an .nil) ?_);refine go 9 ?_;apply nI (yt:=19) (d:=17) 2 rfl rfl rfl (.none rfl) rfl rfl
  case h1=>
   intro hb4 hK;have hc:=hb4;(try simp only[du,Int.reduceEq,Int.reduceNe,Int.reduceLT,Int.reduceLE,bE,eG,RS.fail] at hc);refine mn ?_ (hbw:=by exact hb4);refine go 1 ?_;refine mn ?_ (hbw:=by exact hb4);refine go 1 ?_;exact hK [_,_] rfl rfl
  case h2=>
   intro hb4 hK;refine mi ?_ (hbw:=by exact hb4);refine mi ?_ (hbw:=by exact hb4);exact hK [_,_] rfl
  refine go 2 ?_;refine v5 (fun h3=>?_) (fun h3=>?_)
  ·(try simp only[du,Int.reduceEq,Int.reduceNe,Int.reduceLT,Int.reduceLE,bE,eG,RS.fail] at h3)
   refine kc 3 [4,3,0] 10 ?_;refine v5 (fun h5=>?_) (fun h5=>?_)
   ·simp only[du,Int.reduceEq,Int.reduceNe,Int.reduceLT,Int.reduceLE,bE,eG,RS.fail] at h5
   (try simp only[du,Int.reduceEq,Int.reduceNe,Int.reduceLT,Int.reduceLE,bE,eG,RS.fail] at h5);refine kc 0 [] 7 ?_;refine sZ [0] [iB s ⟨p,some a⟩] ?_
   ·unfold cW;simp only;split<;>exact⟨rfl,rfl⟩
  (try simp only[du,Int.reduceEq,Int.reduceNe,Int.reduceLT,Int.reduceLE,bE,eG,RS.fail] at h3);refine kc 0 [4,3,0] 3 ?_;refine oc (ck uS rfl rfl (eK s (bd s p).2.1 ⟨p,some a⟩) [0] rfl (bj .nil) (an (an .nil)) ?_);refine go 13 ?_;refine v5 (fun h5=>?_) (fun h5=>?_)
  ·simp only[du,Int.reduceEq,Int.reduceNe,Int.reduceLT,Int.reduceLE,bE,eG,RS.fail] at h5
  (try simp only[du,Int.reduceEq,Int.reduceNe,Int.reduceLT,Int.reduceLE,bE,eG,RS.fail] at h5);refine kc 0 [] 7 ?_;refine sZ [0] [iB s ⟨p,some a⟩] ?_
  ·unfold cW;simp only;split<;>exact⟨rfl,rfl⟩
theorem vn(t:ByteArray)(h5:t.size≤5)(hd:uW t):cD Tryz.prog gl 90 [.v (.string t)] (· =.v (.int .i64 (ll t t.size))):=by
 refine bD Tryz.func90 Tryz.ntmps90 ?_;refine kc 17 [4,3,0] 0 ?_;refine lP (ι:=Nat) (fun i=>[(4,int i),(3,int (ll t i))]) [0] (fun i=>i≤t.size) (fun i=>t.size-i) (0) rfl ?I1 ?M1 ?H1
 case I1=>
  exact Nat.zero_le _
 case M1=>
  exact mz
 case H1=>
  rintro i hinv
  try dsimp only at hinv
  refine kc 0 [4,3,0] 9 ?_;refine cJ (fun h3=>?_) (fun h3=>?_)
  ·refine kc 5 [3] 7 ?_;refine ez ?_;have hi:i=t.size:=by omega
   subst hi;rfl
  refine kc 4 [4,3,0] 0 ?_;have hdi:=hd i (by omega);have hnb:=wZ hd i (by omega) (by omega);have hw:IntKind.wrap .i64 (Lj (bq t ((i:Nat):Int).toNat) 48)=bq t i-48:=by rw[Int.toNat_natCast,DX hdi];exact DM (by omega)
  refine gc 2 ?_;refine o1 (AZ rfl rfl rfl (by omega) ?_);refine go 2 ?_;refine o1 (Fs uY ?_);refine o1 (LP rfl rfl rfl ?_);refine o1 (Gs Rs RG rfl rfl ?_);refine o1 (cG ?_);refine ko 4 [3,4,0] 2 ?_;refine o1 (cG ?_);refine go 2 ?_;rw[hw];refine bi (i+1) rfl ?_ mz;exact⟨by omega,by omega⟩
end
end Go.Proofs.YtndbnldjidciiaaGreatDoor
