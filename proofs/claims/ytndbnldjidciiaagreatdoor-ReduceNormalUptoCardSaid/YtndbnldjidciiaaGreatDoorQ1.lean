/-
  What is proved here: lemmas of part 1, for the theorem of the last part.
-/
import Derived.WalkKit
import Derived.Carry
import Derived.MapKept
import Derived.Laws.IdiomRangeMap
import Derived.Great.BuildSlice
import Derived.Laws.AppendOwn
import Derived.Still
import Derived.KernelRfl
import Derived.LaidEqlPtr
import Derived.Laws.Externs
import Derived.Lib.Builder
import Derived.Lib.UnsafeStr
import Derived.Defers
import Derived.Recover
set_option linter.unusedSimpArgs false
set_option linter.unusedVariables false
set_option linter.unusedSectionVars false
namespace Go.Vd
open Go Go.RowKit
structure Fr (X:Nat→Prop) (w w':World):Prop where
 os:w'.os=w.os
 tape:w'.tape=w.tape
 output:w'.output=w.output
 size:w.heap.size≤w'.heap.size
 block:∀c,c<w.heap.size→¬X c→w'.heap[c]? =w.heap[c]?
theorem Fr.refl(X:Nat→Prop)(w:World):Fr X w w:=⟨rfl,rfl,rfl,Nat.le_refl _,fun _ _ _=>rfl⟩
variable {X Y:Nat→Prop} {a b:World}
theorem Fr.mono(h:Fr X a b)(hx:∀c,c<a.heap.size→X c→Y c):Fr Y a b:=
 ⟨h.os,h.tape,h.output,h.size,fun c hc hy=>h.block c hc (fun x=>hy (hx c hc x))⟩
theorem Fr.then{c:World}(h:Fr X a b)(k:Fr Y b c)(hy:∀i,Y i→X i∨a.heap.size≤i):Fr X a c:=
 ⟨k.os.trans h.os,k.tape.trans h.tape,k.output.trans h.output,Nat.le_trans h.size k.size,fun i hi hx=>
  (k.block i (Nat.lt_of_lt_of_le hi h.size) (fun hyi=>(hy i hyi).elim hx (fun hge=>absurd hi (by omega)))).trans (h.block i hi hx)⟩
theorem Fr.trans{X:Nat→Prop}{a b c:World}(h:Fr X a b)(k:Fr X b c):Fr X a c:=
 ⟨k.os.trans h.os,k.tape.trans h.tape,k.output.trans h.output,Nat.le_trans h.size k.size,
  fun i hi hx=>(k.block i (Nat.lt_of_lt_of_le hi h.size) hx).trans (h.block i hi hx)⟩
theorem Fr.alloc{X:Nat→Prop}{a b:World}(h:Fr X a b)(o:Obj):Fr X a (b.alloc o):=
 h.trans ⟨rfl,rfl,rfl,by simp,fun c hc _=>Below.heap_alloc b o c hc⟩
theorem Fr.drew{X:Nat→Prop}{a b:World}(h:Fr X a b):Fr X a b.drew:=⟨h.os,h.tape,h.output,h.size,h.block⟩
inductive D where
 |v (x:Value)
 |agg (l:List D)
 |bZ (l:List D)
 |sl (k:Nat) (l:List (List D))
 |cp (l:List D)
 |me (T:TypeId) (d:D)
abbrev Mem:=Nat→Nat→Option Value
mutual
def D.Den(m:Mem):D→Value→Prop
 | .v x,y=>y=x
 | .agg l,y=> ∃vs,y=.agg ⟨vs⟩∧dI m l vs
 | .bZ l,y=> ∃vs,y=.tuple ⟨vs⟩∧dI m l vs
 | .sl k ls,y=> ∃a cap,y=.slice a ls.length cap∧ls.length≤cap∧(ls≠[]→∃b off,a=some ⟨b,off,none⟩∧ey m k b off ls)
 | .cp l,y=> ∃b off,y=.pointer (some ⟨b,off,none⟩)∧eX m b off l
 | .me T d,y=> ∃x,y=.iface T x∧d.Den m x
def dI(m:Mem):List D→List Value→Prop
 |[],l=>l=[]
 |d::r,l=> ∃x l',l=x::l'∧d.Den m x∧dI m r l'
def eX(m:Mem)(b:Nat):Nat→List D→Prop
 |_,[]=>True
 |off,d::r=>(∃ x,m b off=some x∧d.Den m x)∧eX m b (off+1) r
def ey(m:Mem)(k:Nat)(b:Nat):Nat→List (List D)→Prop
 |_,[]=>True
 |off,e::r=>(e.length=k∧eX m b off e)∧ey m k b (off+k) r
end
def fP(m m':Mem):Prop:= ∀b o x,m b o=some x→m' b o=some x
theorem fP.refl(m:Mem):fP m m:=fun _ _ _ h=>h
theorem fP.trans{a b c:Mem}(h:fP a b)(k:fP b c):fP a c:=fun i o x hx=>k i o x (h i o x hx)
mutual
theorem D.Den.mono{m m':Mem}(hm:fP m m'):∀(d:D) {y:Value},d.Den m y→d.Den m' y
 | .v x,y,h=>h
 | .agg l,y,⟨vs,e,h⟩=>⟨vs,e,dI.mono hm l h⟩
 | .bZ l,y,⟨vs,e,h⟩=>⟨vs,e,dI.mono hm l h⟩
 | .sl k ls,y,⟨a,cap,e,hc,h⟩=>⟨a,cap,e,hc,fun hn=>by obtain⟨b,off,e2,h2⟩:=h hn;exact⟨b,off,e2,ey.mono hm ls h2⟩⟩
 | .cp l,y,⟨b,off,e,h⟩=>⟨b,off,e,eX.mono hm l h⟩
 | .me T d,y,⟨x,e,h⟩=>⟨x,e,D.Den.mono hm d h⟩
theorem dI.mono{m m':Mem}(hm:fP m m'):∀(l:List D) {vs:List Value},dI m l vs→dI m' l vs
 |[],_,h=>h
 |d::r,_,⟨x,l',e,h1,h2⟩=>⟨x,l',e,D.Den.mono hm d h1,dI.mono hm r h2⟩
theorem eX.mono{m m':Mem}(hm:fP m m'):∀(l:List D) {b off:Nat},eX m b off l→eX m' b off l
 |[],_,_,_=>trivial
 |d::r,_,_,⟨⟨x,h1,h2⟩,h3⟩=>⟨⟨x,hm _ _ _ h1,D.Den.mono hm d h2⟩,eX.mono hm r h3⟩
theorem ey.mono{m m':Mem}(hm:fP m m'){k:Nat}:∀(l:List (List D)) {b off:Nat},ey m k b off l→ey m' k b off l
 |[],_,_,_=>trivial
 |e::r,_,_,⟨⟨h0,h1⟩,h2⟩=>⟨⟨h0,eX.mono hm e h1⟩,ey.mono hm r h2⟩
end
theorem dI.length{m:Mem}:∀{l:List D} {vs:List Value},dI m l vs→vs.length=l.length
 |[],_,h=>by cases h;rfl
 |d::r,_,⟨x,l',e,_,h⟩=>by subst e;simp[dI.length h]
theorem dI.get{m:Mem}:∀{l:List D} {vs:List Value},dI m l vs→∀{i:Nat} {d:D},l[i]? =some d→∃x,vs[i]? =some x∧d.Den m x
 |[],_,_,i,d,h=>by simp at h
 |c::r,_,⟨x,l',e,hx,hl⟩,i,d,h=>by
  subst e;cases i with
  |zero=>simp at h;subst h;exact⟨x,by simp,hx⟩
  |succ i=>simp at h;simpa using dI.get hl h
theorem dI.append{m:Mem}:∀{l:List D} {vs:List Value},dI m l vs→∀{l2:List D} {vs2:List Value},dI m l2 vs2→dI m (l++l2) (vs++vs2)
 |[],_,h,_,_,h2=>by cases h;exact h2
 |d::r,_,⟨x,l',e,hx,hl⟩,_,_,h2=>by subst e;exact⟨x,l'++_,rfl,hx,dI.append hl h2⟩
theorem eX.drop{m:Mem}{b:Nat}:∀{l:List D} {off:Nat} (n:Nat),eX m b off l→eX m b (off+n) (l.drop n)
 |l,off,0,h=>by simpa using h
 |[],off,n+1,h=>by simp[eX]
 |c::r,off,n+1,⟨_,h⟩=>by
  have:=eX.drop n h
  rwa [show off+1+n=off+(n+1) by omega] at this
theorem eX.take{m:Mem}{b:Nat}:∀{l:List D} {off:Nat} (n:Nat),eX m b off l→eX m b off (l.take n)
 |l,off,0,h=>by simp[eX]
 |[],off,n+1,h=>by simp[eX]
 |c::r,off,n+1,⟨h1,h⟩=>⟨h1,eX.take n h⟩
theorem eX.G1{m:Mem}{b:Nat}:∀{l:List D} {off:Nat},eX m b off l→∃vs,dI m l vs∧∀i x,vs[i]? =some x→m b (off+i)=some x
 |[],off,_=>⟨[],rfl,by simp⟩
 |c::r,off,⟨⟨x,h1,h2⟩,h3⟩=>by
  obtain⟨vs,h4,h5⟩:=eX.G1 h3;refine⟨x::vs,⟨x,vs,rfl,h2,h4⟩,fun i y hy=>?_⟩;cases i with
  |zero=>simp at hy;subst hy;exact h1
  |succ i=>simp at hy;have:=h5 i y hy;rwa [show off+1+i=off+(i+1) by omega] at this
theorem eX.tA{m:Mem}{b:Nat}:∀{l:List D} {vs:List Value} {off:Nat},dI m l vs→(∀ i x,vs[i]? =some x→m b (off+i)=some x)→eX m b off l
 |[],_,_,_,_=>trivial
 |d::r,_,off,⟨x,l',e,h1,h2⟩,h=>by
  subst e;refine⟨⟨x,by simpa using h 0 x rfl,h1⟩,eX.tA h2 fun i y hy=>?_⟩;have:=h (i+1) y (by simpa using hy)
  rwa [show off+(i+1)=off+1+i by omega] at this
theorem ey.get{m:Mem}{k b:Nat}:∀{l:List (List D)} {off:Nat},ey m k b off l→∀{i:Nat} {e:List D},l[i]? =some e→e.length=k∧eX m b (off+i*k) e
 |[],_,_,i,e,h=>by simp at h
 |c::r,off,⟨h1,h2⟩,0,e,h=>by simp at h;subst h;simpa using h1
 |c::r,off,⟨h1,h2⟩,i+1,e,h=>by
  have:=ey.get h2 (i:=i) (e:=e) (by simpa using h)
  rwa [show off+k+i*k=off+(i+1)*k by rw[Nat.add_mul];omega] at this
theorem ey.drop{m:Mem}{k b:Nat}:∀{l:List (List D)} {off:Nat} (n:Nat),ey m k b off l→ey m k b (off+n*k) (l.drop n)
 |l,off,0,h=>by simpa using h
 |[],off,n+1,h=>by simp[ey]
 |c::r,off,n+1,⟨_,h⟩=>by
  have:=ey.drop n h
  rwa [show off+k+n*k=off+(n+1)*k by rw[Nat.add_mul];omega] at this
theorem ey.take{m:Mem}{k b:Nat}:∀{l:List (List D)} {off:Nat} (n:Nat),ey m k b off l→ey m k b off (l.take n)
 |l,off,0,h=>by simp[ey]
 |[],off,n+1,h=>by simp[ey]
 |c::r,off,n+1,⟨h1,h⟩=>⟨h1,ey.take n h⟩
theorem ey.append{m:Mem}{k b:Nat}:∀{l:List (List D)} {off:Nat},ey m k b off l→∀{l2:List (List D)},ey m k b (off+l.length*k) l2→ey m k b off (l++l2)
 |[],off,_,l2,h=>by simpa using h
 |c::r,off,⟨h1,h2⟩,l2,h=>⟨h1,ey.append h2 (by
  rwa [show off+k+r.length*k=off+(c::r).length*k by simp[Nat.add_mul];omega])⟩
inductive Pl where
 |loc (b:Nat)
 |row (b:Option Nat) (cap n:Nat)
structure Gh where
 m:Mem
 gs:List Pl
inductive SV where
 |d (x:D)
 |cb (i off:Nat)
 |agg (l:List SV)
 |bZ (l:List SV)
 |own (i k:Nat) (ls:List (List D))
 |fn (f:Fn) (first caps:List SV)
 |me (T:TypeId) (s:SV)
 |map (i:Nat)
 |rp (i:Nat)
 |arr (i n:Nat)
 |bp (i off:Nat)
 |yF (k:Nat) (ls:List (List D))
 |gG
mutual
def SV.Den(g:Gh):SV→Value→Prop
 | .d x,y=>x.Den g.m y
 | .cb i off,y=> ∃b,g.gs[i]? =some (.loc b)∧y=.pointer (some ⟨b,off,none⟩)
 | .agg l,y=> ∃vs,y=.agg ⟨vs⟩∧bC g l vs
 | .bZ l,y=> ∃vs,y=.tuple ⟨vs⟩∧bC g l vs
 | .own i k ls,y=> ∃b cap,g.gs[i]? =some (.row b cap ls.length)∧y=.slice (b.map fun b=>⟨b,0,none⟩) ls.length cap∧ls.length≤cap∧(ls≠[]→∃c,b=some c∧ey g.m k c 0 ls)
 | .fn f first caps,y=> ∃vs us,y=.func f ⟨vs⟩ ⟨us⟩∧bC g first vs∧bC g caps us
 | .me T s,y=> ∃x,y=.iface T x∧s.Den g x
 | .map i,y=> ∃b,g.gs[i]? =some (.loc b)∧y=.map (some b)
 | .rp i,y=> ∃b cap n,g.gs[i]? =some (.row (some b) cap n)∧y=.pointer (some ⟨b,0,none⟩)
 | .arr i n,y=> ∃b cap,g.gs[i]? =some (.row b cap n)∧y=.slice (b.map fun b=>⟨b,0,none⟩) n cap
 | .bp i off,y=> ∃b cap n,g.gs[i]? =some (.row (some b) cap n)∧y=.pointer (some ⟨b,off,none⟩)
 | .yF k ls,y=> ∃a,y=.slice a ls.length ls.length∧(ls≠[]→∃b off,a=some ⟨b,off,none⟩∧ey g.m k b off ls)
 | .gG,_=>True
def bC(g:Gh):List SV→List Value→Prop
 |[],l=>l=[]
 |s::r,l=> ∃x l',l=x::l'∧s.Den g x∧bC g r l'
end
theorem bC.length{g:Gh}:∀{l:List SV} {vs:List Value},bC g l vs→vs.length=l.length
 |[],_,h=>by cases h;rfl
 |d::r,_,⟨x,l',e,_,h⟩=>by subst e;simp[bC.length h]
theorem bC.get{g:Gh}:∀{l:List SV} {vs:List Value},bC g l vs→∀{i:Nat} {d:SV},l[i]? =some d→∃x,vs[i]? =some x∧d.Den g x
 |[],_,_,i,d,h=>by simp at h
 |c::r,_,⟨x,l',e,hx,hl⟩,i,d,h=>by
  subst e;cases i with
  |zero=>simp at h;subst h;exact⟨x,by simp,hx⟩
  |succ i=>simp at h;simpa using bC.get hl h
theorem bC.take{g:Gh}:∀{cs:List SV} {l:List Value},bC g cs l→∀n,bC g (cs.take n) (l.take n)
 |[],_,d,n=>by cases d;simp[bC]
 |c::r,_,⟨y,l',e,dy,dl⟩,n=>by
  subst e;cases n with
  |zero=>simp[bC]
  |succ n=>exact⟨y,l'.take n,by simp,dy,bC.take dl n⟩
theorem bC.drop{g:Gh}:∀{cs:List SV} {l:List Value},bC g cs l→∀n,bC g (cs.drop n) (l.drop n)
 |[],_,d,n=>by cases d;simp[bC]
 |c::r,_,⟨y,l',e,dy,dl⟩,n=>by
  subst e;cases n with
  |zero=>exact⟨y,l',rfl,dy,dl⟩
  |succ n=>simpa using bC.drop dl n
theorem bC.append{g:Gh}:∀{cs:List SV} {l:List Value},bC g cs l→∀{ds:List SV} {m:List Value},bC g ds m→bC g (cs++ds) (l++m)
 |[],_,d,ds,m,dm=>by cases d;simpa using dm
 |c::r,_,⟨y,l',e,dy,dl⟩,ds,m,dm=>by subst e;exact⟨y,l'++m,rfl,dy,bC.append dl dm⟩
theorem bC.QW{g:Gh}:∀{l:List D} {vs:List Value},dI g.m l vs→bC g (l.map SV.d) vs
 |[],_,h=>h
 |d::r,_,⟨x,l',e,h1,h2⟩=>⟨x,l',e,h1,bC.QW h2⟩
theorem bC.Qx{g:Gh}:∀(l:List Value),bC g (l.map fun x=>SV.d (.v x)) l
 |[]=>rfl
 |x::r=>⟨x,r,rfl,rfl,bC.Qx r⟩
structure K7 (g g':Gh):Prop where
 m:fP g.m g'.m
 gs:∀(i:Nat) p,g.gs[i]? =some p→g'.gs[i]? =some p
theorem K7.refl(g:Gh):K7 g g:=⟨fP.refl _,fun _ _ h=>h⟩
mutual
theorem SV.Den.mono{g g':Gh}(h:K7 g g'):∀(s:SV) {y:Value},s.Den g y→s.Den g' y
 | .d x,y,hd=>D.Den.mono h.m x hd
 | .cb i off,y,⟨b,hb,e⟩=>⟨b,h.gs _ _ hb,e⟩
 | .agg l,y,⟨vs,e,hd⟩=>⟨vs,e,bC.mono h l hd⟩
 | .bZ l,y,⟨vs,e,hd⟩=>⟨vs,e,bC.mono h l hd⟩
 | .own i k ls,y,⟨b,cap,hb,e,hc,hd⟩=>⟨b,cap,h.gs _ _ hb,e,hc,fun hn=>by obtain⟨c,e2,h2⟩:=hd hn;exact⟨c,e2,ey.mono h.m ls h2⟩⟩
 | .fn f first caps,y,⟨vs,us,e,h1,h2⟩=>⟨vs,us,e,bC.mono h first h1,bC.mono h caps h2⟩
 | .me T s,y,⟨x,e,hd⟩=>⟨x,e,SV.Den.mono h s hd⟩
 | .map i,y,⟨b,hb,e⟩=>⟨b,h.gs _ _ hb,e⟩
 | .rp i,y,⟨b,cap,n,hb,e⟩=>⟨b,cap,n,h.gs _ _ hb,e⟩
 | .arr i n,y,⟨b,cap,hb,e⟩=>⟨b,cap,h.gs _ _ hb,e⟩
 | .bp i off,y,⟨b,cap,n,hb,e⟩=>⟨b,cap,n,h.gs _ _ hb,e⟩
 | .yF k ls,y,⟨a,e,hd⟩=>⟨a,e,fun hn=>by obtain⟨b,off,e2,h2⟩:=hd hn;exact⟨b,off,e2,ey.mono h.m ls h2⟩⟩
 | .gG,_,_=>trivial
theorem bC.mono{g g':Gh}(h:K7 g g'):∀(l:List SV) {vs:List Value},bC g l vs→bC g' l vs
 |[],_,hd=>hd
 |s::r,_,⟨x,l',e,h1,h2⟩=>⟨x,l',e,SV.Den.mono h s h1,bC.mono h r h2⟩
end
variable {g:Gh} {k:Nat} {y:Value}
theorem NW{ls:List (List D)}(h:(SV.yF k ls).Den g y):(D.sl k ls).Den g.m y:=by
 obtain⟨a,e,hd⟩:=h;exact⟨a,_,e,Nat.le_refl _,hd⟩
theorem wT{i:Nat}{ls:List (List D)}(h:(SV.own i k ls).Den g y):(D.sl k ls).Den g.m y:=by
 obtain⟨b,cap,hb,e,hc,hd⟩:=h;exact⟨_,cap,e,hc,fun hn=>by obtain⟨c,e2,h2⟩:=hd hn;subst e2;exact⟨c,0,rfl,h2⟩⟩
mutual
def SV.kill(p:Nat→Bool):SV→SV
 | .own i k ls=>cond (p i) (.d (.sl k ls)) (.own i k ls)
 | .agg l=>.agg (jS p l)
 | .bZ l=>.bZ (jS p l)
 | .fn f first caps=>.fn f (jS p first) (jS p caps)
 | .me T s=>.me T (s.kill p)
 | .d x=>.d x
 | .cb i off=>.cb i off
 | .map i=>.map i
 | .rp i=>cond (p i) .gG (.rp i)
 | .arr i n=>cond (p i) .gG (.arr i n)
 | .bp i off=>cond (p i) .gG (.bp i off)
 | .yF k ls=>.yF k ls
 | .gG=>.gG
def jS(p:Nat→Bool):List SV→List SV
 |[]=>[]
 |s::r=>s.kill p::jS p r
end
structure Nj (p:Nat→Bool) (g g':Gh):Prop where
 m:fP g.m g'.m
 gs:∀(i:Nat) q,g.gs[i]? =some q→p i=false→g'.gs[i]? =some q
 at':∀(i b:Nat),g.gs[i]? =some (.loc b)→g'.gs[i]? =some (.loc b)
mutual
theorem SV.Den.kill{p:Nat→Bool}{g g':Gh}(h:Nj p g g'):∀(s:SV) {y:Value},s.Den g y→(s.kill p).Den g' y
 | .d x,y,hd=>D.Den.mono h.m x hd
 | .cb i off,y,⟨b,hb,e⟩=>⟨b,h.at' _ _ hb,e⟩
 | .agg l,y,⟨vs,e,hd⟩=>⟨vs,e,bC.kill h l hd⟩
 | .bZ l,y,⟨vs,e,hd⟩=>⟨vs,e,bC.kill h l hd⟩
 | .own i k ls,y,hd=>by
  unfold SV.kill;cases hp:p i with
  |true=>exact D.Den.mono h.m _ (wT hd)
  |false=>
   obtain⟨b,cap,hb,e,hc,hd⟩:=hd;exact⟨b,cap,h.gs _ _ hb hp,e,hc,fun hn=>by obtain⟨c,e2,h2⟩:=hd hn;exact⟨c,e2,ey.mono h.m ls h2⟩⟩
 | .fn f first caps,y,⟨vs,us,e,h1,h2⟩=>⟨vs,us,e,bC.kill h first h1,bC.kill h caps h2⟩
 | .me T s,y,⟨x,e,hd⟩=>⟨x,e,SV.Den.kill h s hd⟩
 | .map i,y,⟨b,hb,e⟩=>⟨b,h.at' _ _ hb,e⟩
 | .rp i,y,hd=>by
  unfold SV.kill;cases hp:p i with
  |true=>trivial
  |false=>obtain⟨b,cap,n,hb,e⟩:=hd;exact⟨b,cap,n,h.gs _ _ hb hp,e⟩
 | .arr i n,y,hd=>by
  unfold SV.kill;cases hp:p i with
  |true=>trivial
  |false=>obtain⟨b,cap,hb,e⟩:=hd;exact⟨b,cap,h.gs _ _ hb hp,e⟩
 | .bp i off,y,hd=>by
  unfold SV.kill;cases hp:p i with
  |true=>trivial
  |false=>obtain⟨b,cap,n,hb,e⟩:=hd;exact⟨b,cap,n,h.gs _ _ hb hp,e⟩
 | .yF k ls,y,⟨a,e,hd⟩=>⟨a,e,fun hn=>by obtain⟨b,off,e2,h2⟩:=hd hn;exact⟨b,off,e2,ey.mono h.m ls h2⟩⟩
 | .gG,_,_=>trivial
theorem bC.kill{p:Nat→Bool}{g g':Gh}(h:Nj p g g'):∀(l:List SV) {vs:List Value},bC g l vs→bC g' (jS p l) vs
 |[],_,hd=>hd
 |s::r,_,⟨x,l',e,h1,h2⟩=>⟨x,l',e,SV.Den.kill h s h1,bC.kill h r h2⟩
end
mutual
def SV.gW:SV→Option D
 | .d x=>some x
 | .agg l=>(ub l).bind fun l'=>some (.agg l')
 | .bZ l=>(ub l).bind fun l'=>some (.bZ l')
 | .own _ k ls=>some (.sl k ls)
 | .yF k ls=>some (.sl k ls)
 | .me T s=>s.gW.bind fun d=>some (.me T d)
 |_=>none
def ub:List SV→Option (List D)
 |[]=>some []
 |s::r=>s.gW.bind fun d=>(ub r).bind fun l=>some (d::l)
end
mutual
theorem SV.Den.gW{g:Gh}:∀(s:SV) {y:Value} {x:D},s.Den g y→s.gW=some x→x.Den g.m y
 | .d x,y,x',hd,h=>by simp[SV.gW] at h;subst h;exact hd
 | .agg l,y,x,⟨vs,e,hd⟩,h=>by
  simp only[SV.gW,Option.bind_eq_some_iff,Option.some.injEq] at h;obtain⟨l',hl,rfl⟩:=h;exact⟨vs,e,bC.gW l hd hl⟩
 | .bZ l,y,x,⟨vs,e,hd⟩,h=>by
  simp only[SV.gW,Option.bind_eq_some_iff,Option.some.injEq] at h;obtain⟨l',hl,rfl⟩:=h;exact⟨vs,e,bC.gW l hd hl⟩
 | .own i k ls,y,x,hd,h=>by simp[SV.gW] at h;subst h;exact wT hd
 | .yF k ls,y,x,hd,h=>by simp[SV.gW] at h;subst h;exact NW hd
 | .me T s,y,x,⟨z,e,hd⟩,h=>by
  simp only[SV.gW,Option.bind_eq_some_iff,Option.some.injEq] at h;obtain⟨d,hd',rfl⟩:=h;exact⟨z,e,SV.Den.gW s hd hd'⟩
 | .cb _ _,_,_,_,h=>by simp[SV.gW] at h
 | .fn _ _ _,_,_,_,h=>by simp[SV.gW] at h
 | .map _,_,_,_,h=>by simp[SV.gW] at h
 | .rp _,_,_,_,h=>by simp[SV.gW] at h
 | .arr _ _,_,_,_,h=>by simp[SV.gW] at h
 | .bp _ _,_,_,_,h=>by simp[SV.gW] at h
 | .gG,_,_,_,h=>by simp[SV.gW] at h
theorem bC.gW{g:Gh}:∀(l:List SV) {vs:List Value} {ds:List D},bC g l vs→ub l=some ds→dI g.m ds vs
 |[],vs,ds,hd,h=>by simp[ub] at h;subst h;exact hd
 |s::r,vs,ds,⟨x,l',e,h1,h2⟩,h=>by
  simp only[ub,Option.bind_eq_some_iff,Option.some.injEq] at h;obtain⟨d,hd,l2,hl2,rfl⟩:=h;exact⟨x,l',e,SV.Den.gW s h1 hd,bC.gW r h2 hl2⟩
end
inductive Ob where
 |cells (l:List SV) (ty:TypeId)
 |row (e:TypeId) (k:Nat)
 |bX (e:TypeId) (k:Nat)
 |buf (e:TypeId) (k:Nat) (ls:List (List D)) (q:Option (Option Nat×Nat))
 |fK (f:ByteArray→Option Int)
 |cV (f:ByteArray→Option D)
 |iI (own:Nat→Prop) (ok:Mem→World→Prop)
 |jM (i:Nat) (f:ByteArray→Option Int) (dn:List (ByteArray×Int)) (cur:Option (ByteArray×Int))
 |dead
end Go.Vd
namespace Go.Vd
open Go Go.RowKit Go.MapKept
def Ak(w:World)(b:Nat)(M:ByteArray→Option Int):Prop:=
 ∃es clock,w.heap[b]? =some (.map es clock)∧Stamped es clock∧(∀ e∈es.toList,∃s n,e.key=.string s∧e.val=.int .i64 n)∧
  ∀s n,M s=some n↔ ∃e∈es.toList,e.key=.string s∧e.val=.int .i64 n
theorem Ak.lt{w:World}{b:Nat}{M:ByteArray→Option Int}(h:Ak w b M):b<w.heap.size:=by
 obtain⟨es,clock,hb,_⟩:=h;exact(Array.getElem?_eq_some_iff.1 hb).1
variable {w':World}
theorem Ak.qf{w:World}{b:Nat}{M:ByteArray→Option Int}(h:Ak w b M)(k:w'.heap[b]? =w.heap[b]?):Ak w' b M:=by
 obtain⟨es,clock,hb,r⟩:=h;exact⟨es,clock,k.trans hb,r⟩
section
variable {P:Program} {w:World} {b:Nat} {M:ByteArray→Option Int} {t k e:TypeId}
theorem J7{X:Nat→Prop}{w:World}{b:Nat}{o:Obj}(hx:X b):Fr X w { w with heap:=w.heap.setIfInBounds b o }:=
 ⟨rfl,rfl,rfl,by simp,fun c _ hc=>by simp[show ¬b=c from fun e=>hc (e▸hx)]⟩
def II(w:World)(it b:Nat)(M:ByteArray→Option Int)(dn:List (ByteArray×Int))(k:Nat):Prop:=
 ∃es clock seen,w.heap[it]? =some (.mapIter (some b) clock seen clock)∧w.heap[b]? =some (.map es clock)∧Stamped es clock∧(∀ e∈es.toList,∃s n,e.key=.string s∧e.val=.int .i64 n)∧
  (∀ s n,M s=some n↔ ∃e∈es.toList,e.key=.string s∧e.val=.int .i64 n)∧(leftOf es seen).size=k∧
  ∀s n,(s,n)∈dn↔ ∃e∈es.toList,e.key=.string s∧e.val=.int .i64 n∧seen.contains e.born=true
def Rq(w:World)(it b:Nat)(s:ByteArray)(n:Int):Prop:=
 ∃(es:Array MapEntry) (clock:Nat) (seen:Array Nat) (e:MapEntry),w.heap[it]? =some (.mapIter (some b) clock (seen.push e.born) clock)∧w.heap[b]? =some (.map es clock)∧Stamped es clock∧e∈es.toList∧e.key=.string s∧e.val=.int .i64 n
variable {it:Nat}
theorem II.qf{dn:List (ByteArray×Int)}{k:Nat}(h:II w it b M dn k)(h1:w'.heap[it]? =w.heap[it]?)(h2:w'.heap[b]? =w.heap[b]?):II w' it b M dn k:=by
 obtain⟨es,clock,seen,a,c,r⟩:=h;exact⟨es,clock,seen,h1.trans a,h2.trans c,r⟩
theorem II.lt{dn:List (ByteArray×Int)}{k:Nat}(h:II w it b M dn k):it<w.heap.size∧b<w.heap.size:=by
 obtain⟨es,clock,seen,a,c,r⟩:=h;exact⟨(Array.getElem?_eq_some_iff.1 a).1,(Array.getElem?_eq_some_iff.1 c).1⟩
end
end Go.Vd
namespace Go.Vd
open Go Go.RowKit Go.MapKept
def nD(w:World)(b:Nat)(M:ByteArray→Option Value):Prop:=
 ∃es clock,w.heap[b]? =some (.map es clock)∧Stamped es clock∧(∀ e∈es.toList,∃s,e.key=.string s)∧
  ∀s v,M s=some v↔ ∃e∈es.toList,e.key=.string s∧e.val=v
def IN(M:ByteArray→Option Value)(s:ByteArray)(v:Value):ByteArray→Option Value:=fun t=>if t=s then some v else M t
theorem nD.lt{w:World}{b:Nat}{M:ByteArray→Option Value}(h:nD w b M):b<w.heap.size:=by
 obtain⟨es,clock,hb,_⟩:=h;exact(Array.getElem?_eq_some_iff.1 hb).1
theorem nD.qf{w w':World}{b:Nat}{M:ByteArray→Option Value}(h:nD w b M)(k:w'.heap[b]? =w.heap[b]?):nD w' b M:=by
 obtain⟨es,clock,hb,r⟩:=h;exact⟨es,clock,k.trans hb,r⟩
theorem nD.made(w:World):nD (w.alloc (.map #[] 0)) w.heap.size fun _=>none:=
 ⟨#[],0,(MapKept.heap_alloc w _).1,stamped_empty 0,by simp,by simp⟩
section
variable {P:Program} {w:World} {b:Nat} {M:ByteArray→Option Value} {t k e:TypeId}
theorem Au{z:Value}(hz:(P.info? e).bind (·.zero)=some z):(zeroValue e).run P w=.ok z w:=by
 cases hi:P.info? e with
 |none=>simp[hi] at hz
 |some i=>
  rw[hi] at hz;simp only[Option.bind_some] at hz;simp[zeroValue,typeInfo,hi,hz,Result.andThen]
theorem nD.lookup(h:nD w b M)(ht:P.underlying t=some (.map k e))(hk:P.underlying k=some .string){z:Value}(hz:(P.info? e).bind (·.zero)=some z)(s:ByteArray):
 (Instr.lookup t (.map (some b)) (.string s) false).run P w=.ok ((M s).getD z) w:=by
 obtain⟨es,clock,hb,hs,hks,hM⟩:=h;have hkey:IsKey .string (.string s):=trivial;have hall:∀x∈es.toList,IsKey .string x.key:=fun x hx=>by obtain⟨s',h1⟩:=hks x hx;rw[h1];trivial
 rcases findNow_spec hkey es.toList 0 hall with⟨h1,h2⟩|⟨j,e0,h1,h2,h3⟩
 ·have:M s=none:=by
   cases hm:M s with
   |none=>rfl
   |some n=>obtain⟨x,hx,hxk,_⟩:=(hM s n).1 hm;exact absurd hxk (h2 x hx)
  rw[this];simp[Instr.lookup,run_underlying ht,MapKept.run_getObj_map hb,run_checkKey hk hkey,run_findKey hk h1,Au hz,Result.andThen]
 ·have hm:=List.mem_of_getElem? h2;have:M s=some e0.val:=(hM s _).2 ⟨e0,hm,h3,rfl⟩;rw[this];simp[Instr.lookup,run_underlying ht,MapKept.run_getObj_map hb,run_checkKey hk hkey,run_findKey hk h1,Result.andThen]
theorem nD.update(h:nD w b M)(ht:P.underlying t=some (.map k e))(hk:P.underlying k=some .string)(s:ByteArray)(v:Value):
 ∃w',(Instr.mapUpdate t (.map (some b)) (.string s) v).run P w=.ok () w'∧nD w' b (IN M s v)∧Fr (fun c=>c=b) w w':=by
 obtain⟨es,clock,hb,hs,hks,hM⟩:=h;have hkey:IsKey .string (.string s):=trivial;have hall:∀x∈es.toList,IsKey .string x.key:=fun x hx=>by obtain⟨s',h1⟩:=hks x hx;rw[h1];trivial
 rcases findNow_spec hkey es.toList 0 hall with⟨h1,h2⟩|⟨j,e0,h1,h2,h3⟩
 ·refine ⟨{ w with heap:=w.heap.setIfInBounds b (.map (es.push { key:=.string s,val:=v,born:=clock }) (clock+1)) },?_,⟨_,_,(heap_set hb).1,stamped_push hs h2,?_,?_⟩,J7 rfl⟩
  ·simp [Instr.mapUpdate,run_underlying ht,MapKept.run_getObj_map hb,run_checkKey hk hkey,run_findKey hk h1,MapKept.run_setObj_map _ hb,Result.andThen]
  ·intro x hx;simp only[Array.toList_push,List.mem_append,List.mem_singleton] at hx;rcases hx with hx|rfl
   ·exact hks x hx
   ·exact ⟨s,rfl⟩
  ·intro s' n';simp only[Array.toList_push,List.mem_append,List.mem_singleton,IN];by_cases he:s'=s
   ·subst he;rw[if_pos rfl];constructor
    ·intro hh;cases hh;exact⟨_,.inr rfl,rfl,rfl⟩
    ·rintro ⟨x,hx|rfl,hk1,hv1⟩
     ·exact absurd hk1 (h2 x hx)
     ·simp at hv1;rw[hv1]
   ·rw [if_neg he,hM];constructor
    ·rintro ⟨x,hx,hr⟩;exact⟨x,.inl hx,hr⟩
    ·rintro ⟨x,hx|rfl,hk1,hv1⟩
     ·exact ⟨x,hx,hk1,hv1⟩
     ·simp at hk1;exact absurd hk1.symm he
 ·have hj:es[j]? =some e0:=by simpa using h2
  have hkk:∀e',es[j]? =some e'→({ e' with key:=.string s,val:=v }:MapEntry).key=e'.key:=fun e' he'=>by rw[hj] at he';cases he';exact h3.symm
  have hmm:∀x,x∈(es.modify j fun e=>{ e with key:=.string s,val:=v }).toList↔(x∈es.toList∧x.key≠ .string s)∨x={ e0 with key:=.string s,val:=v }:=by
   intro x;have hjl:j<es.size:=(Array.getElem?_eq_some_iff.1 hj).1;constructor
   ·intro hx;obtain⟨i,hi⟩:=List.mem_iff_getElem?.1 hx;rw[Array.getElem?_toList,Array.getElem?_modify] at hi;by_cases hij:j=i
    ·subst hij;rw[if_pos rfl,hj] at hi;simp at hi;exact .inr hi.symm
    ·rw [if_neg hij] at hi;have hxm:x∈es.toList:=Array.mem_toList_iff.2 (Array.mem_of_getElem? hi);refine .inl ⟨hxm,fun hk1=>hij ?_⟩;have hnd:=hs.2.2;have e1:(es.toList.map (·.key))[j]? =some (.string s):=by simp[hj,h3]
     have e2:(es.toList.map (·.key))[i]? =some (.string s):=by simp[hi,hk1]
     exact(List.getElem?_inj (by simpa using hjl) hnd).1 (e1.trans e2.symm)
   ·rintro (⟨hx,hk1⟩|rfl)
    ·obtain ⟨i,hi⟩:=List.mem_iff_getElem?.1 hx;refine List.mem_iff_getElem?.2 ⟨i,?_⟩;rw[Array.getElem?_toList,Array.getElem?_modify];have hij:¬j=i:=fun e=>by subst e;rw[h2] at hi;cases hi;exact hk1 h3
     rw[if_neg hij];simpa using hi
    ·refine List.mem_iff_getElem?.2 ⟨j,?_⟩;rw[Array.getElem?_toList,Array.getElem?_modify,if_pos rfl,hj];rfl
  refine⟨{ w with heap:=w.heap.setIfInBounds b (.map (es.modify j fun e=>{ e with key:=.string s,val:=v }) clock) },?_,⟨_,_,(heap_set hb).1,stamped_modify hs _ _ (fun _ _=>rfl) (fun e' _ he'=>hkk e' he'),?_,?_⟩,J7 rfl⟩
  ·simp [Instr.mapUpdate,run_underlying ht,MapKept.run_getObj_map hb,run_checkKey hk hkey,run_findKey hk h1,hj,h3,run_keyThatStays hkey,MapKept.run_setObj_map _ hb,Result.andThen]
  ·intro x hx;rcases(hmm x).1 hx with⟨h,_⟩|rfl
   ·exact hks x h
   ·exact ⟨s,rfl⟩
  ·intro s' n';simp only[IN];by_cases he:s'=s
   ·subst he;rw[if_pos rfl];constructor
    ·intro hh;cases hh;exact⟨_,(hmm _).2 (.inr rfl),rfl,rfl⟩
    ·rintro ⟨x,hx,hk1,hv1⟩;rcases(hmm x).1 hx with⟨_,h⟩|rfl
     ·exact absurd hk1 h
     ·simp at hv1;rw[hv1]
   ·rw [if_neg he,hM];constructor
    ·rintro ⟨x,hx,hk1,hv1⟩;exact⟨x,(hmm x).2 (.inl ⟨hx,by rw[hk1];simpa using he⟩),hk1,hv1⟩
    ·rintro ⟨x,hx,hk1,hv1⟩;rcases(hmm x).1 hx with⟨h,_⟩|rfl
     ·exact ⟨x,h,hk1,hv1⟩
     ·simp at hk1;exact absurd hk1.symm he
end
end Go.Vd
namespace Go.Vd
open Go Go.RowKit
def dU:Ob→Pl→Option Nat
 | .cells _ _,.loc b=>some b
 | .fK _,.loc b=>some b
 | .cV _,.loc b=>some b
 | .jM _ _ _ _,.loc b=>some b
 | .row _ _,.row b _ _=>b
 | .buf _ _ _ _,.row b _ _=>b
 |_,_=>none
def cP:Ob→Pl→Nat→Prop
 | .iI own _,_,b=>own b
 |o,p,b=>dU o p=some b
variable {p:Pl} {b:Nat}
theorem Hl{own:Nat→Prop}{ok:Mem→World→Prop}:cP (.iI own ok) p b↔own b:=by cases p<;>exact Iff.rfl
variable {o:Ob}
theorem eP(h:dU o p=some b):cP o p b:=by
 cases o<;>first|exact h|(cases p<;>cases h)
theorem Ck{c:Nat}(h:dU o p=some b)(hc:cP o p c):c=b:=by
 cases o<;>first|(have h2:dU _ p=some c:=hc;rw[h] at h2;cases h2;rfl)|(cases p<;>cases h)
theorem Lu(hn:∀own ok,o≠ .iI own ok)(h:cP o p b):dU o p=some b:=by
 cases o<;>first|exact h|exact absurd rfl (hn _ _)
def yg(m:Mem)(f:ByteArray→Option D)(M:ByteArray→Option Value):Prop:= ∀s,match f s with
 |none=>M s=none
 |some d=> ∃v,M s=some v∧d.Den m v
theorem yg.mono{m m':Mem}{f:ByteArray→Option D}{M:ByteArray→Option Value}(hm:fP m m')(h:yg m f M):yg m' f M:=fun s=>by
 have h1:=h s;cases hf:f s with
 |none=>rw[hf] at h1;exact h1
 |some d=>rw[hf] at h1;obtain⟨v,h2,h3⟩:=h1;exact⟨v,h2,D.Den.mono hm d h3⟩
def eS(g:Gh)(w:World):Ob→Pl→Prop
 | .cells l ty,.loc b=> ∃vs,w.heap[b]? =some (.cells ⟨vs⟩ ty (0,0))∧bC g l vs∧∀o,g.m b o=none
 | .row e k,.row b cap n=>(∃ xs,w.ownsRow 0 e k (.slice (b.map fun c=>⟨c,0,none⟩) n cap) n xs)∧∀c,b=some c→∀o,n*k≤o→g.m c o=none
 | .bX _ _,p=>p=.row none 0 0
 | .buf e k ls q,.row b cap n=>n=ls.length∧(∀ x∈ls,x.length=k)∧(∃ xs,w.ownsRow 0 e k (.slice (b.map fun c=>⟨c,0,none⟩) n cap) n xs∧dI g.m ls.flatten xs∧∀u∈xs,u.oneCell'=true)∧(∀ c,b=some c→∀o,g.m c o=none)∧∀r,q=some r→r=(b,cap)
 | .fK f,.loc b=>Ak w b f∧∀o,g.m b o=none
 | .cV f,.loc b=>(∃ M,nD w b M∧yg g.m f M)∧∀o,g.m b o=none
 | .iI own ok,_=>ok g.m w∧(∀ b,own b→b<w.heap.size)∧∀m m' w w',fP m m'→(∀ b,own b→w'.heap[b]? =w.heap[b]?)→(∀ b,own b→∀i,m b i=none→m' b i=none)→ok m w→ok m' w'
 | .jM i f dn cur,.loc b=> ∃c,g.gs[i]? =some (.loc c)∧(∃ k,II w b c f dn k)∧(∀ s n,cur=some (s,n)→Rq w b c s n)∧∀o,g.m b o=none
 | .dead,_=>True
 |_,_=>False
def O3(g:Gh)(o:Ob)(p:Pl)(b:Nat):Prop:=cP o p b∨∃i f dn cur,o=.jM i f dn cur∧g.gs[i]? =some (.loc b)
structure cX (GL:Nat→List D) (ob:List Ob) (g:Gh) (w:World):Prop where
 len:ob.length=g.gs.length
 gX:∀(i:Nat) o p,ob[i]? =some o→g.gs[i]? =some p→eS g w o p
 eD:∀(j i:Nat) f dn cur,ob[j]? =some (.jM i f dn cur)→ob[i]? =some (.fK f)
 oz:∀(i j:Nat) oi oj pi pj b,ob[i]? =some oi→ob[j]? =some oj→g.gs[i]? =some pi→g.gs[j]? =some pj→cP oi pi b→cP oj pj b→i=j
 sat:∀b o x,g.m b o=some x→w.cell? ⟨b,o,none⟩=some x∧x.oneCell'=true
 ET:∀b,eX g.m b 0 (GL b)
variable {GL:Nat→List D} {ob:List Ob} {g:Gh} {w:World}
theorem cX.place(h:cX GL ob g w){i:Nat}(hi:ob[i]? =some o):∃p,g.gs[i]? =some p:=by
 have h1:=(List.getElem?_eq_some_iff.1 hi).1;rw[h.len] at h1;exact⟨_,List.getElem?_eq_getElem h1⟩
def iV(g g':Gh):Ob→Ob→Prop
 | .cells l ty,.cells l' ty'=>ty=ty'∧∀vs,bC g l vs→bC g' l' vs
 | .bX e k,.row e' k'=>e=e'∧k=k'
 | .dead,.dead=>True
 |_,.dead=>True
 | .row e k,.row e' k'=>e=e'∧k=k'
 | .bX e k,.bX e' k'=>e=e'∧k=k'
 | .buf e k ls q,.buf e' k' ls' q'=>e=e'∧k=k'∧ls=ls'∧q=q'∧∀vs,dI g.m ls.flatten vs→dI g'.m ls.flatten vs
 | .fK f,.fK f'=>f=f'
 | .cV f,.cV f'=>f=f'∧fP g.m g'.m
 | .iI o k,.iI o' k'=>o=o'∧k=k'∧fP g.m g'.m
 | .jM i f dn cur,.jM i' f' dn' cur'=>i=i'∧f=f'∧dn=dn'∧(cur=cur'∨cur'=none)
 |_,_=>False
variable {g':Gh}
theorem iV.cb{o':Ob}(h:iV g g' o o')(hb:cP o' p b)(hk:∀w,eS g w o p→True):cP o p b∨∃e k,o=.bX e k:=by
 cases o<;>cases o'<;>cases p<;>simp_all [iV,cP,dU]
theorem eS.lt{g:Gh}{w:World}{o:Ob}{p:Pl}{b:Nat}(h:eS g w o p)(hb:cP o p b):b<w.heap.size:=by
 by_cases hp:∃own ok,o=.iI own ok
 ·obtain ⟨own,ok,rfl⟩:=hp;cases p<;>exact h.2.1 b hb
 have hb:=Lu (fun own ok e=>hp ⟨own,ok,e⟩) hb;cases o<;>cases p<;>simp only[dU,Option.some.injEq,reduceCtorEq] at hb
 case cV.loc=>subst hb;obtain⟨⟨M,h1,_⟩,_⟩:=h;exact h1.lt
 case cells.loc=>subst hb;obtain⟨vs,h,_⟩:=h;exact(Array.getElem?_eq_some_iff.1 h).1
 case fK.loc=>subst hb;exact h.1.lt
 case jM.loc=>subst hb;obtain⟨c,_,⟨k,h⟩,_⟩:=h;exact h.lt.1
 case row.row=>subst hb;obtain⟨⟨xs,h⟩,_⟩:=h;exact(h.lt b rfl).2
 case buf.row=>subst hb;obtain⟨_,_,⟨xs,h,_⟩,_⟩:=h;exact(h.lt b rfl).2
theorem eS.qf{g g':Gh}{w w':World}{o o':Ob}{p:Pl}(hle:iV g g' o o')(hat:∀(i b:Nat),g.gs[i]? =some (.loc b)→g'.gs[i]? =some (.loc b))
 (hb:∀b,O3 g o p b→w'.heap[b]? =w.heap[b]?) (hm:∀b,cP o p b→∀i,g.m b i=none→g'.m b i=none) (h:eS g w o p):eS g' w' o' p:=by
 cases o<;>cases o'<;>simp only[iV] at hle<;>try (first|exact hle.elim|trivial)
 case iI.iI o k o' k'=>
  obtain⟨rfl,rfl,hmm⟩:=hle;have h2:k g.m w∧(∀ b,o b→b<w.heap.size)∧∀m m' w w',fP m m'→(∀ b,o b→w'.heap[b]? =w.heap[b]?)→(∀ b,o b→∀i,m b i=none→m' b i=none)→k m w→k m' w':=by cases p<;>exact h
  have h3:k g'.m w'∧(∀ b,o b→b<w'.heap.size)∧∀m m' w w',fP m m'→(∀ b,o b→w'.heap[b]? =w.heap[b]?)→(∀ b,o b→∀i,m b i=none→m' b i=none)→k m w→k m' w':=⟨h2.2.2 _ _ _ _ hmm (fun b hb'=>hb b (.inl hb')) (fun b hb'=>hm b hb') h2.1,fun b hb'=>by
   have h4:=hb b (.inl hb');have h6:=h2.2.1 b hb';have h5:w.heap[b]? =some w.heap[b]:=Array.getElem?_eq_getElem h6;rw[h5] at h4;exact(Array.getElem?_eq_some_iff.1 h4).1,h2.2.2⟩
  cases p<;>exact h3
 case cV.cV f f'=>
  cases p with
  |loc b=>
   obtain⟨rfl,hmm⟩:=hle;obtain⟨⟨M,h1,h2⟩,h3⟩:=h;exact⟨⟨M,h1.qf (hb b (.inl rfl)),h2.mono hmm⟩,fun i=>hm b rfl i (h3 i)⟩
  |row b c n=>exact h.elim
 case cells.cells l ty l' ty'=>
  cases p with
  |loc b=>
   obtain⟨rfl,hl⟩:=hle;obtain⟨vs,h1,h2,h3⟩:=h;exact⟨vs,(hb b (.inl rfl)).trans h1,hl vs h2,fun i=>hm b rfl i (h3 i)⟩
  |row b c n=>exact h.elim
 case row.row e k e' k'=>
  cases p with
  |loc b=>exact h.elim
  |row b c n=>
   obtain⟨rfl,rfl⟩:=hle;obtain⟨⟨xs,h1⟩,h2⟩:=h;refine⟨⟨xs,h1.1,?_⟩,fun c hc o ho=>hm c hc o (h2 c hc o ho)⟩;rcases h1.2 with h3|⟨g0,cap,cur,e1,h3,h4,h5⟩
   ·exact .inl h3
   ·refine .inr ⟨g0,cap,cur,e1,h3,?_,h5⟩;rw[hb g0 (.inl ?_)];exact h4;cases b with
    |none=>simp at e1
    |some b=>simp at e1;simp[cP,dU,e1.1]
 case buf.buf e k ls q e' k' ls' q'=>
  cases p with
  |loc b=>exact h.elim
  |row b c n=>
   obtain⟨rfl,rfl,rfl,rfl,hd⟩:=hle;obtain⟨h0,h1,⟨xs,h2,h3,h4⟩,h5,h9⟩:=h;refine⟨h0,h1,⟨xs,⟨h2.1,?_⟩,hd _ h3,h4⟩,fun c hc o=>hm c hc o (h5 c hc o),h9⟩;rcases h2.2 with h6|⟨g0,cap,cur,e1,h6,h7,h8⟩
   ·exact .inl h6
   ·refine .inr ⟨g0,cap,cur,e1,h6,?_,h8⟩;rw[hb g0 (.inl ?_)];exact h7;cases b with
    |none=>simp at e1
    |some b=>simp at e1;simp[cP,dU,e1.1]
 case bX.row e k e' k'=>
  obtain⟨rfl,rfl⟩:=hle;simp only[eS] at h;subst h;exact⟨⟨[],by simp,.inl ⟨rfl,rfl⟩⟩,fun c hc=>by cases hc⟩
 case fK.fK f f'=>
  cases p with
  |loc b=>subst hle;exact⟨h.1.qf (hb b (.inl rfl)),fun i=>hm b rfl i (h.2 i)⟩
  |row b c n=>exact h.elim
 case jM.jM i f dn cur i' f' dn' cur'=>
  cases p with
  |loc b=>
   obtain⟨rfl,rfl,rfl,hcur⟩:=hle;obtain⟨c,h1,⟨k,h2⟩,h3,h4⟩:=h;have hc:=hb c (.inr ⟨_,_,_,_,rfl,h1⟩);have hb':=hb b (.inl rfl);refine⟨c,hat _ _ h1,⟨k,h2.qf hb' hc⟩,fun s n e=>?_,fun i=>hm b rfl i (h4 i)⟩;rcases hcur with rfl|rfl
   ·obtain ⟨es,clock,seen,en,a1,a2,r⟩:=h3 s n e;exact⟨es,clock,seen,en,hb'.trans a1,hc.trans a2,r⟩
   ·cases e
  |row b c n=>exact h.elim
theorem cX.step{ob':List Ob}{w':World}(h:cX GL ob g w)(p:Nat→Prop)(hmm:fP g.m g'.m)(hat:∀(i b:Nat),g.gs[i]? =some (.loc b)→g'.gs[i]? =some (.loc b))
 (hpl:∀(i:Nat) q,¬p i→g.gs[i]? =some q→g'.gs[i]? =some q)
 (hsat:∀b o x,g'.m b o=some x→w'.cell? ⟨b,o,none⟩=some x∧x.oneCell'=true) (hlen:ob'.length=g'.gs.length)
 (hsame:∀(j:Nat) o',¬p j→ob'[j]? =some o'→∃o,ob[j]? =some o∧iV g g' o o')
 (hits:∀(j i:Nat) f dn cur,ob'[j]? =some (.jM i f dn cur)→ob'[i]? =some (.fK f))
 (hitp:∀(j i:Nat) f dn cur,¬p j→ob'[j]? =some (.jM i f dn cur)→¬p i)
 (hkeep:∀(j:Nat) o q b,¬p j→ob[j]? =some o→g.gs[j]? =some q→cP o q b→w'.heap[b]? =w.heap[b]? ∧∀i,g.m b i=none→g'.m b i=none)
 (htou:∀(j:Nat) o',p j→ob'[j]? =some o'→∃q',g'.gs[j]? =some q'∧eS g' w' o' q')
 (hblo:∀(j:Nat) o' q' b,p j→ob'[j]? =some o'→g'.gs[j]? =some q'→cP o' q' b→(∃ i o q,p i∧ob[i]? =some o∧g.gs[i]? =some q∧cP o q b)∨w.heap.size≤b)
 (hdis:∀(i j:Nat) oi oj pi pj b,p i→p j→ob'[i]? =some oi→ob'[j]? =some oj→g'.gs[i]? =some pi→g'.gs[j]? =some pj→cP oi pi b→cP oj pj b→i=j):
 cX GL ob' g' w':=by
 have old:∀(j:Nat) o' q' b,¬p j→ob'[j]? =some o'→g'.gs[j]? =some q'→cP o' q' b→∃o,ob[j]? =some o∧iV g g' o o'∧g.gs[j]? =some q'∧cP o q' b:=by
  intro j o' q' b hp ho' hq' hb;obtain⟨o,ho,hle⟩:=hsame j o' hp ho';obtain⟨q,hq⟩:=h.place ho;have hqq:=hpl j q hp hq;rw[hq'] at hqq;cases hqq;have hok:=h.gX j o q' ho hq;refine⟨o,ho,hle,hq,?_⟩;rcases hle.cb hb (fun _ _=>trivial) with h1|⟨e,k,rfl⟩
  ·exact h1
  ·simp only[eS] at hok;subst hok;cases o'<;>first|exact False.elim hle|(simp[cP,dU] at hb)
 refine⟨hlen,fun j o' q' ho' hq'=>?_,hits,fun i j oi oj pi pj b h1 h2 h3 h4 h5 h6=>?_,hsat,fun b=>eX.mono hmm _ (h.ET b)⟩
 ·by_cases hp:p j
  ·obtain ⟨q,hq,hok⟩:=htou j o' hp ho';rw[hq'] at hq;cases hq;exact hok
  ·obtain ⟨o,ho,hle⟩:=hsame j o' hp ho';obtain⟨q,hq⟩:=h.place ho;have hqq:=hpl j q hp hq;rw[hq'] at hqq;cases hqq;by_cases hdead:o'=.dead
   ·subst hdead;cases q'<;>trivial
   refine(h.gX j o q' ho hq).qf hle hat (fun b hb=>?_) (fun b hb=>(hkeep j o q' b hp ho hq hb).2);rcases hb with hb|⟨i,f,dn,cur,rfl,hi⟩
   ·exact (hkeep j o q' b hp ho hq hb).1
   ·have hm:=h.eD j i f dn cur ho;cases o'<;>simp only[iV] at hle<;>try (exact hle.elim)
    case dead=>exact absurd rfl hdead
    obtain⟨rfl,rfl,rfl,_⟩:=hle;exact(hkeep i _ _ b (hitp j _ _ _ _ hp ho') hm hi rfl).1
 ·by_cases hpi:p i
  ·by_cases hpj:p j
   ·exact hdis i j oi oj pi pj b hpi hpj h1 h2 h3 h4 h5 h6
   ·obtain ⟨o,ho,_,hq,hb⟩:=old j oj pj b hpj h2 h4 h6;rcases hblo i oi pi b hpi h1 h3 h5 with⟨k,ok,qk,hpk,hok,hqk,hbk⟩|hge
    ·have:=h.oz k j ok o qk pj b hok ho hqk hq hbk hb;subst this;exact absurd hpk hpj
    ·have:=(h.gX j o pj ho hq).lt hb;omega
  ·obtain ⟨o,ho,_,hq,hb⟩:=old i oi pi b hpi h1 h3 h5;by_cases hpj:p j
   ·rcases hblo j oj pj b hpj h2 h4 h6 with⟨k,ok,qk,hpk,hok,hqk,hbk⟩|hge
    ·have:=h.oz k i ok o qk pi b hok ho hqk hq hbk hb;subst this;exact absurd hpk hpi
    ·have:=(h.gX i o pi ho hq).lt hb;omega
   ·obtain ⟨o2,ho2,_,hq2,hb2⟩:=old j oj pj b hpj h2 h4 h6;exact h.oz i j o o2 pi pj b ho ho2 hq hq2 hb hb2
structure St where
 n:Nat
 sl:List (Nat×SV)
 ob:List Ob
def oK(t:Nat):List (Nat×SV)→SV
 |[]=>.gG
 |(k,s)::r=>cond (Nat.beq k t) s (oK t r)
def PG(GL:Nat→List D)(sl:List (Nat×SV)):Operand→SV
 | .tmp t=>oK t sl
 | .const v=>.d (.v v)
 | .global b=>.d (.cp (GL b))
 | .func f=>.d (.v (.func (.func f) #[] #[]))
structure Bs where
 g:Gh
 w:World
 X:Nat→Prop
 n0:Nat
 df:List Deferred
structure Aj (B:Bs) (ob:List Ob) (g:Gh) (w:World):Prop where
 fr:Fr B.X B.w w
 mem:fP B.g.m g.m
 new:∀b o x,g.m b o=some x→B.g.m b o=none→B.X b∨B.w.heap.size≤b
 own:∀(i:Nat) o p b,ob[i]? =some o→g.gs[i]? =some p→cP o p b→B.X b∨B.w.heap.size≤b
 at':∀(i b:Nat),i<B.n0→B.g.gs[i]? =some (.loc b)→g.gs[i]? =some (.loc b)
structure cE (GL:Nat→List D) (B:Bs) (σ:St) (g:Gh) (a:Act) (w:World):Prop where
 defers:a.defers=B.df
 size:a.tmps.size=σ.n
 da:∀t,(oK t σ.sl).Den g (a.tmps.getD t undef)
 store:cX GL σ.ob g w
 fI:Aj B σ.ob g w
def Rel(GL:Nat→List D)(B:Bs)(σ:St)(a:Act)(w:World):Prop:= ∃g,cE GL B σ g a w
variable {B:Bs} {σ:St} {a:Act}
theorem cE.ev(h:cE GL B σ g a w)(x:Operand):(PG GL σ.sl x).Den g (a.eval x):=by
 cases x with
 |tmp t=>exact h.da t
 |const v=>rfl
 |global b=>exact⟨b,0,rfl,h.store.ET b⟩
 |func f=>rfl
theorem eM(t k:Nat)(s:SV)(r:List (Nat×SV)):oK t ((k,s)::r)=if k=t then s else oK t r:=by
 show cond (Nat.beq k t) s (oK t r)=_;by_cases h:k=t
 ·subst h;simp
 ·have:Nat.beq k t=false:=by rw[← Bool.not_eq_true,Nat.beq_eq];exact h
  rw[this,if_neg h];rfl
theorem cE.put{GL:Nat→List D}{B:Bs}{σ:St}{g:Gh}{a:Act}{w:World}(h:cE GL B σ g a w){t:Nat}(ht:Nat.blt t σ.n=true){s:SV}{x:Value}(hx:s.Den g x):cE GL B ⟨σ.n,(t,s)::σ.sl,σ.ob⟩ g (a.put (some t) x) w:=by
 have hn:t<σ.n:=by simpa[Nat.blt_eq] using ht
 refine⟨h.defers,by simp[Act.put,h.size],fun u=>?_,h.store,h.fI⟩;show(oK u ((t,s)::σ.sl)).Den g ((a.tmps.setIfInBounds t x).getD u undef);rw[eM];by_cases htu:t=u
 ·subst htu;rw[if_pos rfl];have:(a.tmps.setIfInBounds t x).getD t undef=x:=by
   have hs:t<a.tmps.size:=by rw[h.size];exact hn
   simp[hs]
  rw[this];exact hx
 ·rw [if_neg htu];have:(a.tmps.setIfInBounds t x).getD u undef=a.tmps.getD u undef:=by
   simp only[Array.getD_eq_getD_getElem?];rw[Array.getElem?_setIfInBounds_ne htu]
  rw[this];exact h.da u
theorem cE.known(h:cE GL B σ g a w){t:Nat}{s:SV}(hx:s.Den g (a.tmps.getD t undef)):cE GL B ⟨σ.n,(t,s)::σ.sl,σ.ob⟩ g a w:=by
 refine⟨h.defers,h.size,fun u=>?_,h.store,h.fI⟩;show(oK u ((t,s)::σ.sl)).Den g _;rw[eM];split
 ·rename_i e;subst e;exact hx
 ·exact h.da u
end Go.Vd
namespace Go.Vd
open Go Go.RowKit
inductive Sh where
 |int (k:IntKind)|bool|str|slice|ptr|map|any
structure TI where
 ok:Bool
 size:Nat
 agg:Bool
 mr:List (Nat×Nat×Bool)
 NX:Bool
 zero:List Value
 K4:Bool
 elem:TypeId
 bZ:Option (List TypeId)
 sh:List Sh
def Nu(P:Program):Nat→TypeId→List Sh
 |0,_=>[]
 |n+1,T=>match P.underlying T with
  |some (.int k)=>[.int k]
  |some .bool=>[.bool]
  |some .string=>[.str]
  |some (.slice _)=>[.slice]
  |some (.pointer _)=>[.ptr]
  |some (.map _ _)=>[.map]
  |some (.struct fs)=>fs.toList.flatMap fun f=>Nu P n f.type
  |some (.array k e)=>(List.replicate k (Nu P n e)).flatten
  |some _=>[.any]
  |none=>[]
def si:Option TypeDesc→Bool
 |some (.struct _)=>true
 |some (.array _ _)=>true
 |_=>false
def bl(P:Program)(T:TypeId):TI where
 ok:=(P.info? T).isSome&&(P.underlying T).isSome
 size:=((P.info? T).map (·.size)).getD 0
 agg:=si (P.underlying T)
 mr:=match P.underlying T with
  |some (.struct fs)=>fs.toList.map fun f=>(f.offset,((P.info? f.type).map (·.size)).getD 0,si (P.underlying f.type))
  |_=>[]
 NX:=match P.underlying T with
  |some (.struct fs)=>fs.toList.all fun f=>(P.info? f.type).isSome
  |_=>false
 zero:=(((P.info? T).bind (·.zero)).map (·.cells.toList)).getD []
 K4:=((P.info? T).bind (·.zero)).isSome
 elem:=match P.underlying T with
  |some (.slice e)=>e
  |some (.pointer e)=>e
  |some (.array _ e)=>e
  |_=>0
 bZ:=match P.underlying T with
  |some (.tuple ts)=>some ts.toList
  |_=>none
 sh:=Nu P 6 T
section
variable {P:Program}
variable {T:TypeId}
theorem th(h:(bl P T).ok=true):∃i d,P.info? T=some i∧P.underlying T=some d∧(bl P T).size=i.size∧(bl P T).agg=si (some d):=by
 simp only[bl,Bool.and_eq_true,Option.isSome_iff_exists] at h;obtain⟨⟨i,hi⟩,d,hd⟩:=h;exact⟨i,d,hi,hd,by simp[bl,hi],by simp[bl,hd]⟩
theorem Hb{d:TypeDesc}(h:P.underlying T=some d)(w:World):(isAgg T).run P w=.ok (si (some d)) w:=by
 cases d<;>simp[isAgg,run_underlying h,si]
theorem Value.Ab{x:Value}(h:x.oneCell'=true):x.cells= #[x]:=by cases x<;>simp_all [Value.cells,Value.oneCell']
theorem fG(b off i:Nat):(⟨b,off,none⟩:Addr).add i=⟨b,off+i,none⟩:=by
 unfold Addr.add;split
 ·subst_vars;rfl
 ·rfl
theorem iG(hT:(bl P T).ok=true){w:World}{b off:Nat}{xs:List Value}(hl:xs.length=(bl P T).size)
 (h:∀j x,xs[j]? =some x→w.cell? ⟨b,off+j,none⟩=some x) (h1:(bl P T).agg=false→∃x,xs=[x]):
 (loadVar T ⟨b,off,none⟩).run P w=.ok (if (bl P T).agg then .agg ⟨xs⟩ else xs.headD undef) w:=by
 obtain⟨i,d,hi,hd,hs,ha⟩:=th hT;have hag:=Hb hd w;rw[← ha] at hag;cases hag2:(bl P T).agg with
 |true=>
  rw[hag2] at hag;have hload:=run_loadCells_list (P:=P) w ⟨b,off,none⟩ xs (fun j x hj=>by rw[fG];exact h j x hj);rw[hl,hs] at hload;simp[loadVar,hag,sizeOf,typeInfo,hi,hload]
 |false=>
  rw[hag2] at hag;obtain⟨x,rfl⟩:=h1 hag2;have h0:=h 0 x rfl;simp at h0;simp[loadVar,hag,h0]
end
end Go.Vd
namespace Go.Vd
open Go Go.RowKit
def CH(Hc:List (Addr×Value))(w:World):Prop:= ∀p∈Hc,w.cell? p.1=some p.2
def OO(g:Gh)(L:List Nat)(Hc:List (Addr×Value)):Prop:=
 ∀p∈Hc,p.1.spot=none∧(g.m p.1.block p.1.off=some p.2∨∃i b,i∈L∧g.gs[i]? =some (.loc b)∧p.1.block=b)
def gK(t:Nat):List (Nat×SV)→Option SV
 |[]=>none
 |(k,s)::r=>cond (Nat.beq k t) (some s) (gK t r)
theorem fu{t:Nat}{s:SV}:∀{l:List (Nat×SV)},gK t l=some s→oK t l=s
 |[],h=>by cases h
 |(k,x)::r,h=>by
  change cond (Nat.beq k t) (some x) (gK t r)=some s at h
  show cond (Nat.beq k t) x (oK t r)=s;cases hb:Nat.beq k t with
  |true=>rw[hb] at h;simpa using h
  |false=>rw[hb] at h;exact fu h
def bT(GL:Nat→List D)(sl:List (Nat×SV)):Operand→Option SV
 | .tmp t=>gK t sl
 | .const v=>some (.d (.v v))
 | .global b=>some (.d (.cp (GL b)))
 | .func f=>some (.d (.v (.func (.func f) #[] #[])))
theorem L3{GL:Nat→List D}{sl:List (Nat×SV)}{x:Operand}{s:SV}(h:bT GL sl x=some s):PG GL sl x=s:=by
 cases x with
 |tmp t=>exact fu h
 |const v=>simpa[bT,PG] using h
 |global b=>simpa[bT,PG] using h
 |func f=>simpa[bT,PG] using h
section
variable {P:Program} {GL:Nat→List D}
theorem cE.fk{B:Bs}{σ:St}{g:Gh}{a:Act}{w:World}(h:cE GL B σ g a w){x:Operand}{s:SV}(hx:bT GL σ.sl x=some s):s.Den g (a.eval x):=by
 have:=h.ev x;rwa [L3 hx] at this
def ak(P:Program)(GL:Nat→List D)(o:Oper)(σ:St)(K:SV→List Nat→Prop):Prop:=
 ∀B g a w,cE GL B σ g a w→∃Hc s y L,(∀ w',CH Hc w'→(execOp a.eval o).run P w'=.ok (.value y) w')∧CH Hc w∧OO g L Hc∧s.Den g y∧K s L
variable {o:Oper} {σ:St} {K:SV→List Nat→Prop}
theorem eg(h:∀B g a w,cE GL B σ g a w→∃s y,(∀ w',(execOp a.eval o).run P w'=.ok (.value y) w')∧s.Den g y∧K s []):ak P GL o σ K:=fun B g a w hr=>by
 obtain⟨s,y,h1,h2,h3⟩:=h B g a w hr;exact⟨[],s,y,[],fun w' _=>h1 w',(fun p hp=>by cases hp),(fun p hp=>by cases hp),h2,h3⟩
theorem LU{x:Operand}{s:SV}(ho:o.op=.move x)(hx:bT GL σ.sl x=some s)(hK:K s []):ak P GL o σ K:=eg fun B g a w hr=>⟨s,a.eval x,fun w'=>by simp[execOp,ho],hr.fk hx,hK⟩
theorem mv{x:Operand}{s:SV}(hK:K s [])(ho:o.op=.move x:=by exact rfl)(hx:bT GL σ.sl x=some s:=by exact rfl):ak P GL o σ K:=LU ho hx hK
theorem HN{x:Operand}{s:SV}(ho:o.op=.assign x)(hx:bT GL σ.sl x=some s)(hK:K s []):ak P GL o σ K:=eg fun B g a w hr=>⟨s,a.eval x,fun w'=>by simp[execOp,ho],hr.fk hx,hK⟩
theorem Qq{x:Operand}{s:SV}(hK:K s [])(ho:o.op=.assign x:=by exact rfl)(hx:bT GL σ.sl x=some s:=by exact rfl):ak P GL o σ K:=HN ho hx hK
variable {c:Operand}
theorem oq{x y:Operand}{s:SV}(ho:o.op=.pick c x y)(hc:bT GL σ.sl c=some (.d (.v (.bool true))))(hx:bT GL σ.sl x=some s)(hK:K s []):ak P GL o σ K:=eg fun B g a w hr=>by
 have h1:a.eval c=.bool true:=hr.fk hc;exact⟨s,a.eval x,fun w'=>by simp[execOp,ho,h1,asBool],hr.fk hx,hK⟩
theorem fF{x y:Operand}{s:SV}(hK:K s [])(ho:o.op=.pick c x y:=by exact rfl)(hc:bT GL σ.sl c=some (.d (.v (.bool true))):=by exact rfl)(hx:bT GL σ.sl x=some s:=by exact rfl):ak P GL o σ K:=oq ho hc hx hK
theorem ot{x y:Operand}{s:SV}(ho:o.op=.pick c x y)(hc:bT GL σ.sl c=some (.d (.v (.bool false))))(hy:bT GL σ.sl y=some s)(hK:K s []):ak P GL o σ K:=eg fun B g a w hr=>by
 have h1:a.eval c=.bool false:=hr.fk hc;exact⟨s,a.eval y,fun w'=>by simp[execOp,ho,h1,asBool],hr.fk hy,hK⟩
theorem jI{x y:Operand}{s:SV}(hK:K s [])(ho:o.op=.pick c x y:=by exact rfl)(hc:bT GL σ.sl c=some (.d (.v (.bool false))):=by exact rfl)(hy:bT GL σ.sl y=some s:=by exact rfl):ak P GL o σ K:=ot ho hc hy hK
variable {i off:Nat}
theorem EV{x:Operand}(ho:o.op=.nilCheck x)(hx:bT GL σ.sl x=some (.cb i off))(hK:K (.cb i off) []):ak P GL o σ K:=eg fun B g a w hr=>by
 have h1:=hr.fk hx;obtain⟨b,hb,e⟩:=h1;exact⟨.cb i off,a.eval x,fun w'=>by simp only[execOp,ho,e];rfl,⟨b,hb,e⟩,hK⟩
theorem QX{x:Operand}(hK:K (.cb i off) [])(ho:o.op=.nilCheck x:=by exact rfl)(hx:bT GL σ.sl x=some (.cb i off):=by exact rfl):ak P GL o σ K:=EV ho hx hK
variable {l:List D}
theorem HL{x:Operand}(ho:o.op=.nilCheck x)(hx:bT GL σ.sl x=some (.d (.cp l)))(hK:K (.d (.cp l)) []):ak P GL o σ K:=eg fun B g a w hr=>by
 have h1:=hr.fk hx;obtain⟨b,off,e,hl⟩:=h1;exact⟨.d (.cp l),a.eval x,fun w'=>by simp only[execOp,ho,e];rfl,⟨b,off,e,hl⟩,hK⟩
theorem LD{x:Operand}(hK:K (.d (.cp l)) [])(ho:o.op=.nilCheck x:=by exact rfl)(hx:bT GL σ.sl x=some (.d (.cp l)):=by exact rfl):ak P GL o σ K:=HL ho hx hK
theorem toList_inj{a b:ByteArray}(h:a.toList=b.toList):a=b:=by
 rw[ByteArray.toList_eq,ByteArray.toList_eq] at h;have:=Array.toList_inj.1 h;cases a;cases b;simp_all
theorem FX(a b:ByteArray):(a.toList==b.toList)=decide (a=b):=by
 rw[Bool.eq_iff_iff];simp only[beq_iff_eq,decide_eq_true_eq];exact⟨toList_inj,fun h=>by rw[h]⟩
variable {op:BinOp}
theorem gm{T:TypeId}{x y:Operand}{a b:Value}(ha:a.oneCell'=true)(hn:¬(a=.nilIface∧b=.nilIface))(w:World):
 (eqGuard op T x y a b).run P w=.ok () w:=by
 unfold eqGuard;cases a<;>cases b<;>first
  |(exfalso;exact hn ⟨rfl,rfl⟩)
  |(exfalso;simp[Value.oneCell'] at ha;done)
  |(cases op<;>rfl)
theorem gU{T T':TypeId}{x y:Operand}{va vb r:Value}(ho:o.op=.binOp op T x y T')(hx:bT GL σ.sl x=some (.d (.v va)))(hy:bT GL σ.sl y=some (.d (.v vb)))(ha:va.oneCell'=true)(hn:¬(va=.nilIface∧vb=.nilIface))
 (hrun:∀w,(binOp op T va vb).run P w=.ok r w) (hK:K (.d (.v r)) []):ak P GL o σ K:=eg fun B g a w hr=>by
 have h1:a.eval x=va:=hr.fk hx;have h2:a.eval y=vb:=hr.fk hy;exact⟨.d (.v r),r,fun w'=>by simp only[execOp,ho,h1,h2,Sem.run_bind,gm ha hn,hrun,Result.andThen_ok];rfl,rfl,hK⟩
section
variable {T T':TypeId} {x y:Operand} {k:IntKind} {m n:Int}
theorem N3(ho:o.op=.binOp .lss T x y T')(hx:bT GL σ.sl x=some (.d (.v (.int k m))))(hy:bT GL σ.sl y=some (.d (.v (.int k n))))(hK:K (.d (.v (.bool (decide (m<n))))) []):ak P GL o σ K:=
 gU ho hx hy rfl (by simp) (fun w=>by simp[binOp,Op.intCmp]) hK
theorem RV (hK : K (.d (.v (.bool (decide (m < n))))) [])(ho : o.op = .binOp .lss T x y T' := by exact rfl)(hx : bT GL σ.sl x = some (.d (.v (.int k m))) := by exact rfl)(hy : bT GL σ.sl y = some (.d (.v (.int k n))) := by exact rfl) : ak P GL o σ K := N3 ho hx hy hK
theorem N4(ho:o.op=.binOp .leq T x y T')(hx:bT GL σ.sl x=some (.d (.v (.int k m))))(hy:bT GL σ.sl y=some (.d (.v (.int k n))))(hK:K (.d (.v (.bool (decide (m≤n))))) []):ak P GL o σ K:=
 gU ho hx hy rfl (by simp) (fun w=>by simp[binOp,Op.intCmp]) hK
theorem RX (hK : K (.d (.v (.bool (decide (m ≤ n))))) [])(ho : o.op = .binOp .leq T x y T' := by exact rfl)(hx : bT GL σ.sl x = some (.d (.v (.int k m))) := by exact rfl)(hy : bT GL σ.sl y = some (.d (.v (.int k n))) := by exact rfl) : ak P GL o σ K := N4 ho hx hy hK
theorem N6(ho:o.op=.binOp .gtr T x y T')(hx:bT GL σ.sl x=some (.d (.v (.int k m))))(hy:bT GL σ.sl y=some (.d (.v (.int k n))))(hK:K (.d (.v (.bool (decide (n<m))))) []):ak P GL o σ K:=
 gU ho hx hy rfl (by simp) (fun w=>by simp[binOp,Op.intCmp]) hK
theorem RY (hK : K (.d (.v (.bool (decide (n < m))))) [])(ho : o.op = .binOp .gtr T x y T' := by exact rfl)(hx : bT GL σ.sl x = some (.d (.v (.int k m))) := by exact rfl)(hy : bT GL σ.sl y = some (.d (.v (.int k n))) := by exact rfl) : ak P GL o σ K := N6 ho hx hy hK
theorem N7(ho:o.op=.binOp .geq T x y T')(hx:bT GL σ.sl x=some (.d (.v (.int k m))))(hy:bT GL σ.sl y=some (.d (.v (.int k n))))(hK:K (.d (.v (.bool (decide (n≤m))))) []):ak P GL o σ K:=
 gU ho hx hy rfl (by simp) (fun w=>by simp[binOp,Op.intCmp]) hK
theorem RZ (hK : K (.d (.v (.bool (decide (n ≤ m))))) [])(ho : o.op = .binOp .geq T x y T' := by exact rfl)(hx : bT GL σ.sl x = some (.d (.v (.int k m))) := by exact rfl)(hy : bT GL σ.sl y = some (.d (.v (.int k n))) := by exact rfl) : ak P GL o σ K := N7 ho hx hy hK
theorem N8(ho:o.op=.binOp .eql T x y T')(hx:bT GL σ.sl x=some (.d (.v (.int k m))))(hy:bT GL σ.sl y=some (.d (.v (.int k n))))(hK:K (.d (.v (.bool (decide (m=n))))) []):ak P GL o σ K:=
 gU ho hx hy rfl (by simp) (fun w=>by simp[binOp,Op.intCmp];by_cases h:m=n<;>simp[h]) hK
theorem PA (hK : K (.d (.v (.bool (decide (m = n))))) [])(ho : o.op = .binOp .eql T x y T' := by exact rfl)(hx : bT GL σ.sl x = some (.d (.v (.int k m))) := by exact rfl)(hy : bT GL σ.sl y = some (.d (.v (.int k n))) := by exact rfl) : ak P GL o σ K := N8 ho hx hy hK
theorem N1(ho:o.op=.binOp .neq T x y T')(hx:bT GL σ.sl x=some (.d (.v (.int k m))))(hy:bT GL σ.sl y=some (.d (.v (.int k n))))(hK:K (.d (.v (.bool (!decide (m=n))))) []):ak P GL o σ K:=
 gU ho hx hy rfl (by simp) (fun w=>by simp[binOp,Op.intCmp,bne];by_cases h:m=n<;>simp[h]) hK
theorem Rx (hK : K (.d (.v (.bool (!decide (m = n))))) [])(ho : o.op = .binOp .neq T x y T' := by exact rfl)(hx : bT GL σ.sl x = some (.d (.v (.int k m))) := by exact rfl)(hy : bT GL σ.sl y = some (.d (.v (.int k n))) := by exact rfl) : ak P GL o σ K := N1 ho hx hy hK
theorem v7{x:Int}(h1: -9223372036854775808≤x)(h2:x≤9223372036854775807):IntKind.i64.wrap x=x:=by
 have:=IntWalk.i64_in x;exact this (by omega)
theorem N9(ho:o.op=.binOp .add T x y T')(hx:bT GL σ.sl x=some (.d (.v (.int .i64 m))))(hy:bT GL σ.sl y=some (.d (.v (.int .i64 n))))(hb: -9223372036854775808≤m+n∧m+n≤9223372036854775807)(hK:K (.d (.v (.int .i64 (m+n)))) []):ak P GL o σ K:=
 gU ho hx hy rfl (by simp) (fun w=>by simp[binOp,Op.intArith,v7 hb.1 hb.2]) hK
theorem cG (hK : K (.d (.v (.int .i64 (m + n)))) [])(ho : o.op = .binOp .add T x y T' := by exact rfl)(hx : bT GL σ.sl x = some (.d (.v (.int .i64 m))) := by exact rfl)(hy : bT GL σ.sl y = some (.d (.v (.int .i64 n))) := by exact rfl)(hb : -9223372036854775808 ≤ m + n ∧ m + n ≤ 9223372036854775807 := by omega) : ak P GL o σ K := N9 ho hx hy hb hK
theorem NY(ho:o.op=.binOp .sub T x y T')(hx:bT GL σ.sl x=some (.d (.v (.int .i64 m))))(hy:bT GL σ.sl y=some (.d (.v (.int .i64 n))))(hb: -9223372036854775808≤m-n∧m-n≤9223372036854775807)(hK:K (.d (.v (.int .i64 (m-n)))) []):ak P GL o σ K:=
 gU ho hx hy rfl (by simp) (fun w=>by simp[binOp,Op.intArith,v7 hb.1 hb.2]) hK
theorem iC (hK : K (.d (.v (.int .i64 (m - n)))) [])(ho : o.op = .binOp .sub T x y T' := by exact rfl)(hx : bT GL σ.sl x = some (.d (.v (.int .i64 m))) := by exact rfl)(hy : bT GL σ.sl y = some (.d (.v (.int .i64 n))) := by exact rfl)(hb : -9223372036854775808 ≤ m - n ∧ m - n ≤ 9223372036854775807 := by omega) : ak P GL o σ K := NY ho hx hy hb hK
theorem AZ(ho:o.op=.binOp .mul T x y T')(hx:bT GL σ.sl x=some (.d (.v (.int .i64 m))))(hy:bT GL σ.sl y=some (.d (.v (.int .i64 n))))(hb: -9223372036854775808≤m*n∧m*n≤9223372036854775807)(hK:K (.d (.v (.int .i64 (m*n)))) []):ak P GL o σ K:=
 gU ho hx hy rfl (by simp) (fun w=>by simp[binOp,Op.intArith,v7 hb.1 hb.2]) hK
theorem NZ(ho:o.op=.binOp .rem T x y T')(hx:bT GL σ.sl x=some (.d (.v (.int .i64 m))))(hy:bT GL σ.sl y=some (.d (.v (.int .i64 n))))(hb:0≤m∧0<n)(hK:K (.d (.v (.int .i64 (m%n)))) []):ak P GL o σ K:=
 gU ho hx hy rfl (by simp) (fun w=>by
  have h1:m.tmod n=m%n:=Int.tmod_eq_emod_of_nonneg hb.1;have h2:¬n=0:=by omega
  simp only[binOp,Op.intDiv,if_neg h2,h1];rfl) hK
theorem Gu (hK : K (.d (.v (.int .i64 (m % n)))) [])(ho : o.op = .binOp .rem T x y T' := by exact rfl)(hx : bT GL σ.sl x = some (.d (.v (.int .i64 m))) := by exact rfl)(hy : bT GL σ.sl y = some (.d (.v (.int .i64 n))) := by exact rfl)(hb : 0 ≤ m ∧ 0 < n := by omega) : ak P GL o σ K := NZ ho hx hy hb hK
theorem Ka(ho:o.op=.binOp .quo T x y T')(hx:bT GL σ.sl x=some (.d (.v (.int .i64 m))))(hy:bT GL σ.sl y=some (.d (.v (.int .i64 n))))(hb:0≤m∧0<n∧m≤9223372036854775807)(hK:K (.d (.v (.int .i64 (m/n)))) []):ak P GL o σ K:=
 gU ho hx hy rfl (by simp) (fun w=>by
  have h1:m.tdiv n=m/n:=Int.tdiv_eq_ediv_of_nonneg hb.1;have h2:¬n=0:=by omega
  have h5:0≤m/n:=Int.ediv_nonneg hb.1 (by omega);have h6:m/n≤m:=Int.ediv_le_self _ hb.1;have h4:IntKind.i64.wrap (m/n)=m/n:=by generalize m/n=q at h5 h6 ⊢;exact v7 (by omega) (by omega)
  simp only[binOp,Op.intDiv,if_neg h2,h1,h4];rfl) hK
end
section
variable {T T':TypeId} {x y:Operand} {s t:ByteArray}
theorem LR(ho:o.op=.binOp .eql T x y T')(hx:bT GL σ.sl x=some (.d (.v (.string s))))(hy:bT GL σ.sl y=some (.d (.v (.string t))))(hK:K (.d (.v (.bool (decide (s=t))))) []):ak P GL o σ K:=
 gU ho hx hy rfl (by simp) (fun w=>by simp only[binOp,Op.stringOp,FX];rfl) hK
theorem seq1 (hK : K (.d (.v (.bool (decide (s = t))))) [])(ho : o.op = .binOp .eql T x y T' := by exact rfl)(hx : bT GL σ.sl x = some (.d (.v (.string s))) := by exact rfl)(hy : bT GL σ.sl y = some (.d (.v (.string t))) := by exact rfl) : ak P GL o σ K := LR ho hx hy hK
theorem LQ(ho:o.op=.binOp .neq T x y T')(hx:bT GL σ.sl x=some (.d (.v (.string s))))(hy:bT GL σ.sl y=some (.d (.v (.string t))))(hK:K (.d (.v (.bool (!decide (s=t))))) []):ak P GL o σ K:=
 gU ho hx hy rfl (by simp) (fun w=>by simp only[binOp,Op.stringOp,FX];rfl) hK
theorem QP (hK : K (.d (.v (.bool (!decide (s = t))))) [])(ho : o.op = .binOp .neq T x y T' := by exact rfl)(hx : bT GL σ.sl x = some (.d (.v (.string s))) := by exact rfl)(hy : bT GL σ.sl y = some (.d (.v (.string t))) := by exact rfl) : ak P GL o σ K := LQ ho hx hy hK
theorem LS(ho:o.op=.binOp .add T x y T')(hx:bT GL σ.sl x=some (.d (.v (.string s))))(hy:bT GL σ.sl y=some (.d (.v (.string t))))(hb:((s.size+t.size:Nat):Int)≤9223372036854775807)(hK:K (.d (.v (.string (s++t)))) []):ak P GL o σ K:=
 gU ho hx hy rfl (by simp) (fun w=>by
  have h2:¬(((s.size+t.size:Nat):Int)>IntKind.i64.max):=by show ¬(9223372036854775807<((s.size+t.size:Nat):Int));omega
  simp only[binOp,Op.stringOp,h2,if_false];rfl) hK
theorem uM (hK : K (.d (.v (.string (s ++ t)))) [])(ho : o.op = .binOp .add T x y T' := by exact rfl)(hx : bT GL σ.sl x = some (.d (.v (.string s))) := by exact rfl)(hy : bT GL σ.sl y = some (.d (.v (.string t))) := by exact rfl)(hb : ((s.size + t.size : Nat) : Int) ≤ 9223372036854775807 := by omega) : ak P GL o σ K := LS ho hx hy hb hK
end
variable {b:Bool}
theorem N0{T:TypeId}{x:Operand}(ho:o.op=.unOp .not T x)(hx:bT GL σ.sl x=some (.d (.v (.bool b))))(hK:K (.d (.v (.bool (!b)))) []):ak P GL o σ K:=eg fun B g a w hr=>by
 have h1:a.eval x=.bool b:=hr.fk hx;exact⟨.d (.v (.bool (!b))),_,fun w'=>by simp only[execOp,ho,h1,Op.unary];rfl,rfl,hK⟩
theorem PE{T:TypeId}{x:Operand}(hK:K (.d (.v (.bool (!b)))) [])(ho:o.op=.unOp .not T x:=by exact rfl)(hx:bT GL σ.sl x=some (.d (.v (.bool b))):=by exact rfl):ak P GL o σ K:=N0 ho hx hK
theorem Kb{T:TypeId}{x:Operand}{n:Int}(ho:o.op=.unOp .neg T x)(hx:bT GL σ.sl x=some (.d (.v (.int .i64 n))))(hb: -9223372036854775808≤ -n∧ -n≤9223372036854775807)(hK:K (.d (.v (.int .i64 (-n)))) []):ak P GL o σ K:=eg fun B g a w hr=>by
 have h1:a.eval x=.int .i64 n:=hr.fk hx;have h2:IntKind.i64.wrap (0-n)= -n:=by rw[show(0:Int)-n= -n by omega];exact v7 hb.1 hb.2
 exact⟨.d (.v (.int .i64 (-n))),.int .i64 (-n),fun w'=>by simp[execOp,ho,h1,Op.unary,Op.intArith,v7 hb.1 hb.2],rfl,hK⟩
theorem LZ{T:TypeId}{x:Operand}{n:Int}(hK:K (.d (.v (.int .i64 (-n)))) [])(ho:o.op=.unOp .neg T x:=by exact rfl)(hx:bT GL σ.sl x=some (.d (.v (.int .i64 n))):=by exact rfl)(hb: -9223372036854775808≤ -n∧ -n≤9223372036854775807:=by omega):ak P GL o σ K:=Kb ho hx hb hK
theorem Gs{s d:TypeId}{x:Operand}{k k':IntKind}{n:Int}(hd:P.underlying d=some (.int k'))(hs:(P.underlying s).isSome=true)(ho:o.op=.convert s d x)(hx:bT GL σ.sl x=some (.d (.v (.int k n))))(hK:K (.d (.v (.int k' (k'.wrap n)))) []):ak P GL o σ K:=eg fun B g a w hr=>by
 have h1:a.eval x=.int k n:=hr.fk hx;obtain⟨ds,hds⟩:=Option.isSome_iff_exists.1 hs;exact⟨.d (.v (.int k' (k'.wrap n))),.int k' (k'.wrap n),fun w'=>by simp[execOp,ho,h1,convert,run_underlying hds,run_underlying hd,Conv.intToInt],rfl,hK⟩
variable {f sz:Nat} {ag:Bool}
theorem J8{T:TypeId}{o:Nat}(h:(bl P T).mr[f]? =some (o,sz,ag)):∃fs fd,P.underlying T=some (.struct fs)∧fs[f]? =some fd∧fd.offset=o∧
 ((P.info? fd.type).map (·.size)).getD 0=sz∧si (P.underlying fd.type)=ag:=by
 unfold bl at h;simp only at h;split at h
 ·rename_i fs hfs;rw[List.getElem?_map] at h;cases hf:fs.toList[f]? with
  |none=>rw[hf] at h;cases h
  |some fd=>
   rw[hf] at h;simp only[Option.map_some,Option.some.injEq,Prod.mk.injEq] at h;exact⟨fs,fd,hfs,by simpa using hf,h.1,h.2.1,h.2.2⟩
 ·simp at h
theorem vi{T:TypeId}{o:Nat}(h:(bl P T).mr[f]? =some (o,sz,ag))(hsz:sz≠0)(b off:Nat)(w:World):
 (Instr.fieldAt T (.pointer (some ⟨b,off,none⟩)) f).run P w=.ok (.pointer (some ⟨b,off+o,none⟩)) w:=by
 obtain⟨fs,fd,hu,hfd,rfl,hs,_⟩:=J8 h;have hsize:∃i,P.info? fd.type=some i∧i.size≠0:=by
  cases hi:P.info? fd.type with
  |none=>rw[hi] at hs;simp at hs;exact absurd hs.symm hsz
  |some i=>rw[hi] at hs;simp at hs;exact⟨i,rfl,by omega⟩
 obtain⟨i,hi,hi0⟩:=hsize;simp[Instr.fieldAt,run_underlying hu,hfd,Instr.sureAddr,fieldPlace,sizeOf,typeInfo,hi,hi0,fG]
def gS{α:Type}:Nat→List α→Option (List α)
 |0,l=>some l
 |n+1,[]=>none
 |n+1,_::r=>gS n r
theorem lJ{α:Type}:∀{n:Nat} {l r:List α},gS n l=some r→l.drop n=r∧n≤l.length
 |0,l,r,h=>by simp[gS] at h;subst h;simp
 |n+1,[],r,h=>by cases h
 |n+1,x::l,r,h=>by have:=lJ (n:=n) (l:=l) h;exact⟨by simpa using this.1,by simp;exact this.2⟩
def nS{α:Type}:Nat→List α→Option (List α)
 |0,_=>some []
 |n+1,[]=>none
 |n+1,x::r=>(nS n r).bind fun l=>some (x::l)
theorem tk{α:Type}:∀{n:Nat} {l r:List α},nS n l=some r→l.take n=r∧n≤l.length
 |0,l,r,h=>by simp[nS] at h;subst h;simp
 |n+1,[],r,h=>by cases h
 |n+1,x::l,r,h=>by
  simp only[nS,Option.bind_eq_some_iff,Option.some.injEq] at h;obtain⟨r',h1,rfl⟩:=h;have:=tk (n:=n) (l:=l) h1;exact⟨by simpa using this.1,by simp;exact this.2⟩
variable {ti:TI} {o1:Nat}
theorem Ba{T:TypeId}{x:Operand}(hT:bl P T=ti){r:List (Nat×Nat×Bool)}(hf:gS f ti.mr=some ((o1,sz,ag)::r))(hsz:Nat.beq sz 0=false)(ho:o.op=.fieldAddr T x f)(hx:bT GL σ.sl x=some (.cb i off))(hK:K (.cb i (off+o1)) []):ak P GL o σ K:=eg fun B g a w hr=>by
 have hf2:(bl P T).mr[f]? =some (o1,sz,ag):=by
  have:=lJ hf;rw[hT];have h2:=congrArg List.head? this.1
  simpa using h2
 obtain⟨b,hb,h1⟩:=hr.fk hx;exact⟨.cb i (off+o1),_,fun w'=>by simp only[execOp,ho,h1,Sem.run_bind,vi hf2 (by intro h;rw[h] at hsz;cases hsz),Result.andThen_ok];rfl,⟨b,hb,rfl⟩,hK⟩
theorem OX{T:TypeId}{x:Operand}{r:List (Nat×Nat×Bool)}(hT:bl P T=ti)(hK:K (.cb i (off+o1)) [])(ho:o.op=.fieldAddr T x f:=by exact rfl)(hx:bT GL σ.sl x=some (.cb i off):=by exact rfl)(hf:gS f ti.mr=some ((o1,sz,ag)::r):=by exact rfl)(hsz:Nat.beq sz 0=false:=by exact rfl):ak P GL o σ K:=Ba hT hf hsz ho hx hK
variable {l':List D}
theorem C8{T:TypeId}{x:Operand}(hT:bl P T=ti){r:List (Nat×Nat×Bool)}(hf:gS f ti.mr=some ((o1,sz,ag)::r))(hsz:Nat.beq sz 0=false)(ho:o.op=.fieldAddr T x f)(hx:bT GL σ.sl x=some (.d (.cp l)))(hl:gS o1 l=some l')(hK:K (.d (.cp l')) []):ak P GL o σ K:=eg fun B g a w hr=>by
 have hf2:(bl P T).mr[f]? =some (o1,sz,ag):=by
  have:=lJ hf;rw[hT];have h2:=congrArg List.head? this.1
  simpa using h2
 obtain⟨b,off,h1,hd⟩:=hr.fk hx;refine⟨.d (.cp l'),_,fun w'=>by simp only[execOp,ho,h1,Sem.run_bind,vi hf2 (by intro h;rw[h] at hsz;cases hsz),Result.andThen_ok];rfl,⟨b,off+o1,rfl,?_⟩,hK⟩;rw[← (lJ hl).1];exact hd.drop _
theorem K5{T:TypeId}{x:Operand}{r:List (Nat×Nat×Bool)}(hT:bl P T=ti)(hK:K (.d (.cp l')) [])(ho:o.op=.fieldAddr T x f:=by exact rfl)(hx:bT GL σ.sl x=some (.d (.cp l)):=by exact rfl)(hf:gS f ti.mr=some ((o1,sz,ag)::r):=by exact rfl)(hsz:Nat.beq sz 0=false:=by exact rfl)(hl:gS o1 l=some l':=by exact rfl):ak P GL o σ K:=C8 hT hf hsz ho hx hl hK
variable {j:Int} {kd:IntKind} {e:List D}
theorem vx{T:TypeId}{x i:Operand}{k:Nat}{ls:List (List D)}(hu:P.underlying T=some (.slice (bl P T).elem))(hT:bl P (bl P T).elem=ti)(hok:ti.ok=true)(hs:ti.size=k)(ho:o.op=.indexAddr T x i)
 (hx:bT GL σ.sl x=some (.d (.sl k ls))∨∃i,bT GL σ.sl x=some (.own i k ls)) (hi:bT GL σ.sl i=some (.d (.v (.int kd j)))) (h0:0≤j) (he:ls[j.toNat]? =some e) (hK:K (.d (.cp e)) []):ak P GL o σ K:=eg fun B g a w hr=>by
 have hxx:(D.sl k ls).Den g.m (a.eval x):=by
  rcases hx with hx|⟨i,hx⟩
  ·exact hr.fk hx
  ·exact wT (hr.fk hx)
 obtain⟨ad,cap,h1,hc,hd⟩:=hxx;have hj:=(List.getElem?_eq_some_iff.1 he).1;obtain⟨b,off,rfl,hd2⟩:=hd (by intro h;subst h;simp at he);have h2:a.eval i=.int kd j:=hr.fk hi;rw[← hT] at hok;obtain⟨inf,d,hi',hd',hs',_⟩:=th hok;refine⟨.d (.cp e),.pointer (some ⟨b,off+j.toNat*k,none⟩),fun w'=>?_,⟨b,_,rfl,(hd2.get he).2⟩,hK⟩;have h3:j<(ls.length:Int):=by omega
 rw[hT,hs] at hs';simp[execOp,ho,h1,h2,Instr.indexAt,run_underlying hu,asIntOf,h0,h3,sizeOf,typeInfo,hi',←hs',fG]
theorem Kd{T:TypeId}{x i:Operand}{k:Nat}{ls:List (List D)}(hu:P.underlying T=some (.slice (bl P T).elem))(hT:bl P (bl P T).elem=ti)(hok:ti.ok=true)(hs:ti.size=k)(ho:o.op=.indexAddr T x i)(hx:bT GL σ.sl x=some (.d (.sl k ls)))(hi:bT GL σ.sl i=some (.d (.v (.int kd j))))(h0:0≤j)(he:ls[j.toNat]? =some e)(hK:K (.d (.cp e)) []):ak P GL o σ K:=
 vx hu hT hok hs ho (.inl hx) hi h0 he hK
theorem cu{T:TypeId}{x i:Operand}{k:Nat}{ls:List (List D)}(hu:P.underlying T=some (.slice (bl P T).elem))(hT:bl P (bl P T).elem=ti)(hK:K (.d (.cp e)) [])(ho:o.op=.indexAddr T x i:=by exact rfl)(hx:bT GL σ.sl x=some (.d (.sl k ls)):=by exact rfl)(hi:bT GL σ.sl i=some (.d (.v (.int kd j))):=by exact rfl)(hok:ti.ok=true:=by exact rfl)(hs:ti.size=k:=by exact rfl)(h0:0≤j:=by omega)(he:ls[j.toNat]? =some e:=by omega):ak P GL o σ K:=Kd hu hT hok hs ho hx hi h0 he hK
theorem A0{T:TypeId}{x i:Operand}{k n:Nat}{ls:List (List D)}(hu:P.underlying T=some (.slice (bl P T).elem))(hT:bl P (bl P T).elem=ti)(hok:ti.ok=true)(hs:ti.size=k)(ho:o.op=.indexAddr T x i)(hx:bT GL σ.sl x=some (.own n k ls))(hi:bT GL σ.sl i=some (.d (.v (.int kd j))))(h0:0≤j)(he:ls[j.toNat]? =some e)(hK:K (.d (.cp e)) []):ak P GL o σ K:=
 vx hu hT hok hs ho (.inr ⟨n,hx⟩) hi h0 he hK
theorem F9{T:TypeId}{x i:Operand}{k n:Nat}{ls:List (List D)}(hu:P.underlying T=some (.slice (bl P T).elem))(hT:bl P (bl P T).elem=ti)(hK:K (.d (.cp e)) [])(ho:o.op=.indexAddr T x i:=by exact rfl)(hx:bT GL σ.sl x=some (.own n k ls):=by exact rfl)(hi:bT GL σ.sl i=some (.d (.v (.int kd j))):=by exact rfl)(hok:ti.ok=true:=by exact rfl)(hs:ti.size=k:=by exact rfl)(h0:0≤j:=by omega)(he:ls[j.toNat]? =some e:=by omega):ak P GL o σ K:=A0 hu hT hok hs ho hx hi h0 he hK
def bq(s:ByteArray)(i:Nat):Int:=(s.data.getD i 0).toNat
theorem LW{T:TypeId}{x i:Operand}{s:ByteArray}(hu:P.underlying T=some .string)(ho:o.op=.index T x i)(hx:bT GL σ.sl x=some (.d (.v (.string s))))(hi:bT GL σ.sl i=some (.d (.v (.int kd j))))(h01:0≤j∧j<s.size)(hK:K (.d (.v (.int .u8 (bq s j.toNat)))) []):ak P GL o σ K:=eg fun B g a w hr=>by
 obtain⟨h0,h1⟩:=h01;have h2:a.eval x=.string s:=hr.fk hx;have h3:a.eval i=.int kd j:=hr.fk hi;refine⟨.d (.v (.int .u8 (bq s j.toNat))),.int .u8 (bq s j.toNat),fun w'=>?_,rfl,hK⟩;have hd:j.toNat<s.data.size:=by have:s.data.size=s.size:=rfl;omega
 simp only[execOp,ho,h2,h3,Sem.run_bind,run_index_string w' T s kd j hu,dif_pos (And.intro h0 h1),Result.andThen_ok,bq,Array.getD,hd,dite_true];rfl
theorem Fs{T:TypeId}{x i:Operand}{s:ByteArray}(hu:P.underlying T=some .string)(hK:K (.d (.v (.int .u8 (bq s j.toNat)))) [])(ho:o.op=.index T x i:=by exact rfl)(hx:bT GL σ.sl x=some (.d (.v (.string s))):=by exact rfl)(hi:bT GL σ.sl i=some (.d (.v (.int kd j))):=by exact rfl)(h01:0≤j∧j<s.size:=by omega):ak P GL o σ K:=LW hu ho hx hi h01 hK
theorem jm{i:Int}{y:Nat}{c:BoundsCode}(h0:0≤i)(h1:i≤y)(w:World):(Instr.sliceBound (.int kd i) y c).run P w=.ok i.toNat w:=by
 simp[Instr.sliceBound,asIntOf,h0,h1]
variable {lo hi:Operand} {h:Int} {k1 k2:IntKind}
theorem HJ{T:TypeId}{x:Operand}{s:ByteArray}{l:Int}(hu:P.underlying T=some .string)(ho:o.op=.slice T x (some lo) (some hi) none)(hx:bT GL σ.sl x=some (.d (.v (.string s))))(hl:bT GL σ.sl lo=some (.d (.v (.int k1 l))))(hh:bT GL σ.sl hi=some (.d (.v (.int k2 h))))(hb:0≤l∧l≤h∧h≤s.size)
 (hK:K (.d (.v (.string (s.extract l.toNat h.toNat)))) []):ak P GL o σ K:=eg fun B g a w hr=>by
 obtain⟨h0,h1,h2⟩:=hb;have e1:a.eval x=.string s:=hr.fk hx;have e2:a.eval lo=.int k1 l:=hr.fk hl;have e3:a.eval hi=.int k2 h:=hr.fk hh;refine⟨.d (.v (.string (s.extract l.toNat h.toNat))),_,fun w'=>?_,rfl,hK⟩;simp[execOp,ho,e1,e2,e3,Instr.sliceAt,Instr.slice,run_underlying hu,Instr.sliceBounds,jm (P:=P) (i:=_) (y:=_) (by omega:(0:Int)≤_) h2];rw[jm (by omega) (by omega)];simp
theorem qq{T:TypeId}{x:Operand}{s:ByteArray}{l:Int}(hu:P.underlying T=some .string)(hK:K (.d (.v (.string (s.extract l.toNat h.toNat)))) [])(ho:o.op=.slice T x (some lo) (some hi) none:=by exact rfl)(hx:bT GL σ.sl x=some (.d (.v (.string s))):=by exact rfl)(hl:bT GL σ.sl lo=some (.d (.v (.int k1 l))):=by exact rfl)(hh:bT GL σ.sl hi=some (.d (.v (.int k2 h))):=by exact rfl)(hb:0≤l∧l≤h∧h≤s.size:=by omega):ak P GL o σ K:=HJ hu ho hx hl hh hb hK
theorem J9{T:TypeId}{x:Operand}{s:ByteArray}{l:Int}(hu:P.underlying T=some .string)(ho:o.op=.slice T x (some lo) none none)(hx:bT GL σ.sl x=some (.d (.v (.string s))))(hl:bT GL σ.sl lo=some (.d (.v (.int k1 l))))(hb:0≤l∧l≤s.size)
 (hK:K (.d (.v (.string (s.extract l.toNat s.size)))) []):ak P GL o σ K:=eg fun B g a w hr=>by
 obtain⟨h0,h1⟩:=hb;have e1:a.eval x=.string s:=hr.fk hx;have e2:a.eval lo=.int k1 l:=hr.fk hl;refine⟨.d (.v (.string (s.extract l.toNat s.size))),_,fun w'=>?_,rfl,hK⟩;simp[execOp,ho,e1,e2,Instr.sliceAt,Instr.slice,run_underlying hu,Instr.sliceBounds];rw[jm (by omega) (by omega)];simp
def cY{α:Type}:Nat→List α→Option α
 |_,[]=>none
 |0,x::_=>some x
 |n+1,_::r=>cY n r
theorem bR{α:Type}:∀{n:Nat} {l:List α} {x:α},cY n l=some x→l[n]? =some x
 |0,[],_,h=>by cases h
 |_+1,[],_,h=>by cases h
 |0,y::l,x,h=>by simpa[cY] using h
 |n+1,y::l,x,h=>by simpa using bR (n:=n) (l:=l) h
theorem E1{x:Operand}{l:List SV}{s:SV}(ho:o.op=.extract x i)(hx:bT GL σ.sl x=some (.bZ l))(hi:cY i l=some s)(hK:K s []):ak P GL o σ K:=eg fun B g a w hr=>by
 obtain⟨vs,h1,hd⟩:=hr.fk hx;obtain⟨y,hy,hdy⟩:=hd.get (bR hi);exact⟨s,y,fun w'=>by simp[execOp,ho,h1,Instr.extract,hy],hdy,hK⟩
theorem Q4{x:Operand}{l:List SV}{s:SV}(hK:K s [])(ho:o.op=.extract x i:=by exact rfl)(hx:bT GL σ.sl x=some (.bZ l):=by exact rfl)(hi:cY i l=some s:=by exact rfl):ak P GL o σ K:=E1 ho hx hi hK
theorem Bb{x:Operand}{s:D}(ho:o.op=.extract x i)(hx:bT GL σ.sl x=some (.d (.bZ l)))(hi:cY i l=some s)(hK:K (.d s) []):ak P GL o σ K:=eg fun B g a w hr=>by
 obtain⟨vs,h1,hd⟩:=hr.fk hx;obtain⟨y,hy,hdy⟩:=hd.get (bR hi);exact⟨.d s,y,fun w'=>by simp[execOp,ho,h1,Instr.extract,hy],hdy,hK⟩
theorem OY{x:Operand}{s:D}(hK:K (.d s) [])(ho:o.op=.extract x i:=by exact rfl)(hx:bT GL σ.sl x=some (.d (.bZ l)):=by exact rfl)(hi:cY i l=some s:=by exact rfl):ak P GL o σ K:=Bb ho hx hi hK
theorem zT{T:TypeId}{x:Operand}{k:Nat}{ls:List (List D)}{ty:Array TypeId}(hu:P.underlying T=some (.slice (bl P T).elem))(ho:o.op=.call { callee:=.builtin .len,args:= #[x],argTypes:= #[T] })
 (hx:bT GL σ.sl x=some (.d (.sl k ls))∨∃i,bT GL σ.sl x=some (.own i k ls)) (hK:K (.d (.v (.int .i64 ls.length))) []):ak P GL o σ K:=eg fun B g a w hr=>by
 have hxx:(D.sl k ls).Den g.m (a.eval x):=by
  rcases hx with hx|⟨i,hx⟩
  ·exact hr.fk hx
  ·exact wT (hr.fk hx)
 obtain⟨ad,cap,h1,hc,hd⟩:=hxx;exact⟨.d (.v (.int .i64 ls.length)),.int .i64 ls.length,fun w'=>by simp[execOp,ho,h1,resolve,invoke,builtin,Builtin.len_,run_underlying hu,goInt],rfl,hK⟩
theorem N5{T:TypeId}{x:Operand}{k:Nat}{ls:List (List D)}(hu:P.underlying T=some (.slice (bl P T).elem))(ho:o.op=.call { callee:=.builtin .len,args:= #[x],argTypes:= #[T] })
 (hx:bT GL σ.sl x=some (.d (.sl k ls))) (hK:K (.d (.v (.int .i64 ls.length))) []):ak P GL o σ K:=zT (ty:= #[]) hu ho (.inl hx) hK
theorem Pu{T:TypeId}{x:Operand}{k:Nat}{ls:List (List D)}(hu:P.underlying T=some (.slice (bl P T).elem))(hK:K (.d (.v (.int .i64 ls.length))) [])(ho:o.op=.call { callee:=.builtin .len,args:= #[x],argTypes:= #[T] }:=by exact rfl)(hx:bT GL σ.sl x=some (.d (.sl k ls)):=by exact rfl):ak P GL o σ K:=N5 hu ho hx hK
theorem EX{T:TypeId}{x:Operand}{k:Nat}{ls:List (List D)}(hu:P.underlying T=some (.slice (bl P T).elem))(ho:o.op=.call { callee:=.builtin .len,args:= #[x],argTypes:= #[T] })
 (hx:bT GL σ.sl x=some (.own i k ls)) (hK:K (.d (.v (.int .i64 ls.length))) []):ak P GL o σ K:=zT (ty:= #[]) hu ho (.inr ⟨i,hx⟩) hK
theorem RU{T:TypeId}{x:Operand}{k:Nat}{ls:List (List D)}(hu:P.underlying T=some (.slice (bl P T).elem))(hK:K (.d (.v (.int .i64 ls.length))) [])(ho:o.op=.call { callee:=.builtin .len,args:= #[x],argTypes:= #[T] }:=by exact rfl)(hx:bT GL σ.sl x=some (.own i k ls):=by exact rfl):ak P GL o σ K:=EX hu ho hx hK
theorem Kc{T:TypeId}{x:Operand}{s:ByteArray}(hu:P.underlying T=some .string)(ho:o.op=.call { callee:=.builtin .len,args:= #[x],argTypes:= #[T] })
 (hx:bT GL σ.sl x=some (.d (.v (.string s)))) (hK:K (.d (.v (.int .i64 s.size))) []):ak P GL o σ K:=eg fun B g a w hr=>by
 have h1:a.eval x=.string s:=hr.fk hx;exact⟨.d (.v (.int .i64 s.size)),.int .i64 s.size,fun w'=>by simp[execOp,ho,h1,resolve,invoke,builtin,Builtin.len_,run_underlying hu,goInt],rfl,hK⟩
theorem RT{T:TypeId}{x:Operand}{s:ByteArray}(hu:P.underlying T=some .string)(hK:K (.d (.v (.int .i64 s.size))) [])(ho:o.op=.call { callee:=.builtin .len,args:= #[x],argTypes:= #[T] }:=by exact rfl)(hx:bT GL σ.sl x=some (.d (.v (.string s))):=by exact rfl):ak P GL o σ K:=Kc hu ho hx hK
theorem EY{T:TypeId}{x:Operand}{n c:Nat}(hu:P.underlying T=some (.slice (bl P T).elem))(ho:o.op=.call { callee:=.builtin .len,args:= #[x],argTypes:= #[T] })
 (hx:bT GL σ.sl x=some (.d (.v (.slice none n c)))) (hK:K (.d (.v (.int .i64 n))) []):ak P GL o σ K:=eg fun B g a w hr=>by
 have h1:a.eval x=.slice none n c:=hr.fk hx;exact⟨.d (.v (.int .i64 n)),.int .i64 n,fun w'=>by simp[execOp,ho,h1,resolve,invoke,builtin,Builtin.len_,run_underlying hu,goInt],rfl,hK⟩
theorem Qz{T:TypeId}{x:Operand}{n c:Nat}(hu:P.underlying T=some (.slice (bl P T).elem))(hK:K (.d (.v (.int .i64 n))) [])(ho:o.op=.call { callee:=.builtin .len,args:= #[x],argTypes:= #[T] }:=by exact rfl)(hx:bT GL σ.sl x=some (.d (.v (.slice none n c))):=by exact rfl):ak P GL o σ K:=EY hu ho hx hK
variable {ts:Array TypeId}
theorem N2{x y:Operand}{m n:Int}(ho:o.op=.call { callee:=.builtin .max,args:= #[x,y],argTypes:=ts })(hx:bT GL σ.sl x=some (.d (.v (.int .i64 m))))(hy:bT GL σ.sl y=some (.d (.v (.int .i64 n))))(hK:K (.d (.v (.int .i64 (max m n)))) []):ak P GL o σ K:=eg fun B g a w hr=>by
 have e1:a.eval x=.int .i64 m:=hr.fk hx;have e2:a.eval y=.int .i64 n:=hr.fk hy;have e3:(if n>m then n else m)=max m n:=by split<;>omega
 exact⟨.d (.v (.int .i64 (max m n))),.int .i64 (max m n),fun w'=>by
  simp only[execOp,ho,resolve,invoke,builtin,Builtin.max_,Builtin.max2,Sem.run_bind,Sem.run_pure,Result.andThen_ok,List.map_toArray,List.map_cons,List.map_nil,e1,e2,List.foldlM_cons,List.foldlM_nil,e3],rfl,hK⟩
theorem PF{x y:Operand}{m n:Int}(hK:K (.d (.v (.int .i64 (max m n)))) [])(ho:o.op=.call { callee:=.builtin .max,args:= #[x,y],argTypes:=ts }:=by exact rfl)(hx:bT GL σ.sl x=some (.d (.v (.int .i64 m))):=by exact rfl)(hy:bT GL σ.sl y=some (.d (.v (.int .i64 n))):=by exact rfl):ak P GL o σ K:=N2 ho hx hy hK
end
end Go.Vd
namespace Go.Vd
open Go Go.RowKit
def Lx:D→Bool
 | .v (.agg _)=>false
 | .v (.tuple _)=>false
 | .agg _=>false
 | .bZ _=>false
 |_=>true
def Cs:SV→Bool
 | .d x=>Lx x
 | .agg _=>false
 | .bZ _=>false
 | .gG=>false
 |_=>true
theorem Ct{m:Mem}{d:D}{x:Value}(h:Lx d=true)(hd:d.Den m x):x.oneCell'=true:=by
 cases d with
 |v y=>simp only[D.Den] at hd;subst hd;cases x<;>first|rfl|cases h
 |agg l=>cases h
 |bZ l=>cases h
 |sl k l=>obtain⟨a,c,rfl,_⟩:=hd;rfl
 |cp l=>obtain⟨b,off,rfl,_⟩:=hd;rfl
 |me T d=>obtain⟨y,rfl,_⟩:=hd;rfl
variable {g:Gh} {s:SV}
theorem zy{x:Value}(h:Cs s=true)(hd:s.Den g x):x.oneCell'=true:=by
 cases s with
 |d y=>exact Ct h hd
 |cb i off=>obtain⟨b,_,rfl⟩:=hd;rfl
 |agg l=>cases h
 |bZ l=>cases h
 |own i k ls=>obtain⟨b,c,_,rfl,_⟩:=hd;rfl
 |fn f a b=>obtain⟨vs,us,rfl,_⟩:=hd;rfl
 |me T s=>obtain⟨y,rfl,_⟩:=hd;rfl
 |map i=>obtain⟨b,_,rfl⟩:=hd;rfl
 |rp i=>obtain⟨b,cap,n,_,rfl⟩:=hd;rfl
 |arr i n=>obtain⟨b,cap,_,rfl⟩:=hd;rfl
 |bp i off=>obtain⟨b,cap,n,_,rfl⟩:=hd;rfl
 |yF k ls=>obtain⟨a,rfl,_⟩:=hd;rfl
 |gG=>cases h
def gO:List SV→Bool
 |[]=>true
 |s::r=>cond (Cs s) (gO r) false
theorem jK{g:Gh}:∀{l:List SV} {vs:List Value},gO l=true→bC g l vs→∀x∈vs,x.oneCell'=true
 |[],_,_,h,x,hx=>by cases h;cases hx
 |s::r,_,h,⟨y,l',e,h1,h2⟩,x,hx=>by
  subst e;unfold gO at h;cases hs:Cs s with
  |false=>rw[hs] at h;cases h
  |true=>
   rw[hs] at h;cases hx with
   |head=>exact zy hs h1
   |tail _ hx=>exact jK h h2 x hx
def CF:List D→Option (List SV)
 |[]=>some []
 |d::r=>(CF r).bind fun l=>some (.d d::l)
theorem AO:∀{l:List D} {r:List SV},CF l=some r→r=l.map SV.d
 |[],r,h=>by simp[CF] at h;simp[h]
 |d::l,r,h=>by
  simp only[CF,Option.bind_eq_some_iff,Option.some.injEq] at h;obtain⟨r',h1,rfl⟩:=h;simp[AO h1]
def pA:List Value→Option (List SV)
 |[]=>some []
 |d::r=>(pA r).bind fun l=>some (.d (.v d)::l)
theorem tB:∀{l:List Value} {r:List SV},pA l=some r→r=l.map fun x=>SV.d (.v x)
 |[],r,h=>by simp[pA] at h;simp[h]
 |d::l,r,h=>by
  simp only[pA,Option.bind_eq_some_iff,Option.some.injEq] at h;obtain⟨r',h1,rfl⟩:=h;simp[tB h1]
def jQ(ag:Bool)(s:SV):Option (List SV):=
 cond ag (match s with| .agg cs=>some cs| .d (.agg ds)=>CF ds| .d (.v (.agg arr))=>pA arr.toList|_=>none) (cond (Cs s) (some [s]) none)
variable {ag:Bool} {cs:List SV}
theorem jw{x:Value}(h:jQ ag s=some cs)(d:s.Den g x):bC g cs x.cells.toList:=by
 unfold jQ at h;cases ag with
 |false=>
  simp only[cond_false] at h;cases h1:Cs s with
  |false=>rw[h1] at h;cases h
  |true=>
   rw[h1] at h;simp only[cond_true,Option.some.injEq] at h;subst h;rw[Value.Ab (zy h1 d)];exact⟨x,[],rfl,d,rfl⟩
 |true=>
  simp only[cond_true] at h;split at h
  ·simp only[Option.some.injEq] at h;subst h;obtain⟨l,rfl,hd⟩:=d;exact hd
  ·rw [AO h];obtain⟨l,rfl,hd⟩:=d;exact bC.QW hd
  ·rw [tB h];cases d;exact bC.Qx _
  ·cases h
def wE:Nat→List SV→List SV→Option (List SV)
 |0,[],l=>some l
 |0,_::_,[]=>none
 |0,s::r,_::l=>(wE 0 r l).bind fun l'=>some (s::l')
 |n+1,cs,[]=>none
 |n+1,cs,x::l=>(wE n cs l).bind fun l'=>some (x::l')
theorem tq:∀{n:Nat} {cs l r:List SV},wE n cs l=some r→n+cs.length≤l.length∧r=l.take n++cs++l.drop (n+cs.length)
 |0,[],l,r,h=>by simp[wE] at h;subst h;simp
 |0,s::cs,[],r,h=>by cases h
 |0,s::cs,x::l,r,h=>by
  simp only[wE,Option.bind_eq_some_iff,Option.some.injEq] at h;obtain⟨r',h1,rfl⟩:=h;have:=tq h1;simp at this ⊢;exact⟨by omega,this.2⟩
 |n+1,cs,[],r,h=>by cases h
 |n+1,cs,x::l,r,h=>by
  simp only[wE,Option.bind_eq_some_iff,Option.some.injEq] at h;obtain⟨r',h1,rfl⟩:=h;have:=tq h1;refine⟨by simp;omega,?_⟩;rw[this.2,show n+1+cs.length=(n+cs.length)+1 by omega];simp
variable {vs:List Value}
theorem BM{n:Nat}{l r:List SV}(h:wE n cs l=some r){us:List Value}(hl:bC g l vs)(hc:bC g cs us):bC g r (vs.take n++us++vs.drop (n+us.length)):=by
 obtain⟨h1,rfl⟩:=tq h;rw[hc.length];exact((hl.take n).append hc).append (hl.drop _)
section
variable {P:Program} {GL:Nat→List D} {o:Oper} {σ:St}
def om(ag:Bool)(cs:List SV):Option SV:=cond ag (some (.agg cs)) (match cs with|[s]=>some s|_=>none)
theorem uI(h:om ag cs=some s)(hd:bC g cs vs):s.Den g (if ag then .agg ⟨vs⟩ else vs.headD undef):=by
 unfold om at h;cases ag with
 |true=>simp only[cond_true,Option.some.injEq] at h;subst h;exact⟨vs,rfl,hd⟩
 |false=>
  simp only[cond_false] at h;split at h
  ·simp only[Option.some.injEq] at h;subst h;obtain⟨x,l',rfl,h1,_⟩:=hd;exact h1
  ·cases h
variable {T:TypeId} {off:Nat} {xs:List Value}
theorem nH{Hc:List (Addr×Value)}{b:Nat}(hok:(bl P T).ok=true)(hl:xs.length=(bl P T).size)(h1:(bl P T).agg=false→xs.length=1)
 (hH:∀(j:Nat) x,xs[j]? =some x→((⟨b,off+j,none⟩:Addr),x)∈Hc) (w:World) (hc:CH Hc w):
 (Instr.loadAt T (.pointer (some ⟨b,off,none⟩))).run P w=.ok (if (bl P T).agg then .agg ⟨xs⟩ else xs.headD undef) w:=by
 have:=iG hok (w:=w) (b:=b) (off:=off) hl (fun j x hj=>hc _ (hH j x hj)) (fun hag=>by
  have e:=h1 hag
  match xs,e with
  |[y],_=>exact⟨y,rfl⟩)
 simpa[Instr.loadAt,Instr.sureAddr] using this
theorem AN{α:Type}(f:Value×Nat→α){j:Nat}{x:Value}(h:xs[j]? =some x):f (x,j)∈xs.zipIdx.map f:=by
 refine List.mem_map.2 ⟨(x,j),?_,rfl⟩;rw[List.mem_zipIdx_iff_getElem?];exact h
theorem uH(h:om false cs=some s):cs.length=1:=by
 unfold om at h;simp only[cond_false] at h;split at h
 ·rfl
 ·cases h
variable {x:Operand} {K:SV→List Nat→Prop} {i:Nat} {ty:TypeId} {l1:List SV} {ti:TI}
theorem C5{l:List SV}(hT:bl P T=ti)(hok:ti.ok=true)(ho:o.op=.load T x)(hx:bT GL σ.sl x=some (.cb i off))(hi:cY i σ.ob=some (.cells l ty))
 (hl:gS off l=some l1) (hc:nS ti.size l1=some cs) (hs:om ti.agg cs=some s) (hK:K s [i]):ak P GL o σ K:=fun B g a w hr=>by
 subst hT;obtain⟨b,hb,h1⟩:=hr.fk hx;obtain⟨vs,hh,hd,hm⟩:=hr.store.gX i _ _ (bR hi) hb;have hl':=lJ hl;have hc':=tk hc;have hd2:bC g cs ((vs.drop off).take (bl P T).size):=by rw[← hc'.1,←hl'.1];exact(hd.drop off).take _
 have hlen:((vs.drop off).take (bl P T).size).length=(bl P T).size:=by rw[hd2.length,←hc'.1];simp;omega
 refine⟨((vs.drop off).take (bl P T).size).zipIdx.map fun p=>(⟨b,off+p.2,none⟩,p.1),s,_,[i],fun w' hcw=>?_,fun p hp=>?_,fun p hp=>?_,uI hs hd2,hK⟩
 ·have:=nH (P:=P) hok hlen (fun hag=>by rw[hag] at hs;have:=uH hs;rw[hd2.length,this]) (b:=b) (off:=off) (fun j y hj=>AN (fun p=>((⟨b,off+p.2,none⟩:Addr),p.1)) hj) w' hcw;simp only[execOp,ho,h1,Sem.run_bind,this,Result.andThen_ok,Sem.run_pure]
 ·obtain ⟨⟨y,j⟩,hq,rfl⟩:=List.mem_map.1 hp;rw[List.mem_zipIdx_iff_getElem?] at hq;rw[List.getElem?_take] at hq;split at hq
  ·rw [List.getElem?_drop] at hq;simp only[World.cell?,hh]
   simpa using hq
  ·cases hq
 ·obtain ⟨⟨y,j⟩,hq,rfl⟩:=List.mem_map.1 hp;exact⟨rfl,.inr ⟨i,b,by simp,hb,rfl⟩⟩
theorem DJ{l:List SV}(hT:bl P T=ti)(hK:K s [i])(ho:o.op=.load T x:=by exact rfl)(hx:bT GL σ.sl x=some (.cb i off):=by exact rfl)(hi:cY i σ.ob=some (.cells l ty):=by exact rfl)(hok:ti.ok=true:=by exact rfl)(hl:gS off l=some l1:=by exact rfl)(hc:nS ti.size l1=some cs:=by exact rfl)(hs:om ti.agg cs=some s:=by exact rfl):ak P GL o σ K:=C5 hT hok ho hx hi hl hc hs hK
variable {l ds:List D}
theorem EW(hT:bl P T=ti)(hok:ti.ok=true)(ho:o.op=.load T x)(hx:bT GL σ.sl x=some (.d (.cp l)))
 (hc:nS ti.size l=some ds) (hm:CF ds=some cs) (hs:om ti.agg cs=some s) (hK:K s []):ak P GL o σ K:=fun B g a w hr=>by
 subst hT;obtain⟨b,off,h1,hd⟩:=hr.fk hx;have hc':=tk hc;have hd2:=hd.take (bl P T).size;rw[hc'.1] at hd2;obtain⟨vs,hv,hcell⟩:=hd2.G1;have hlen:vs.length=(bl P T).size:=by rw[hv.length,←hc'.1];simp;omega
 have hsd:bC g cs vs:=by rw[AO hm];exact bC.QW hv
 refine⟨vs.zipIdx.map fun p=>(⟨b,off+p.2,none⟩,p.1),s,_,[],fun w' hcw=>?_,fun p hp=>?_,fun p hp=>?_,uI hs hsd,hK⟩
 ·have:=nH (P:=P) hok hlen (fun hag=>by rw[hag] at hs;have:=uH hs;rw[hsd.length,this]) (b:=b) (off:=off) (fun j y hj=>AN (fun p=>((⟨b,off+p.2,none⟩:Addr),p.1)) hj) w' hcw;simp only[execOp,ho,h1,Sem.run_bind,this,Result.andThen_ok,Sem.run_pure]
 ·obtain ⟨⟨y,j⟩,hq,rfl⟩:=List.mem_map.1 hp;rw[List.mem_zipIdx_iff_getElem?] at hq;exact(hr.store.sat _ _ _ (hcell j y hq)).1
 ·obtain ⟨⟨y,j⟩,hq,rfl⟩:=List.mem_map.1 hp;rw[List.mem_zipIdx_iff_getElem?] at hq;exact⟨rfl,.inl (hcell j y hq)⟩
theorem JR(hT:bl P T=ti)(hK:K s [])(ho:o.op=.load T x:=by exact rfl)(hx:bT GL σ.sl x=some (.d (.cp l)):=by exact rfl)(hok:ti.ok=true:=by exact rfl)(hc:nS ti.size l=some ds:=by exact rfl)(hm:CF ds=some cs:=by exact rfl)(hs:om ti.agg cs=some s:=by exact rfl):ak P GL o σ K:=EW hT hok ho hx hc hm hs hK
theorem C6(hT:bl P T=ti)(hok:ti.ok=true)(hag:ti.agg=true)(ho:o.op=.load T x)(hx:bT GL σ.sl x=some (.d (.cp l)))(hlen:l.length=ti.size)(hK:K (.d (.agg l)) []):ak P GL o σ K:=fun B g a w hr=>by
 subst hT;obtain⟨b,off,h1,hd⟩:=hr.fk hx;obtain⟨vs,hv,hcell⟩:=hd.G1;have hlen2:vs.length=(bl P T).size:=by rw[hv.length,hlen]
 refine⟨vs.zipIdx.map fun p=>(⟨b,off+p.2,none⟩,p.1),.d (.agg l),.agg ⟨vs⟩,[],fun w' hcw=>?_,fun p hp=>?_,fun p hp=>?_,⟨vs,rfl,hv⟩,hK⟩
 ·have:=nH (P:=P) hok hlen2 (fun hag'=>by rw[hag] at hag';cases hag') (b:=b) (off:=off) (fun j y hj=>AN (fun p=>((⟨b,off+p.2,none⟩:Addr),p.1)) hj) w' hcw;rw[hag] at this;simp only[execOp,ho,h1,Sem.run_bind,this,Result.andThen_ok,Sem.run_pure];rfl
 ·obtain ⟨⟨y,j⟩,hq,rfl⟩:=List.mem_map.1 hp;rw[List.mem_zipIdx_iff_getElem?] at hq;exact(hr.store.sat _ _ _ (hcell j y hq)).1
 ·obtain ⟨⟨y,j⟩,hq,rfl⟩:=List.mem_map.1 hp;rw[List.mem_zipIdx_iff_getElem?] at hq;exact⟨rfl,.inl (hcell j y hq)⟩
theorem Pv(hT:bl P T=ti)(hK:K (.d (.agg l)) [])(ho:o.op=.load T x:=by exact rfl)(hx:bT GL σ.sl x=some (.d (.cp l)):=by exact rfl)(hok:ti.ok=true:=by exact rfl)(hag:ti.agg=true:=by exact rfl)(hlen:l.length=ti.size:=by omega):ak P GL o σ K:=C6 hT hok hag ho hx hlen hK
def E7(GL:Nat→List D)(sl:List (Nat×SV)):List (Nat×Operand)→Option (List (Nat×SV))
 |[]=>some []
 |(i,x)::r=>(bT GL sl x).bind fun s=>(E7 GL sl r).bind fun l=>some ((i,s)::l)
def xM(mr:List (Nat×Nat×Bool)):List SV→List (Nat×SV)→Option (List SV)
 |cells,[]=>some cells
 |cells,(i,s)::r=>(cY i mr).bind fun f=>(jQ f.2.2 s).bind fun cs=>cond (Nat.beq cs.length f.2.1) ((wE f.1 cs cells).bind fun c'=>xM mr c' r) none
theorem Kj{mr:List (Nat×Nat×Bool)}{place:Nat→Option (Nat×Nat)}(hp:∀(i:Nat) o sz ag,mr[i]? =some (o,sz,ag)→place i=some (o,sz))(ρ:Operand→Value){sl:List (Nat×SV)}(hρ:∀x s,bT GL sl x=some s→s.Den g (ρ x)):
 ∀{ps:List (Nat×Operand)} {es:List (Nat×SV)} {cs:List SV} {l:List Value} {out:List SV},bC g cs l→E7 GL sl ps=some es→xM mr cs es=some out→
  ∃l',Instr.fill place ⟨l⟩ (ps.map fun p=>(p.1,ρ p.2))=some ⟨l'⟩∧bC g out l':=by
 intro ps
 induction ps with
 |nil=>
  intro es cs l out hd he hf;simp only[E7,Option.some.injEq] at he;subst he;simp only[xM,Option.some.injEq] at hf;subst hf;exact⟨l,rfl,hd⟩
 |cons p r ih=>
  intro es cs l out hd he hf;obtain⟨i,x⟩:=p;simp only[E7,Option.bind_eq_some_iff,Option.some.injEq] at he;obtain⟨s,hs,es',hes,rfl⟩:=he;simp only[xM,Option.bind_eq_some_iff] at hf;obtain⟨⟨o,sz,ag⟩,hfl,cs1,hcs,hf⟩:=hf;cases hb:Nat.beq cs1.length sz with
  |false=>simp only[hb,cond_false] at hf;cases hf
  |true=>
   simp only[hb,cond_true,Option.bind_eq_some_iff] at hf;obtain⟨c',hset,hf⟩:=hf;have hcd:=jw hcs (hρ x s hs);have hcl:=hcd.length;have hll:=hd.length;have hsz:cs1.length=sz:=by simpa using hb
   have h1:(ρ x).cells.size=sz:=by
    have:(ρ x).cells.toList.length=sz:=by omega
    simpa using this
   have hset2:=tq hset;simp only[List.map_cons,Instr.fill,hp i o sz ag (bR hfl)];have h3:(decide ((ρ x).cells.size≠sz)||decide (o+(ρ x).cells.size>(⟨l⟩:Array Value).size))=false:=by simp;omega
   rw[h3];simp only[Bool.false_eq_true,if_false];have hfold:((ρ x).cells.zipIdx.foldl (fun(cs:Array Value) (y:Value×Nat)=>cs.setIfInBounds (o+y.2) y.1) ⟨l⟩)=⟨l.take o++(ρ x).cells.toList++l.drop (o+(ρ x).cells.toList.length)⟩:=by
    have key:∀(vs:List Value) (k:Nat) (l:List Value),o+k+vs.length≤l.length→(vs.zipIdx k).foldl (fun(cs:Array Value) (y:Value×Nat)=>cs.setIfInBounds (o+y.2) y.1) ⟨l⟩=⟨l.take (o+k)++vs++l.drop (o+k+vs.length)⟩:=by
     intro vs
     induction vs with
     |nil=>intro k l hl;simp
     |cons v r ih2=>
      intro k l hl;simp only[List.length_cons] at hl;have e1:(⟨l⟩:Array Value).setIfInBounds (o+k) v=⟨l.set (o+k) v⟩:=by apply Array.ext';simp
      simp only[List.zipIdx_cons,List.foldl_cons,e1];rw[ih2 (k+1) _ (by simp;omega)]
      congr 1
      rw[List.take_set,List.drop_set];simp only[List.length_cons];rw[show o+(k+1)=o+k+1 by omega];rw[if_pos (by omega)];rw[List.take_add_one];have hlt:o+k<l.length:=by omega
      rw[List.set_append];have hmin:min (o+k) l.length=o+k:=by omega
      simp[hlt,hmin];rw[show o+k+1+r.length=o+k+(r.length+1) by omega]
    rw[← Array.foldl_toList,Array.toList_zipIdx];exact key _ 0 l (by omega)
   obtain⟨l',hl',hd'⟩:=ih (BM hset hd hcd) hes hf;refine⟨l',?_,hd'⟩;rw[← hl'];exact congrArg (fun z=>Instr.fill place z (r.map fun p=>(p.1,ρ p.2))) hfold
variable {z0:List SV} {es:List (Nat×SV)}
theorem Kf{ps:Array (Nat×Operand)}(hT:bl P T=ti)(hz:ti.K4=true)(hfk:ti.NX=true)(hfl:ti.NX=true)(ho:o.op=.build T ps)(he:E7 GL σ.sl ps.toList=some es)
 (hm:pA ti.zero=some z0) (hf:xM ti.mr z0 es=some cs) (hK:K (.agg cs) []):ak P GL o σ K:=eg fun B g a w hr=>by
 subst hT;have hz':∃i z,P.info? T=some i∧i.zero=some z∧(bl P T).zero=z.cells.toList:=by
  simp only[bl,Option.isSome_iff_exists,Option.bind_eq_some_iff] at hz;obtain⟨z,i,hi,hzz⟩:=hz;exact⟨i,z,hi,hzz,by simp[bl,hi,hzz]⟩
 obtain⟨i,z,hi,hzz,hze⟩:=hz';have hst:∃fs,P.underlying T=some (.struct fs)∧fs.toList.all (fun f=>(P.info? f.type).isSome)=true:=by
  unfold bl at hfl;simp only at hfl;split at hfl
  ·rename_i fs hfs;exact⟨fs,hfs,hfl⟩
  ·cases hfl
 obtain⟨fs,hfs,hall⟩:=hst;have hpl:fs.toList.mapM (fun f=>(P.info? f.type).map fun i=>(f.offset,i.size))=some (fs.toList.map fun f=>(f.offset,((P.info? f.type).map (·.size)).getD 0)):=by
  generalize fs.toList=l at hall
  induction l with
  |nil=>rfl
  |cons f r ih=>
   simp only[List.all_cons,Bool.and_eq_true] at hall;obtain⟨i,hi⟩:=Option.isSome_iff_exists.1 hall.1;simp[List.mapM_cons,hi,ih hall.2]
 have hflds:(bl P T).mr=fs.toList.map fun f=>(f.offset,((P.info? f.type).map (·.size)).getD 0,si (P.underlying f.type)):=by simp[bl,hfs]
 have hz0:bC g z0 z.cells.toList:=by rw[tB hm,hze];exact bC.Qx _
 obtain⟨l',hl',hd'⟩:=Kj (g:=g) (mr:=(bl P T).mr) (place:=((fs.toList.map fun f=>(f.offset,((P.info? f.type).map (·.size)).getD 0)).toArray[·]?)) (fun i o sz ag hf=>by
  rw[hflds,List.getElem?_map] at hf;cases hfd:fs.toList[i]? with
  |none=>rw[hfd] at hf;cases hf
  |some fd=>
   rw[hfd] at hf;simp only[Option.map_some,Option.some.injEq,Prod.mk.injEq] at hf;simp only[List.getElem?_toArray,List.getElem?_map,hfd,Option.map_some];rw[hf.1,hf.2.1]) a.eval (fun x s hx=>hr.fk hx) hz0 he hf
 have hb:P.built T (ps.map fun p=>(p.1,a.eval p.2)).toList=some ⟨l'⟩:=by
  unfold Program.built;simp only[hi,hfs,hzz,hpl,Array.toList_map];exact hl'
 refine⟨.agg cs,.agg ⟨l'⟩,fun w'=>?_,⟨l',rfl,hd'⟩,hK⟩;have:=run_build w' T (ps.map fun p=>(p.1,a.eval p.2)) ⟨l'⟩ hb;simp only[execOp,ho,Sem.run_bind];rw[this];rfl
theorem Ro{ps:Array (Nat×Operand)}(hT:bl P T=ti)(hK:K (.agg cs) [])(ho:o.op=.build T ps:=by exact rfl)(hz:ti.K4=true:=by exact rfl)(hfk:ti.NX=true:=by exact rfl)(hfl:ti.NX=true:=by exact rfl)(he:E7 GL σ.sl ps.toList=some es:=by exact rfl)(hm:pA ti.zero=some z0:=by exact rfl)(hf:xM ti.mr z0 es=some cs:=by exact rfl):ak P GL o σ K:=Kf hT hz hfk hfl ho he hm hf hK
end
end Go.Vd
namespace Go.Vd
open Go Go.RowKit
structure iY (P:Program) (t e:TypeId) (size bytes:Nat):Prop where
 under:P.underlying t=some (.slice e)
 info:(P.info? e).map (fun i=>(i.size,i.bytes))=some (size,bytes)
 zero:((P.info? e).bind (·.zero)).map (·.cells.size)=some size
structure FK (P:Program) (t k e:TypeId):Prop where
 under:P.underlying t=some (.map k e)
 key:P.underlying k=some .string
 zero:(P.info? e).bind (·.zero)=some (.pointer none)
theorem flat_get{s:Nat}(hs:0<s):∀(l:List Value) (k:Nat),(∀ v∈l,v.cells.size=s)→(l.flatMap fun v=>v.cells.toList)[k]? =(l[k/s]?).bind fun v=>v.cells[k%s]?
 |[],k,_=>by simp
 |v::r,k,h=>by
  have hv:v.cells.toList.length=s:=by simpa using h v List.mem_cons_self
  simp only[List.flatMap_cons,List.getElem?_append,hv];by_cases hk:k<s
  ·rw [if_pos hk,Nat.div_eq_of_lt hk,Nat.mod_eq_of_lt hk];simp
  ·rw [if_neg hk,flat_get hs r (k-s) fun u hu=>h u (List.mem_cons_of_mem _ hu)];have e1:k/s=(k-s)/s+1:=by rw[Nat.div_eq k s,if_pos ⟨hs,by omega⟩]
   have e2:k%s=(k-s)%s:=by rw[Nat.mod_eq k s,if_pos ⟨hs,by omega⟩]
   rw[e1,e2,List.getElem?_cons_succ]
theorem C2{s:Nat}:∀(l:List Value),(∀ v∈l,v.cells.size=s)→(l.flatMap fun v=>v.cells.toList).length=l.length*s
 |[],_=>by simp
 |v::r,h=>by
  have hv:v.cells.toList.length=s:=by simpa using h v List.mem_cons_self
  simp only[List.flatMap_cons,List.length_append,hv,C2 r fun u hu=>h u (List.mem_cons_of_mem _ hu),List.length_cons,Nat.add_mul];omega
section
variable {P:Program}
variable {t e:TypeId} {size bytes n:Nat}
theorem Lp{parts:Array (Nat×Operand)}{ρ:Operand→Value}(T:iY P t e size bytes)(xs:List Operand)(l:List Value)(hρ:xs.map ρ=l)
 (hp:parts.toList=(xs.zipIdx 0).map fun p=>(p.2,p.1)) (hn:n=l.length) (hs:∀v∈l,v.cells.size=size) (hsz:0<size) (hn0:0<n) (hbig:n*size≤16777216) (w:World):
 (Instr.buildSlice t n (parts.map fun(i,x)=>(i,ρ x))).run P w=.ok (.slice (some ⟨w.heap.size,0,none⟩) n n) (w.alloc (.cells ⟨l.flatMap fun v=>v.cells.toList⟩ e)):=by
 have hinfo:=T.info;have hzero:=T.zero;cases hi:P.info? e with
 |none=>simp[hi] at hinfo
 |some ie=>
  rw[hi] at hinfo hzero;simp only[Option.map_some,Option.some.injEq,Prod.mk.injEq,Option.bind_some] at hinfo hzero;cases hz:ie.zero with
  |none=>simp[hz] at hzero
  |some z=>
   rw[hz] at hzero;simp only[Option.map_some,Option.some.injEq] at hzero;obtain⟨h1,h2⟩:=hinfo;have hparts:(parts.map fun(x:Nat×Operand)=>(x.1,ρ x.2)).toList=(l.zipIdx 0).map fun x=>(x.2,x.1):=by
    rw[Array.toList_map,hp,←hρ];simp[List.zipIdx_map]
   obtain⟨r,hr,hrs,hrk⟩:=Great.fill_dense hsz l 0 ((Array.range (n*size)).map (z.cells[· %z.cells.size]!)) hs (by simp[hn]);have hrl:r=⟨l.flatMap fun v=>v.cells.toList⟩:=by
    apply Array.ext';apply List.ext_getElem?;intro k;have:=hrk k;rw[flat_get hsz l k hs];rw[Array.getElem?_toList,this];simp only[Nat.zero_mul,Nat.zero_le,true_and,Nat.zero_add,Nat.sub_zero];split
    ·rfl
    ·rename_i hk;have hk':n*size≤k:=by rw[hn];omega
     have h3:l.length≤k/size:=by rw[← hn];exact(Nat.le_div_iff_mul_le hsz).2 hk'
     simp only[List.getElem?_eq_none h3,Option.bind_none];rw[Array.getElem?_eq_none];simp;exact hk'
   have hrun:=run_buildSlice w t e n (parts.map fun(i,x)=>(i,ρ x)) r ie z T.under hi hz (by rw[h1];omega) (by rw[h1];intro h0;rcases Nat.mul_eq_zero.1 h0 with h|h<;>omega) (by rw[h1,←hr];congr 1);rw[hrun,hrl]
theorem FZ{w:World}{ty:TypeId}(T:iY P t e size bytes)(hsz:0<size){v:Value}{xs:List Value}(hown:w.ownsRow 0 e size v n xs)
 {a:Addr} {m c:Nat} {news:List Value} (hl:news.length=m*size) (hm:0<m) (hnews:∀j u,news[j]? =some u→w.cell? (a.add j)=some u) (h1:∀u∈news,u.oneCell'=true)
 (h63:n+m≤maxLen) (hbytes:(n+m)*bytes≤140737488355328):
 ∃v' w',(Builtin.append_ #[t,t] ty #[v,.slice (some a) m c]).run P w=.ok v' w'∧w'.ownsRow 0 e size v' (n+m) (xs++news)∧Fr (fun c=>v.ownBlock=some c∧v'.ownBlock=some c) w w'∧
  ∃k,v'.ownBlock=some k∧(v.ownBlock=some k∨k=w.heap.size)∧k<w'.heap.size∧∃c,v'=.slice (some ⟨k,0,none⟩) (n+m) c:=by
 have hinfo:=T.info;have hzero:=T.zero;cases hi:P.info? e with
 |none=>simp[hi] at hinfo
 |some i=>
  rw[hi] at hinfo hzero;simp only[Option.map_some,Option.some.injEq,Prod.mk.injEq,Option.bind_some] at hinfo hzero;cases hz:i.zero with
  |none=>simp[hz] at hzero
  |some z=>
  rw[hz] at hzero;simp only[Option.map_some,Option.some.injEq] at hzero;obtain⟨q1,q2⟩:=hinfo;subst q1;subst q2;have hsmall:n+m≤9223372036854775807:=by simp only[maxLen] at h63;omega
  have hlen:(xs++news).length=(n+m)*i.size:=by rw[List.length_append,hown.1,hl,Nat.add_mul]
  have grown:∀(old:Nat),old<n+m→
   (w.drew.alloc (.cells (xs.toArray++news.toArray++Builtin.zeroCells z.cells (grownCap w (n+m) old e-(n+m))) e)).ownsRow 0 e i.size
    (.slice (some ⟨w.heap.size,0,none⟩) (n+m) (grownCap w (n+m) old e)) (n+m) (xs++news):=by
   intro old ho;have hge:=grownCap_ge w (n+m) old e;have hcm:grownCap w (n+m) old e≤maxLen:=grownCap_le_maxLen w (n+m) old e h63;refine⟨hlen,.inr ⟨w.heap.size,_,_,rfl,Nat.zero_le _,heap_alloc_new w.drew _,hge,hcm,?_,?_⟩⟩
   ·simp only[Array.size_append,List.size_toArray,size_zeroCells,hzero,hown.1,hl,←Nat.add_mul]
    congr 1
    omega
   ·simp only[Array.toList_append,List.append_assoc];rw[← List.append_assoc,←hlen];exact List.take_left
  rcases hown.2 with⟨rfl,rfl⟩|⟨g,cap,cur,rfl,hbg,hg,hnc,hcm,hcs,htake⟩
  ·have hx:xs=[]:=List.eq_nil_of_length_eq_zero (by simpa using hown.1);subst hx;have hr:=run_append_nil (P:=P) w t ty e i z T.under hi hz a m c news hl hnews (by omega) (by omega) (by have hb:=hbytes;simp only[Nat.zero_add] at hb;omega);have hgr:=grown 0 (by omega);simp only[Nat.zero_add,List.nil_append,Array.empty_append] at hgr ⊢;exact⟨_,_,hr,hgr,((Fr.refl _ w).drew).alloc _,_,rfl,.inr rfl,by simp,_,rfl⟩
  ·by_cases hroom:n+m≤cap
   ·have hfit:n*i.size+news.length≤cur.size:=by rw[hl,hcs,←Nat.add_mul];exact Nat.mul_le_mul_right _ hroom
    have hr:=run_append_room (P:=P) w t ty e i T.under hi g n cap cur hg a m c news hl hnews h1 hroom hfit;refine⟨_,_,hr,⟨hlen,.inr ⟨g,cap,_,rfl,hbg,setRow_heap w g cur _ e _ hg,hroom,hcm,?_,?_⟩⟩,⟨rfl,rfl,rfl,by simp,fun k _ hk=>setRow_other w g k _ (fun e=>hk ⟨by simp[Value.ownBlock,e],by simp[Value.ownBlock,e]⟩)⟩,
     g,rfl,.inl rfl,by have:=(Array.getElem?_eq_some_iff.1 hg).1;simpa using this,_,rfl⟩
    ·simp only[List.size_toArray,List.length_append,List.length_take,List.length_drop,Array.length_toList];omega
    ·rw [htake,←hlen];exact List.take_left
   ·have holds:∀j u,xs[j]? =some u→w.cell? ((⟨g,0,none⟩:Addr).add j)=some u:=hown.cells (g:=g) rfl;have hr:=run_append_grow (P:=P) w t ty e i z T.under hi hz ⟨g,0,none⟩ n cap xs hown.1 holds a m c news hl hnews (by omega) (by omega) (growslice_fits (by omega) hbytes);have hgr:=grown cap (by omega);exact⟨_,_,hr,hgr,((Fr.refl _ w).drew).alloc _,_,rfl,.inr rfl,by simp,_,rfl⟩
end
end Go.Vd
namespace Go.Vd
open Go Go.RowKit
def tU(T:Nat→Prop)(ob:List Ob)(g:Gh)(w:World)(g':Gh)(w':World):Prop:=
 fP g.m g'.m∧∀(i b:Nat) o,¬T i→ob[i]? =some o→g.gs[i]? =some (.loc b)→dU o (.loc b)=some b→g'.gs[i]? =some (.loc b)∧w'.heap[b]? =w.heap[b]?
theorem tU.refl(T:Nat→Prop)(ob:List Ob)(g:Gh)(w:World):tU T ob g w g w:=⟨fP.refl _,fun _ _ _ _ _ h _=>⟨h,rfl⟩⟩
variable {g':Gh}
theorem iV.refl{g:Gh}(h:K7 g g'):∀o:Ob,iV g g' o o
 | .cells l ty=>⟨rfl,fun vs hd=>bC.mono h l hd⟩
 | .row e k=>⟨rfl,rfl⟩
 | .bX e k=>⟨rfl,rfl⟩
 | .buf e k ls q=>⟨rfl,rfl,rfl,rfl,fun vs hd=>dI.mono h.m _ hd⟩
 | .fK f=>rfl
 | .cV f=>⟨rfl,h.m⟩
 | .iI o k=>⟨rfl,rfl,h.m⟩
 | .jM i f dn cur=>⟨rfl,rfl,rfl,.inl rfl⟩
 | .dead=>trivial
section
variable {GL:Nat→List D} {B:Bs} {σ:St} {g:Gh} {a:Act} {w:World}
variable {ob ob':List Ob} {w':World}
theorem Aj.step(h:Aj B ob g w){X:Nat→Prop}(hf:Fr X w w')(hX:∀b,X b→B.X b∨B.w.heap.size≤b)(hm:fP g.m g'.m)
 (hnew:∀b o x,g'.m b o=some x→g.m b o=none→X b∨w.heap.size≤b)
 (hown:∀(i:Nat) o p b,ob'[i]? =some o→g'.gs[i]? =some p→cP o p b→(B.X b∨B.w.heap.size≤b)∨w.heap.size≤b)
 (hat:∀(i b:Nat),g.gs[i]? =some (.loc b)→g'.gs[i]? =some (.loc b)):Aj B ob' g' w':=by
 have hs:=h.fr.size;refine⟨h.fr.then hf (fun i hi=>by rcases hX i hi with h1|h1;exact .inl h1;exact .inr h1),h.mem.trans hm,fun b o x hx hn=>?_,fun i o p b h1 h2 h3=>?_,fun i b hi hb=>hat i b (h.at' i b hi hb)⟩
 ·cases hg:g.m b o with
  |some y=>exact h.new b o y hg hn
  |none=>
   rcases hnew b o x hx hg with h1|h1
   ·exact hX b h1
   ·exact .inr (by omega)
 ·rcases hown i o p b h1 h2 h3 with h4|h4
  ·exact h4
  ·exact .inr (by omega)
theorem cX.lt{ob:List Ob}(h:cX GL ob g w){i:Nat}{o:Ob}{p:Pl}{b:Nat}(ho:ob[i]? =some o)(hp:g.gs[i]? =some p)(hb:cP o p b):b<w.heap.size:=(h.gX i o p ho hp).lt hb
variable {b:Nat}
theorem cX.jl(h:cX GL ob g w){o:Nat}{x:Value}(hx:g.m b o=some x):b<w.heap.size:=World.block_lt_of_cell? w ⟨b,o,none⟩ (h.sat b o x hx).1
variable {m':Mem} {o':Ob} {pl:Pl}
theorem cE.AK(h:cE GL B σ g a w)(hf:Fr (fun _=>False) w w')(hm:fP g.m m')
 (hnew:∀b o x,m' b o=some x→g.m b o=none→w.heap.size≤b∧w'.cell? ⟨b,o,none⟩=some x∧x.oneCell'=true)
 (hok:eS ⟨m',g.gs++[pl]⟩ w' o' pl) (hblk:∀b,cP o' pl b→w.heap.size≤b) (hit:∀i f dn cur,o'=.jM i f dn cur→σ.ob[i]? =some (.fK f)):
 cE GL B ⟨σ.n,σ.sl,σ.ob++[o']⟩ ⟨m',g.gs++[pl]⟩ a w'∧tU (fun _=>False) σ.ob g w ⟨m',g.gs++[pl]⟩ w':=by
 have hlen:=h.store.len;have hle:K7 g ⟨m',g.gs++[pl]⟩:=⟨hm,fun i p hp=>by
  show(g.gs++[pl])[i]? =some p;rw[List.getElem?_append_left (List.getElem?_eq_some_iff.1 hp).1];exact hp⟩
 have hnone:∀b i,b<w.heap.size→g.m b i=none→m' b i=none:=fun b i hb hn=>by
  cases hx:m' b i with
  |none=>rfl
  |some x=>have:=(hnew b i x hx hn).1;omega
 have hlast:(g.gs++[pl])[σ.ob.length]? =some pl:=by rw[hlen];simp
 refine⟨⟨h.defers,h.size,fun t=>SV.Den.mono hle _ (h.da t),?_,?_⟩,hm,fun i b o _ ho hg hb=>⟨hle.gs _ _ hg,hf.block b (h.store.lt ho hg (eP hb)) (fun x=>x)⟩⟩
 ·refine h.store.step (p:=fun j=>j=σ.ob.length) hm (fun i b=>hle.gs i _) (fun i q _=>hle.gs i q) (fun b o x hx=>?_) (by simp[hlen]) (fun j o1 hj ho=>?_) (fun j i f dn cur ho=>?_) (fun j i f dn cur hj ho hi=>?_)
   (fun j o1 q b hj ho hq hb=>?_) (fun j o1 hj ho=>?_) (fun j o1 q b hj ho hq hb=>?_) (fun i j oi oj pi pj b hi hj _ _ _ _ _ _=>hi.trans hj.symm)
  ·cases hg:g.m b o with
   |some y=>
    have e:=hm b o y hg;simp only at hx;rw[e] at hx;cases hx;have hs:=h.store.sat b o x hg;refine⟨?_,hs.2⟩;rw[World.cell?_of_block (w:=w) (hf.block b (h.store.jl hg) (fun x=>x))];exact hs.1
   |none=>exact(hnew b o x hx hg).2
  ·have hlt:j<σ.ob.length:=by
    have:=(List.getElem?_eq_some_iff.1 ho).1;simp at this;omega
   rw[List.getElem?_append_left hlt] at ho;exact⟨o1,ho,iV.refl hle o1⟩
  ·by_cases hj:j<σ.ob.length
   ·rw [List.getElem?_append_left hj] at ho;have:=h.store.eD j i f dn cur ho;rw[List.getElem?_append_left (List.getElem?_eq_some_iff.1 this).1];exact this
   ·have hj':j=σ.ob.length:=by have:=(List.getElem?_eq_some_iff.1 ho).1;simp at this;omega
    subst hj';simp at ho;have:=hit i f dn cur ho;rw[List.getElem?_append_left (List.getElem?_eq_some_iff.1 this).1];exact this
  ·have hlt:j<σ.ob.length:=by
    have:=(List.getElem?_eq_some_iff.1 ho).1;simp at this;omega
   rw[List.getElem?_append_left hlt] at ho;have:=(List.getElem?_eq_some_iff.1 (h.store.eD j i f dn cur ho)).1;omega
  ·have hlt:=h.store.lt ho hq hb;exact⟨hf.block b hlt (fun x=>x),fun i hn=>hnone b i hlt hn⟩
  ·subst hj;simp at ho;subst ho;exact⟨pl,hlast,hok⟩
  ·subst hj;simp at ho;subst ho;simp only at hq;rw[hlast] at hq;cases hq;exact .inr (hblk b hb)
 ·refine h.fI.step hf (fun b hb=>hb.elim) hm (fun b o x hx hn=>.inr (hnew b o x hx hn).1) (fun i o p b h1 h2 h3=>?_) (fun i b=>hle.gs i _);by_cases hj:i<σ.ob.length
  ·rw [List.getElem?_append_left hj] at h1;simp only at h2;rw[List.getElem?_append_left (by omega)] at h2;exact .inl (h.fI.own i o p b h1 h2 h3)
  ·have hj':i=σ.ob.length:=by have:=(List.getElem?_eq_some_iff.1 h1).1;simp at this;omega
   subst hj';simp at h1;subst h1;simp only at h2;rw[hlast] at h2;cases h2;exact .inr (hblk b h3)
variable {i:Nat} {o:Ob}
theorem cE.Lc(h:cE GL B σ g a w)(ho:σ.ob[i]? =some o)(hpl:g.gs[i]? =some pl)(hb:dU o pl=some b)(hf:Fr (fun c=>c=b) w w')
 (hok:eS g w' o' pl) (hb':dU o' pl=some b∨o'=.dead) (hno:∀(j:Nat) f dn cur,σ.ob[j]? ≠some (.jM i f dn cur)) (hit:∀k f dn cur,o'=.jM k f dn cur→k≠i∧σ.ob[k]? =some (.fK f))
 (hmn:∀off,g.m b off=none):
 cE GL B ⟨σ.n,σ.sl,σ.ob.set i o'⟩ g a w'∧tU (fun j=>j=i) σ.ob g w g w':=by
 have hlen:=h.store.len;have hi:=(List.getElem?_eq_some_iff.1 ho).1;have hne:∀(j:Nat) oj pj c,j≠i→σ.ob[j]? =some oj→g.gs[j]? =some pj→cP oj pj c→c≠b:=fun j oj pj c hj h1 h2 h3 e=>by
  subst e;exact hj (h.store.oz j i oj o pj _ c h1 ho h2 hpl h3 (eP hb))
 refine⟨⟨h.defers,h.size,h.da,?_,?_⟩,fP.refl _,fun j c oj hj h1 h2 h3=>⟨h2,hf.block c (h.store.lt h1 h2 (eP h3)) (hne j oj _ c hj h1 h2 (eP h3))⟩⟩
 ·refine h.store.step (p:=fun j=>j=i) (fP.refl _) (fun _ _ h=>h) (fun _ _ _ h=>h) (fun c off x hx=>?_) (by simp[hlen]) (fun j o1 hj h1=>?_) (fun j k f dn cur h1=>?_) (fun j k f dn cur hj h1 hk=>?_)
   (fun j o1 q c hj h1 h2 h3=>⟨hf.block c (h.store.lt h1 h2 h3) (hne j o1 q c hj h1 h2 h3),fun _ h=>h⟩) (fun j o1 hj h1=>?_) (fun j o1 q c hj h1 h2 h3=>?_) (fun i j oi oj pi pj b hi hj _ _ _ _ _ _=>hi.trans hj.symm)
  ·have hs:=h.store.sat c off x hx;refine⟨?_,hs.2⟩;have hcb:¬c=b:=fun e=>by subst e;rw[hmn] at hx;cases hx
   rw[World.cell?_of_block (w:=w) (hf.block c (h.store.jl hx) hcb)];exact hs.1
  ·rw [List.getElem?_set_ne (Ne.symm hj)] at h1;exact⟨o1,h1,iV.refl (K7.refl g) o1⟩
  ·by_cases hj:j=i
   ·subst hj;rw[List.getElem?_set_self hi] at h1;cases h1;obtain⟨h5,h6⟩:=hit k f dn cur rfl;rw[List.getElem?_set_ne (Ne.symm h5)];exact h6
   ·rw [List.getElem?_set_ne (Ne.symm hj)] at h1;have h2:=h.store.eD j k f dn cur h1;by_cases hk:k=i
    ·subst hk;exact absurd h1 (hno j f dn cur)
    ·rw [List.getElem?_set_ne (Ne.symm hk)];exact h2
  ·rw [List.getElem?_set_ne (Ne.symm hj)] at h1;subst hk;exact hno j f dn cur h1
  ·subst hj;rw[List.getElem?_set_self hi] at h1;cases h1;exact⟨_,hpl,hok⟩
  ·subst hj;rw[List.getElem?_set_self hi] at h1;cases h1;rw[hpl] at h2;cases h2;rcases hb' with hb'|rfl
   ·have e9:=Ck hb' h3;subst e9;exact .inl ⟨j,o,_,rfl,ho,hpl,eP hb⟩
   ·cases h3
 ·refine h.fI.step hf (fun c e=>by subst e;exact h.fI.own i o _ c ho hpl (eP hb)) (fP.refl _) (fun c off x hx hn=>by rw[hn] at hx;cases hx) (fun j o1 p c h1 h2 h3=>?_) (fun _ _ h=>h);by_cases hj:j=i
  ·subst hj;rw[List.getElem?_set_self hi] at h1;cases h1;rw[hpl] at h2;cases h2;rcases hb' with hb'|rfl
   ·have e9:=Ck hb' h3;subst e9;exact .inl (h.fI.own j o _ _ ho hpl (eP hb))
   ·cases h3
  ·rw [List.getElem?_set_ne (Ne.symm hj)] at h1;exact .inl (h.fI.own j o1 p c h1 h2 h3)
mutual
def SV.kO(i:Nat):SV→Option SV
 | .own j k ls=>cond (Nat.beq j i) (some (.d (.sl k ls))) (some (.own j k ls))
 | .agg l=>(LH i l).bind fun l'=>some (.agg l')
 | .bZ l=>(LH i l).bind fun l'=>some (.bZ l')
 | .fn f first caps=>(LH i first).bind fun a=>(LH i caps).bind fun b=>some (.fn f a b)
 | .me T s=>(s.kO i).bind fun s'=>some (.me T s')
 | .d x=>some (.d x)
 | .cb j off=>some (.cb j off)
 | .map j=>some (.map j)
 | .rp j=>cond (Nat.beq j i) (some .gG) (some (.rp j))
 | .arr j n=>cond (Nat.beq j i) (some .gG) (some (.arr j n))
 | .bp j off=>cond (Nat.beq j i) (some .gG) (some (.bp j off))
 | .yF k ls=>some (.yF k ls)
 | .gG=>some .gG
def LH(i:Nat):List SV→Option (List SV)
 |[]=>some []
 |s::r=>(s.kO i).bind fun s'=>(LH i r).bind fun r'=>some (s'::r')
end
mutual
theorem JV{i:Nat}:∀{s s':SV},s.kO i=some s'→s'=s.kill fun j=>Nat.beq j i
 | .own j k ls,s',h=>by
  simp only[SV.kO] at h;simp only[SV.kill];cases hb:Nat.beq j i<;>rw[hb] at h<;>simp at h<;>simp[h]
 | .agg l,s',h=>by
  simp only[SV.kO,Option.bind_eq_some_iff,Option.some.injEq] at h;obtain⟨l',h1,rfl⟩:=h;simp only[SV.kill,qg h1]
 | .bZ l,s',h=>by
  simp only[SV.kO,Option.bind_eq_some_iff,Option.some.injEq] at h;obtain⟨l',h1,rfl⟩:=h;simp only[SV.kill,qg h1]
 | .fn f a b,s',h=>by
  simp only[SV.kO,Option.bind_eq_some_iff,Option.some.injEq] at h;obtain⟨a',h1,b',h2,rfl⟩:=h;simp only[SV.kill,qg h1,qg h2]
 | .me T s,s',h=>by
  simp only[SV.kO,Option.bind_eq_some_iff,Option.some.injEq] at h;obtain⟨a',h1,rfl⟩:=h;simp only[SV.kill,JV h1]
 | .d x,s',h=>by simp[SV.kO] at h;subst h;rfl
 | .cb j off,s',h=>by simp[SV.kO] at h;subst h;rfl
 | .map j,s',h=>by simp[SV.kO] at h;subst h;rfl
 | .arr j n,s',h=>by
  simp only[SV.kO] at h;simp only[SV.kill];cases hb:Nat.beq j i<;>rw[hb] at h<;>simp at h<;>simp[h]
 | .bp j off,s',h=>by
  simp only[SV.kO] at h;simp only[SV.kill];cases hb:Nat.beq j i<;>rw[hb] at h<;>simp at h<;>simp[h]
 | .rp j,s',h=>by
  simp only[SV.kO] at h;simp only[SV.kill];cases hb:Nat.beq j i<;>rw[hb] at h<;>simp at h<;>simp[h]
 | .yF k ls,s',h=>by simp[SV.kO] at h;subst h;rfl
 | .gG,s',h=>by simp[SV.kO] at h;subst h;rfl
theorem qg{i:Nat}:∀{s s':List SV},LH i s=some s'→s'=jS (fun j=>Nat.beq j i) s
 |[],s',h=>by simp[LH] at h;subst h;rfl
 |s::r,s',h=>by
  simp only[LH,Option.bind_eq_some_iff,Option.some.injEq] at h;obtain⟨a',h1,b',h2,rfl⟩:=h;simp only[jS,JV h1,qg h2]
end
def Bo(i:Nat):List (Nat×SV)→Option (List (Nat×SV))
 |[]=>some []
 |(t,s)::r=>(s.kO i).bind fun s'=>(Bo i r).bind fun r'=>some ((t,s')::r')
theorem tE{i t:Nat}:∀{l l':List (Nat×SV)},Bo i l=some l'→oK t l'=(oK t l).kill fun j=>Nat.beq j i
 |[],l',h=>by simp[Bo] at h;subst h;rfl
 |(k,s)::r,l',h=>by
  simp only[Bo,Option.bind_eq_some_iff,Option.some.injEq] at h;obtain⟨a',h1,b',h2,rfl⟩:=h;rw[eM,eM];split
  ·exact JV h1
  ·exact tE h2
def Ob.kO(i:Nat):Ob→Option Ob
 | .cells l ty=>(LH i l).bind fun l'=>some (.cells l' ty)
 | .row e k=>some (.row e k)
 | .bX e k=>some (.bX e k)
 | .buf e k ls q=>some (.buf e k ls q)
 | .fK f=>some (.fK f)
 | .cV f=>some (.cV f)
 | .iI o k=>some (.iI o k)
 | .jM j f dn cur=>some (.jM j f dn cur)
 | .dead=>some .dead
def Bp(i:Nat):List Ob→Option (List Ob)
 |[]=>some []
 |o::r=>(o.kO i).bind fun o'=>(Bp i r).bind fun r'=>some (o'::r')
theorem qY{i:Nat}:∀{l l':List Ob},Bp i l=some l'→l'.length=l.length∧∀(j:Nat) o',l'[j]? =some o'→∃o,l[j]? =some o∧o.kO i=some o'
 |[],l',h=>by simp[Bp] at h;subst h;simp
 |o::r,l',h=>by
  simp only[Bp,Option.bind_eq_some_iff,Option.some.injEq] at h;obtain⟨a',h1,b',h2,rfl⟩:=h;have ih:=qY h2;refine⟨by simp[ih.1],fun j o' hj=>?_⟩;cases j with
  |zero=>simp at hj;subst hj;exact⟨o,rfl,h1⟩
  |succ j=>simpa using ih.2 j o' (by simpa using hj)
theorem iV.kO{g g':Gh}{i:Nat}(h:Nj (fun j=>Nat.beq j i) g g'){o o':Ob}(hk:o.kO i=some o'):iV g g' o o':=by
 cases o<;>simp only[Ob.kO,Option.bind_eq_some_iff,Option.some.injEq] at hk
 case cells l ty=>obtain⟨l',h1,rfl⟩:=hk;rw[qg h1];exact⟨rfl,fun vs hd=>bC.kill h l hd⟩
 case row=>subst hk;exact⟨rfl,rfl⟩
 case bX=>subst hk;exact⟨rfl,rfl⟩
 case buf=>subst hk;exact⟨rfl,rfl,rfl,rfl,fun vs hd=>dI.mono h.m _ hd⟩
 case fK=>subst hk;rfl
 case cV=>subst hk;exact⟨rfl,h.m⟩
 case iI=>subst hk;exact⟨rfl,rfl,h.m⟩
 case jM=>subst hk;exact⟨rfl,rfl,rfl,.inl rfl⟩
 case dead=>subst hk;trivial
theorem cE.QS(h:cE GL B σ g a w){b:Option Nat}{cap n:Nat}{e:TypeId}{k:Nat}(ho:σ.ob[i]? =some o)(hor:o=.row e k∨o=.bX e k)(hpl:g.gs[i]? =some (.row b cap n))(hf:Fr (fun c=>b=some c∧o=.row e k) w w')
 (hm:fP g.m m') {c cap' n':Nat} (hc:(b=some c∧o=.row e k)∨w.heap.size≤c)
 (hnew:∀d off x,m' d off=some x→g.m d off=none→d=c) (hsat:∀off x,m' c off=some x→w'.cell? ⟨c,off,none⟩=some x∧x.oneCell'=true)
 (hold:∀d off x,b=some d→g.m d off=some x→w'.cell? ⟨d,off,none⟩=some x)
 (hok:∃xs,w'.ownsRow 0 e k (.slice (some ⟨c,0,none⟩) n' cap') n' xs) (hfree:∀off,n'*k≤off→m' c off=none)
 {sl':List (Nat×SV)} (hsl:Bo i σ.sl=some sl') (hob:Bp i σ.ob=some ob'):
 cE GL B ⟨σ.n,sl',ob'.set i (.row e k)⟩ ⟨m',g.gs.set i (.row (some c) cap' n')⟩ a w'∧tU (fun j=>j=i) σ.ob g w ⟨m',g.gs.set i (.row (some c) cap' n')⟩ w':=by
 have hlen:=h.store.len;have hi:=(List.getElem?_eq_some_iff.1 ho).1;have hob2:=qY hob;have hself:(g.gs.set i (.row (some c) cap' n'))[i]? =some (.row (some c) cap' n'):=List.getElem?_set_self (by omega);have hgs:∀(j:Nat) q,j≠i→g.gs[j]? =some q→(g.gs.set i (.row (some c) cap' n'))[j]? =some q:=fun j q hj hq=>by rw[List.getElem?_set_ne (Ne.symm hj)];exact hq
 have hat:∀(j d:Nat),g.gs[j]? =some (.loc d)→(g.gs.set i (.row (some c) cap' n'))[j]? =some (.loc d):=fun j d hd=>hgs j _ (fun e=>by subst e;rw[hpl] at hd;cases hd) hd
 have hkl:Nj (fun j=>Nat.beq j i) g ⟨m',g.gs.set i (.row (some c) cap' n')⟩:=⟨hm,fun j q hq hj=>hgs j q (fun e=>by subst e;simp at hj) hq,hat⟩;have hbr:∀d,b=some d∧o=.row e k→cP o (.row b cap n) d:=fun d hd=>by rw[hd.2,hd.1];rfl
 have hne:∀(j:Nat) oj pj d,j≠i→σ.ob[j]? =some oj→g.gs[j]? =some pj→cP oj pj d→¬(b=some d∧o=.row e k)∧d≠c:=fun j oj pj d hj h1 h2 h3=>by
  have h4:¬(b=some d∧o=.row e k):=fun hd=>hj (h.store.oz j i oj o pj _ d h1 ho h2 hpl h3 (hbr d hd))
  refine⟨h4,fun e=>?_⟩;subst e;rcases hc with hc|hc
  ·exact h4 hc
  ·have:=h.store.lt h1 h2 h3;omega
 refine⟨⟨h.defers,h.size,fun t=>?_,?_,?_⟩,hm,fun j d oj hj h1 h2 h3=>⟨hat j d h2,hf.block d (h.store.lt h1 h2 (eP h3)) (hne j oj _ d hj h1 h2 (eP h3)).1⟩⟩
 ·show (oK t sl').Den _ _;rw[tE hsl];exact SV.Den.kill hkl _ (h.da t)
 ·refine h.store.step (p:=fun j=>j=i) hm hat hgs (fun d off x hx=>?_) (by simp[hob2.1,hlen]) (fun j o1 hj h1=>?_) (fun j q f dn cur h1=>?_) (fun j q f dn cur hj h1 hk=>?_)
   (fun j o1 q d hj h1 h2 h3=>⟨hf.block d (h.store.lt h1 h2 h3) (hne j o1 q d hj h1 h2 h3).1,fun off hn=>?_⟩) (fun j o1 hj h1=>?_) (fun j o1 q d hj h1 h2 h3=>?_) (fun i j oi oj pi pj b hi hj _ _ _ _ _ _=>hi.trans hj.symm)
  ·by_cases hdc:d=c
   ·subst hdc;exact hsat off x hx
   ·cases hg:g.m d off with
    |none=>exact absurd (hnew d off x hx hg) hdc
    |some y=>
     have e1:=hm d off y hg;simp only at hx;rw[e1] at hx;cases hx;have hs:=h.store.sat d off x hg;refine⟨?_,hs.2⟩;by_cases hbd:b=some d∧o=.row e k
     ·exact hold d off x hbd.1 hg
     ·rw [World.cell?_of_block (w:=w) (hf.block d (h.store.jl hg) hbd)];exact hs.1
  ·rw [List.getElem?_set_ne (Ne.symm hj)] at h1;obtain⟨o2,h2,h3⟩:=hob2.2 j o1 h1;exact⟨o2,h2,iV.kO hkl h3⟩
  ·by_cases hj:j=i
   ·subst hj;rw[List.getElem?_set_self (by rw[hob2.1];exact hi)] at h1;cases h1
   ·rw [List.getElem?_set_ne (Ne.symm hj)] at h1;obtain⟨o2,h2,h3⟩:=hob2.2 j _ h1;have h4:o2=.jM q f dn cur:=by
     cases o2<;>simp only[Ob.kO,Option.bind_eq_some_iff,Option.some.injEq] at h3
     case cells=>obtain⟨_,_,h3⟩:=h3;cases h3
     all_goals (cases h3;try rfl)
    subst h4;have h5:=h.store.eD j q f dn cur h2;have hq:q≠i:=fun e=>by subst e;rw[ho] at h5;cases h5;rcases hor with hor|hor<;>cases hor
    rw[List.getElem?_set_ne (Ne.symm hq)];have h6:q<ob'.length:=by rw[hob2.1];exact(List.getElem?_eq_some_iff.1 h5).1
    obtain⟨o3,h7,h8⟩:=hob2.2 q ob'[q] (by simp[h6]);rw[h5] at h7;cases h7;simp[Ob.kO] at h8;rw[List.getElem?_eq_getElem h6,←h8]
  ·rw [List.getElem?_set_ne (Ne.symm hj)] at h1;obtain⟨o2,h2,h3⟩:=hob2.2 j _ h1;have h4:o2=.jM q f dn cur:=by
    cases o2<;>simp only[Ob.kO,Option.bind_eq_some_iff,Option.some.injEq] at h3
    case cells=>obtain⟨_,_,h3⟩:=h3;cases h3
    all_goals (cases h3;try rfl)
   have hk:q=i:=hk;subst h4 hk;have h5:=h.store.eD j _ f dn cur h2;rw[ho] at h5;cases h5;rcases hor with hor|hor<;>cases hor
  ·cases hx:m' d off with
   |none=>exact hx
   |some x=>exact absurd (hnew d off x hx hn) (hne j o1 q d hj h1 h2 h3).2
  ·subst hj;rw[List.getElem?_set_self (by rw[hob2.1];exact hi)] at h1;cases h1;exact⟨_,hself,hok,fun d hd off hoff=>by cases hd;exact hfree off hoff⟩
  ·subst hj;rw[List.getElem?_set_self (by rw[hob2.1];exact hi)] at h1;cases h1;simp only at h2;rw[hself] at h2;cases h2;simp only[cP,dU,Option.some.injEq] at h3;subst h3;rcases hc with hc|hc
   ·exact .inl ⟨_,o,_,rfl,ho,hpl,hbr _ hc⟩
   ·exact .inr hc
 ·have hX:∀d,b=some d∧o=.row e k→B.X d∨B.w.heap.size≤d:=fun d hd=>h.fI.own i o _ d ho hpl (hbr d hd)
  refine h.fI.step hf hX hm (fun d off x hx hn=>by
   have:=hnew d off x hx hn;subst this;exact hc) (fun j o1 p d h1 h2 h3=>?_) hat
  by_cases hj:j=i
  ·subst hj;rw[List.getElem?_set_self (by rw[hob2.1];exact hi)] at h1;cases h1;simp only at h2;rw[hself] at h2;cases h2;simp only[cP,dU,Option.some.injEq] at h3;subst h3;rcases hc with hc|hc
   ·exact .inl (hX _ hc)
   ·exact .inr hc
  ·rw [List.getElem?_set_ne (Ne.symm hj)] at h1;simp only at h2;rw[List.getElem?_set_ne (Ne.symm hj)] at h2;obtain⟨o2,h4,h5⟩:=hob2.2 j o1 h1;refine .inl (h.fI.own j o2 p d h4 h2 ?_);rcases(iV.kO hkl h5).cb h3 (fun _ _=>trivial) with h6|⟨e',k',rfl⟩
   ·exact h6
   ·simp [Ob.kO] at h5;subst h5;simp[cP,dU] at h3
end
end Go.Vd
namespace Go.Vd
open Go Go.RowKit
inductive Out where
 |ret (s:SV)
 |pz (s:SV)
def fV:List Ob→Bool
 |[]=>true
 | .jM _ _ _ _::_=>false
 | .cells _ _::r=>fV r
 | .row _ _::r=>fV r
 | .bX _ _::r=>fV r
 | .buf _ _ _ _::r=>fV r
 | .fK _::r=>fV r
 | .cV _::r=>fV r
 | .iI _ _::r=>fV r
 | .dead::r=>fV r
theorem fe:∀{ob:List Ob},fV ob=true→∀(j i:Nat) f dn cur,ob[j]? ≠some (.jM i f dn cur)
 |[],_,j,i,f,dn,cur=>by simp
 |o::r,h,0,i,f,dn,cur=>by intro e;simp at e;subst e;cases h
 |o::r,h,j+1,i,f,dn,cur=>by
  have:fV r=true:=by cases o<;>first|exact h|cases h
  simpa using fe this j i f dn cur
def dk(ob:List Ob)(g:Gh)(b:Nat):Prop:= ∃(i:Nat) (o:Ob) (p:Pl),ob[i]? =some o∧g.gs[i]? =some p∧cP o p b
def et (P : Program) (GL : Nat → List D) (f : FuncId) (ob : List Ob) (args : List SV) (Q : Out → List Ob → Prop) : Prop :=
  ∀ (g : Gh) (w : World) (vs : List Value), cX GL ob g w → bC g args vs →
    Calls P f ⟨vs⟩ w fun e w' => ∃ g' ob', cX GL ob' g' w' ∧ Aj ⟨g, w, dk ob g, ob.length, []⟩ ob' g' w' ∧ ob.length ≤ ob'.length ∧ fV ob' = true ∧
      (match e with
       | .returned v => ∃ s, s.Den g' v ∧ Q (.ret s) ob'
       | .panicked c => ∃ v s, c = [{ v := v, recovered := false }] ∧ s.Den g' v ∧ Q (.pz s) ob'
       | .outgrown => False)
theorem et.mono{P:Program}{GL:Nat→List D}{f:FuncId}{ob:List Ob}{args:List SV}{Q Q':Out→List Ob→Prop}(h:et P GL f ob args Q)(hq:∀o b,Q o b→Q' o b):et P GL f ob args Q':=fun g w vs hs hd=>
 (h g w vs hs hd).mono fun e w' ⟨g',ob',h1,h2,h3,h4,h5⟩=>⟨g',ob',h1,h2,h3,h4,by
  cases e with
  |returned v=>obtain⟨s,h6,h7⟩:=h5;exact⟨s,h6,hq _ _ h7⟩
  |panicked c=>obtain⟨v,s,h6,h7,h8⟩:=h5;exact⟨v,s,h6,h7,hq _ _ h8⟩
  |outgrown=>exact h5⟩
mutual
def SV.ja(ρ:List Nat):SV→Option SV
 | .d x=>some (.d x)
 | .cb i off=>(cY i ρ).bind fun j=>some (.cb j off)
 | .agg l=>(ml ρ l).bind fun l'=>some (.agg l')
 | .bZ l=>(ml ρ l).bind fun l'=>some (.bZ l')
 | .own i k ls=>(cY i ρ).bind fun j=>some (.own j k ls)
 | .fn f a b=>(ml ρ a).bind fun a'=>(ml ρ b).bind fun b'=>some (.fn f a' b')
 | .me T s=>(s.ja ρ).bind fun s'=>some (.me T s')
 | .map i=>(cY i ρ).bind fun j=>some (.map j)
 | .rp i=>(cY i ρ).bind fun j=>some (.rp j)
 | .arr i n=>(cY i ρ).bind fun j=>some (.arr j n)
 | .bp i off=>(cY i ρ).bind fun j=>some (.bp j off)
 | .yF k ls=>some (.yF k ls)
 | .gG=>some .gG
def ml(ρ:List Nat):List SV→Option (List SV)
 |[]=>some []
 |s::r=>(s.ja ρ).bind fun s'=>(ml ρ r).bind fun r'=>some (s'::r')
end
def Ms(ρ:List Nat)(g g':Gh):Prop:=fP g.m g'.m∧∀(i j:Nat) p,ρ[i]? =some j→g.gs[i]? =some p→g'.gs[j]? =some p
mutual
theorem SV.AD{ρ:List Nat}{g g':Gh}(h:Ms ρ g g'):∀(s:SV) {t:SV} {y:Value},s.ja ρ=some t→s.Den g y→t.Den g' y
 | .d x,t,y,hr,hd=>by simp[SV.ja] at hr;subst hr;exact D.Den.mono h.1 x hd
 | .cb i off,t,y,hr,⟨b,hb,e⟩=>by
  simp only[SV.ja,Option.bind_eq_some_iff,Option.some.injEq] at hr;obtain⟨j,hj,rfl⟩:=hr;exact⟨b,h.2 i j _ (bR hj) hb,e⟩
 | .agg l,t,y,hr,⟨vs,e,hd⟩=>by
  simp only[SV.ja,Option.bind_eq_some_iff,Option.some.injEq] at hr;obtain⟨l',hl,rfl⟩:=hr;exact⟨vs,e,nX h l hl hd⟩
 | .bZ l,t,y,hr,⟨vs,e,hd⟩=>by
  simp only[SV.ja,Option.bind_eq_some_iff,Option.some.injEq] at hr;obtain⟨l',hl,rfl⟩:=hr;exact⟨vs,e,nX h l hl hd⟩
 | .own i k ls,t,y,hr,⟨b,cap,hb,e,hc,hd⟩=>by
  simp only[SV.ja,Option.bind_eq_some_iff,Option.some.injEq] at hr;obtain⟨j,hj,rfl⟩:=hr;exact⟨b,cap,h.2 i j _ (bR hj) hb,e,hc,fun hn=>by obtain⟨c,e2,h2⟩:=hd hn;exact⟨c,e2,ey.mono h.1 ls h2⟩⟩
 | .fn f a b,t,y,hr,⟨vs,us,e,h1,h2⟩=>by
  simp only[SV.ja,Option.bind_eq_some_iff,Option.some.injEq] at hr;obtain⟨a',ha,b',hb,rfl⟩:=hr;exact⟨vs,us,e,nX h a ha h1,nX h b hb h2⟩
 | .me T s,t,y,hr,⟨x,e,hd⟩=>by
  simp only[SV.ja,Option.bind_eq_some_iff,Option.some.injEq] at hr;obtain⟨s',hs,rfl⟩:=hr;exact⟨x,e,SV.AD h s hs hd⟩
 | .map i,t,y,hr,⟨b,hb,e⟩=>by
  simp only[SV.ja,Option.bind_eq_some_iff,Option.some.injEq] at hr;obtain⟨j,hj,rfl⟩:=hr;exact⟨b,h.2 i j _ (bR hj) hb,e⟩
 | .arr i n,t,y,hr,⟨b,cap,hb,e⟩=>by
  simp only[SV.ja,Option.bind_eq_some_iff,Option.some.injEq] at hr;obtain⟨j,hj,rfl⟩:=hr;exact⟨b,cap,h.2 i j _ (bR hj) hb,e⟩
 | .bp i off,t,y,hr,⟨b,cap,n,hb,e⟩=>by
  simp only[SV.ja,Option.bind_eq_some_iff,Option.some.injEq] at hr;obtain⟨j,hj,rfl⟩:=hr;exact⟨b,cap,n,h.2 i j _ (bR hj) hb,e⟩
 | .rp i,t,y,hr,⟨b,cap,n,hb,e⟩=>by
  simp only[SV.ja,Option.bind_eq_some_iff,Option.some.injEq] at hr;obtain⟨j,hj,rfl⟩:=hr;exact⟨b,cap,n,h.2 i j _ (bR hj) hb,e⟩
 | .yF k ls,t,y,hr,⟨a,e,hd⟩=>by
  simp[SV.ja] at hr;subst hr;exact⟨a,e,fun hn=>by obtain⟨b,off,e2,h2⟩:=hd hn;exact⟨b,off,e2,ey.mono h.1 ls h2⟩⟩
 | .gG,t,y,hr,_=>by simp[SV.ja] at hr;subst hr;trivial
theorem nX{ρ:List Nat}{g g':Gh}(h:Ms ρ g g'):∀(l:List SV) {l':List SV} {vs:List Value},ml ρ l=some l'→bC g l vs→bC g' l' vs
 |[],l',vs,hr,hd=>by simp[ml] at hr;subst hr;exact hd
 |s::r,l',vs,hr,⟨x,v',e,h1,h2⟩=>by
  simp only[ml,Option.bind_eq_some_iff,Option.some.injEq] at hr;obtain⟨s',hs,r',hr',rfl⟩:=hr;exact⟨x,v',e,SV.AD h s hs h1,nX h r hr' h2⟩
end
def KS(ρ:List Nat)(g g':Gh):Prop:=fP g'.m g.m∧∀(i j:Nat) p,ρ[i]? =some j→g'.gs[j]? =some p→g.gs[i]? =some p
mutual
theorem SV.pX{ρ:List Nat}{g g':Gh}(h:KS ρ g g'):∀(s:SV) {t:SV} {y:Value},s.ja ρ=some t→t.Den g' y→s.Den g y
 | .d x,t,y,hr,hd=>by simp[SV.ja] at hr;subst hr;exact D.Den.mono h.1 x hd
 | .cb i off,t,y,hr,hd=>by
  simp only[SV.ja,Option.bind_eq_some_iff,Option.some.injEq] at hr;obtain⟨j,hj,rfl⟩:=hr;obtain⟨b,hb,e⟩:=hd;exact⟨b,h.2 i j _ (bR hj) hb,e⟩
 | .agg l,t,y,hr,hd=>by
  simp only[SV.ja,Option.bind_eq_some_iff,Option.some.injEq] at hr;obtain⟨l',hl,rfl⟩:=hr;obtain⟨vs,e,hd⟩:=hd;exact⟨vs,e,gL h l hl hd⟩
 | .bZ l,t,y,hr,hd=>by
  simp only[SV.ja,Option.bind_eq_some_iff,Option.some.injEq] at hr;obtain⟨l',hl,rfl⟩:=hr;obtain⟨vs,e,hd⟩:=hd;exact⟨vs,e,gL h l hl hd⟩
 | .own i k ls,t,y,hr,hd=>by
  simp only[SV.ja,Option.bind_eq_some_iff,Option.some.injEq] at hr;obtain⟨j,hj,rfl⟩:=hr;obtain⟨b,cap,hb,e,hc,hd⟩:=hd;exact⟨b,cap,h.2 i j _ (bR hj) hb,e,hc,fun hn=>by obtain⟨c,e2,h2⟩:=hd hn;exact⟨c,e2,ey.mono h.1 ls h2⟩⟩
 | .fn f a b,t,y,hr,hd=>by
  simp only[SV.ja,Option.bind_eq_some_iff,Option.some.injEq] at hr;obtain⟨a',ha,b',hb,rfl⟩:=hr;obtain⟨vs,us,e,h1,h2⟩:=hd;exact⟨vs,us,e,gL h a ha h1,gL h b hb h2⟩
 | .me T s,t,y,hr,hd=>by
  simp only[SV.ja,Option.bind_eq_some_iff,Option.some.injEq] at hr;obtain⟨s',hs,rfl⟩:=hr;obtain⟨x,e,hd⟩:=hd;exact⟨x,e,SV.pX h s hs hd⟩
 | .map i,t,y,hr,hd=>by
  simp only[SV.ja,Option.bind_eq_some_iff,Option.some.injEq] at hr;obtain⟨j,hj,rfl⟩:=hr;obtain⟨b,hb,e⟩:=hd;exact⟨b,h.2 i j _ (bR hj) hb,e⟩
 | .arr i n,t,y,hr,hd=>by
  simp only[SV.ja,Option.bind_eq_some_iff,Option.some.injEq] at hr;obtain⟨j,hj,rfl⟩:=hr;obtain⟨b,cap,hb,e⟩:=hd;exact⟨b,cap,h.2 i j _ (bR hj) hb,e⟩
 | .bp i off,t,y,hr,hd=>by
  simp only[SV.ja,Option.bind_eq_some_iff,Option.some.injEq] at hr;obtain⟨j,hj,rfl⟩:=hr;obtain⟨b,cap,n,hb,e⟩:=hd;exact⟨b,cap,n,h.2 i j _ (bR hj) hb,e⟩
 | .rp i,t,y,hr,hd=>by
  simp only[SV.ja,Option.bind_eq_some_iff,Option.some.injEq] at hr;obtain⟨j,hj,rfl⟩:=hr;obtain⟨b,cap,n,hb,e⟩:=hd;exact⟨b,cap,n,h.2 i j _ (bR hj) hb,e⟩
 | .yF k ls,t,y,hr,hd=>by
  simp[SV.ja] at hr;subst hr;obtain⟨a,e,hd⟩:=hd;exact⟨a,e,fun hn=>by obtain⟨b,off,e2,h2⟩:=hd hn;exact⟨b,off,e2,ey.mono h.1 ls h2⟩⟩
 | .gG,t,y,hr,_=>trivial
theorem gL{ρ:List Nat}{g g':Gh}(h:KS ρ g g'):∀(l:List SV) {l':List SV} {vs:List Value},ml ρ l=some l'→bC g' l' vs→bC g l vs
 |[],l',vs,hr,hd=>by simp[ml] at hr;subst hr;exact hd
 |s::r,l',vs,hr,hd=>by
  simp only[ml,Option.bind_eq_some_iff,Option.some.injEq] at hr;obtain⟨s',hs,r',hr',rfl⟩:=hr;obtain⟨x,v',e,h1,h2⟩:=hd;exact⟨x,v',e,SV.pX h s hs h1,gL h r hr' h2⟩
end
mutual
inductive DL:D→D→Prop
 |refl (x:D):DL x x
 |nil {k:Nat}:DL (.v (.slice none 0 0)) (.sl k [])
 |agg {l l':List D} (h:mH l l'):DL (.agg l) (.agg l')
 |bZ {l l':List D} (h:mH l l'):DL (.bZ l) (.bZ l')
 |cp {l l':List D} (h:mH l l'):DL (.cp l) (.cp l')
 |sl {k:Nat} {l l':List (List D)} (h:nF l l'):DL (.sl k l) (.sl k l')
inductive mH:List D→List D→Prop
 |nil:mH [] []
 |cons {x y:D} {l m:List D} (h:DL x y) (r:mH l m):mH (x::l) (y::m)
inductive nF:List (List D)→List (List D)→Prop
 |nil:nF [] []
 |cons {x y:List D} {l m:List (List D)} (h:mH x y) (r:nF l m):nF (x::l) (y::m)
end
theorem mH.length:∀{l m:List D},mH l m→m.length=l.length
 |_,_,.nil=>rfl
 |_,_,.cons _ r=>by simp[mH.length r]
theorem nF.length:∀{l m:List (List D)},nF l m→m.length=l.length
 |_,_,.nil=>rfl
 |_,_,.cons _ r=>by simp[nF.length r]
mutual
theorem DL.den{m:Mem}:∀{x y:D},DL x y→∀{v:Value},x.Den m v→y.Den m v
 |_,_,.refl _,_,hd=>hd
 |_,_,.nil,_,hd=>by simp only[D.Den] at hd;exact⟨none,0,by rw[hd];rfl,by simp,fun h=>absurd rfl h⟩
 |_,_,.agg h,_,⟨vs,e,hd⟩=>⟨vs,e,mH.den h hd⟩
 |_,_,.bZ h,_,⟨vs,e,hd⟩=>⟨vs,e,mH.den h hd⟩
 |_,_,.cp h,_,⟨b,off,e,hd⟩=>⟨b,off,e,mH.Oj h hd⟩
 |_,_,.sl h,_,⟨a,cap,e,hc,hd⟩=>⟨a,cap,by rw[h.length];exact e,by rw[h.length];exact hc,fun hn=>by
  obtain⟨b,off,e2,h2⟩:=hd (fun h0=>by subst h0;cases h;exact hn rfl);exact⟨b,off,e2,nF.Oi h h2⟩⟩
theorem mH.den{m:Mem}:∀{x y:List D},mH x y→∀{vs:List Value},dI m x vs→dI m y vs
 |_,_,.nil,_,hd=>hd
 |_,_,.cons h r,_,⟨x,l',e,h1,h2⟩=>⟨x,l',e,DL.den h h1,mH.den r h2⟩
theorem mH.Oj{m:Mem}:∀{x y:List D},mH x y→∀{b off:Nat},eX m b off x→eX m b off y
 |_,_,.nil,_,_,_=>trivial
 |_,_,.cons h r,_,_,⟨⟨x,h1,h2⟩,h3⟩=>⟨⟨x,h1,DL.den h h2⟩,mH.Oj r h3⟩
theorem nF.Oi{m:Mem}:∀{x y:List (List D)},nF x y→∀{k b off:Nat},ey m k b off x→ey m k b off y
 |_,_,.nil,_,_,_,_=>trivial
 |_,_,.cons h r,_,_,_,⟨⟨h0,h1⟩,h2⟩=>⟨⟨by rw[h.length];exact h0,mH.Oj h h1⟩,nF.Oi r h2⟩
end
inductive Fit (ob:List Ob):SV→SV→Prop
 |refl (s:SV):Fit ob s s
 |gW {s:SV} {x:D} (h:s.gW=some x):Fit ob s (.d x)
 |nil {i k:Nat} {e:TypeId} (h:cY i ob=some (.bX e k)):Fit ob (.d (.v (.slice none 0 0))) (.own i k [])
 |JK {i k:Nat} {e:TypeId} (h:cY i ob=some (.bX e k)):Fit ob (.d (.v (.slice none 0 0))) (.arr i 0)
 |LB {k:Nat}:Fit ob (.d (.v (.slice none 0 0))) (.d (.sl k []))
 |gG (s:SV):Fit ob s .gG
 |Oh {s:SV} {x y:D} (h:s.gW=some x) (hl:DL x y):Fit ob s (.d y)
 |own {i k:Nat} {ls ls':List (List D)} (h:nF ls ls'):Fit ob (.own i k ls) (.own i k ls')
inductive ic (ob:List Ob):List SV→List SV→Prop
 |nil:ic ob [] []
 |cons {s t:SV} {l m:List SV} (h:Fit ob s t) (r:ic ob l m):ic ob (s::l) (t::m)
section
variable {GL:Nat→List D}
theorem Fit.den{ob:List Ob}{g:Gh}{w:World}(hs:cX GL ob g w){s t:SV}(h:Fit ob s t){y:Value}(hd:s.Den g y):t.Den g y:=by
 cases h with
 |refl=>exact hd
 |gW h=>exact SV.Den.gW s hd h
 |gG=>trivial
 |Oh h hl=>exact hl.den (SV.Den.gW s hd h)
 |own h=>
  obtain⟨b,cap,e1,e2,e3,e4⟩:=hd;exact⟨b,cap,by rw[h.length];exact e1,by rw[h.length];exact e2,by rw[h.length];exact e3,fun hn=>by
   obtain⟨c,e5,e6⟩:=e4 (fun h0=>by subst h0;cases h;exact hn rfl);exact⟨c,e5,nF.Oi h e6⟩⟩
 |nil h=>
  have ho:=bR h;obtain⟨p,hp⟩:=hs.place ho;have hok:=hs.gX _ _ _ ho hp;simp only[eS] at hok;subst hok;simp only[SV.Den,D.Den] at hd;exact⟨none,0,hp,by rw[hd];rfl,by simp,fun h=>absurd rfl h⟩
 |JK h=>
  have ho:=bR h;obtain⟨p,hp⟩:=hs.place ho;have hok:=hs.gX _ _ _ ho hp;simp only[eS] at hok;subst hok;simp only[SV.Den,D.Den] at hd;exact⟨none,0,hp,by rw[hd];rfl⟩
 |LB=>
  simp only[SV.Den,D.Den] at hd;exact⟨none,0,by rw[hd];rfl,by simp,fun h=>absurd rfl h⟩
theorem ic.den{ob:List Ob}{g:Gh}{w:World}(hs:cX GL ob g w):∀{l m:List SV},ic ob l m→∀{vs:List Value},bC g l vs→bC g m vs
 |_,_,.nil,_,hd=>hd
 |_,_,.cons h r,_,⟨x,l',e,h1,h2⟩=>⟨x,l',e,h.den hs h1,r.den hs h2⟩
inductive jd (ob:List Ob) (ρ:List Nat):Ob→Ob→Prop
 |cells {lc l m:List SV} {ty:TypeId} (h:ml ρ lc=some m) (hf:ic ob l m):jd ob ρ (.cells lc ty) (.cells l ty)
 |row {e:TypeId} {k:Nat}:jd ob ρ (.row e k) (.row e k)
 |Pr {e:TypeId} {k:Nat}:jd ob ρ (.row e k) (.bX e k)
 |MJ {e:TypeId} {k:Nat}:jd ob ρ (.bX e k) (.bX e k)
 |buf {e:TypeId} {k:Nat} {ls:List (List D)} {q:Option (Option Nat×Nat)}:jd ob ρ (.buf e k ls q) (.buf e k ls q)
 |Rn {e:TypeId} {k:Nat} {ls:List (List D)} {q:Option (Option Nat×Nat)}:jd ob ρ (.buf e k ls none) (.buf e k ls q)
 |NM {e:TypeId} {k:Nat}:jd ob ρ (.buf e k [] none) (.bX e k)
 |fK {f:ByteArray→Option Int}:jd ob ρ (.fK f) (.fK f)
 |cV {f:ByteArray→Option D}:jd ob ρ (.cV f) (.cV f)
 |iI {o:Nat→Prop} {k:Mem→World→Prop}:jd ob ρ (.iI o k) (.iI o k)
 |dead {o:Ob}:jd ob ρ .dead o
 |jM {k i:Nat} {f:ByteArray→Option Int} {dn:List (ByteArray×Int)} {cur cur':Option (ByteArray×Int)} (hk:cY k ρ=some i) (hc:cur=cur'∨cur=none):jd ob ρ (.jM k f dn cur) (.jM i f dn cur')
inductive ch (ob:List Ob) (ρ:List Nat):List Ob→List Nat→Prop
 |nil:ch ob ρ [] []
 |cons {oc o:Ob} {r:List Ob} {i:Nat} {is:List Nat} (hi:cY i ob=some o) (h:jd ob ρ oc o) (hr:ch ob ρ r is):ch ob ρ (oc::r) (i::is)
theorem ch.get{ob:List Ob}{ρ:List Nat}:∀{obc:List Ob} {is:List Nat},ch ob ρ obc is→obc.length=is.length∧∀(k:Nat) oc,obc[k]? =some oc→∃i o,is[k]? =some i∧ob[i]? =some o∧jd ob ρ oc o
 |_,_,.nil=>⟨rfl,by simp⟩
 |_,_,.cons hi h hr=>by
  have ih:=hr.get;refine⟨by simp[ih.1],fun k oc hk=>?_⟩;cases k with
  |zero=>simp at hk;subst hk;exact⟨_,_,rfl,bR hi,h⟩
  |succ k=>simpa using ih.2 k oc (by simpa using hk)
variable {ob:List Ob} {ρ:List Nat}
theorem jd.cb{oc o:Ob}{p:Pl}{b:Nat}(h:jd ob ρ oc o)(hb:cP oc p b):cP o p b∨∃e k,o=.bX e k:=by
 cases h<;>cases p<;>simp_all [cP,dU]
theorem cX.sub{obc:List Ob}{g:Gh}{w:World}(h:cX GL ob g w)(hf:ch ob ρ obc ρ)(hnd:ρ.Nodup)(hno:∀(j i:Nat) f dn cur,obc[j]? =some (.jM i f dn cur)→obc[i]? =some (.fK f)):
 cX GL obc ⟨g.m,ρ.map fun i=>g.gs.getD i (.loc 0)⟩ w∧KS ρ ⟨g.m,ρ.map fun i=>g.gs.getD i (.loc 0)⟩ g∧(∀ b,dk obc ⟨g.m,ρ.map fun i=>g.gs.getD i (.loc 0)⟩ b→∃(i k:Nat) (o:Ob) (p:Pl),ρ[k]? =some i∧ob[i]? =some o∧g.gs[i]? =some p∧cP o p b):=by
 have hget:=hf.get;have hpl:∀(k i:Nat) p,ρ[k]? =some i→g.gs[i]? =some p→(ρ.map fun i=>g.gs.getD i (.loc 0))[k]? =some p:=fun k i p h1 h2=>by
  rw[List.getElem?_map,h1];simp[List.getD_eq_getElem?_getD,h2]
 have hrb:KS ρ ⟨g.m,ρ.map fun i=>g.gs.getD i (.loc 0)⟩ g:=⟨fP.refl _,fun i j p h1 h2=>hpl i j p h1 h2⟩;have hob:∀(k:Nat) oc p,obc[k]? =some oc→(ρ.map fun i=>g.gs.getD i (.loc 0))[k]? =some p→∃i o,ρ[k]? =some i∧ob[i]? =some o∧g.gs[i]? =some p∧jd ob ρ oc o:=fun k oc p h1 h2=>by
  obtain⟨i,o,h3,h4,h5⟩:=hget.2 k oc h1;obtain⟨q,hq⟩:=h.place h4;have:=hpl k i q h3 hq;rw[h2] at this;cases this;exact⟨i,o,h3,h4,hq,h5⟩
 have hblk:∀{oc o:Ob} {i:Nat} {p:Pl} {b:Nat},ob[i]? =some o→g.gs[i]? =some p→jd ob ρ oc o→cP oc p b→cP o p b:=fun{oc o i p b} h1 h2 h3 h4=>by
  rcases h3.cb h4 with h5|⟨e,k,rfl⟩
  ·exact h5
  ·have:=h.gX _ _ _ h1 h2;simp only[eS] at this;subst this;cases h3<;>simp[cP,dU] at h4
 refine⟨⟨by simp[hget.1],fun k oc p h1 h2=>?_,hno,fun i j oi oj pi pj b h1 h2 h3 h4 h5 h6=>?_,h.sat,h.ET⟩,hrb,fun b hb=>?_⟩
 ·obtain ⟨i,o,h3,h4,h5,h6⟩:=hob k oc p h1 h2;have hok:=h.gX i o p h4 h5;cases h6 with
  |cells hr hfl=>
   cases p with
   |loc b=>
    obtain⟨vs,e1,e2,e3⟩:=hok;exact⟨vs,e1,gL hrb _ hr (hfl.den h e2),e3⟩
   |row b c n=>exact hok.elim
  |row=>cases p with
   |loc b=>exact hok.elim
   |row b c n=>exact hok
  |Pr=>
   simp only[eS] at hok;subst hok;exact⟨⟨[],by simp,.inl ⟨rfl,rfl⟩⟩,fun c hc=>by cases hc⟩
  |MJ=>exact hok
  |buf=>cases p with
   |loc b=>exact hok.elim
   |row b c n=>exact hok
  |Rn=>cases p with
   |loc b=>exact hok.elim
   |row b c n=>exact⟨hok.1,hok.2.1,hok.2.2.1,hok.2.2.2.1,fun r e=>by cases e⟩
  |NM=>
   simp only[eS] at hok;subst hok;exact⟨rfl,by simp,⟨[],⟨by simp,.inl ⟨rfl,rfl⟩⟩,rfl,by simp⟩,(fun c hc=>by cases hc),fun r e=>by cases e⟩
  |fK=>cases p with
   |loc b=>exact hok
   |row b c n=>exact hok.elim
  |cV=>cases p with
   |loc b=>exact hok
   |row b c n=>exact hok.elim
  |iI=>cases p<;>exact hok
  |dead=>cases p<;>trivial
  |jM hk hc=>cases p with
   |loc b=>
    obtain⟨c,e1,e2,e3,e4⟩:=hok;refine⟨c,hrb.2 _ _ _ (bR hk) e1,e2,fun s n e=>?_,e4⟩;rcases hc with rfl|rfl
    ·exact e3 s n e
    ·cases e
   |row b c n=>exact hok.elim
 ·obtain ⟨i1,o1,a1,a2,a3,a4⟩:=hob i oi pi h1 h3;obtain⟨i2,o2,b1,b2,b3,b4⟩:=hob j oj pj h2 h4;have e:=h.oz i1 i2 o1 o2 pi pj b a2 b2 a3 b3 (hblk a2 a3 a4 h5) (hblk b2 b3 b4 h6);subst e;exact(List.getElem?_inj (List.getElem?_eq_some_iff.1 a1).1 hnd).1 (a1.trans b1.symm)
 ·obtain ⟨k,oc,p,h1,h2,h3⟩:=hb;obtain⟨i,o,a1,a2,a3,a4⟩:=hob k oc p h1 h2;exact⟨i,k,o,p,a1,a2,a3,hblk a2 a3 a4 h3⟩
def ib{α:Type}:List α→List α→Option (List α)
 |[],m=>some m
 |x::l,m=>(ib l m).bind fun r=>some (x::r)
theorem fj{α:Type}:∀{l m r:List α},ib l m=some r→r=l++m
 |[],m,r,h=>by simp[ib] at h;simp[h]
 |x::l,m,r,h=>by
  simp only[ib,Option.bind_eq_some_iff,Option.some.injEq] at h;obtain⟨r',h1,rfl⟩:=h;simp[fj h1]
def gT{α:Type}:Nat→α→List α→Option (List α)
 |_,_,[]=>none
 |0,y,_::l=>some (y::l)
 |n+1,y,x::l=>(gT n y l).bind fun r=>some (x::r)
theorem eT{α:Type}:∀{n:Nat} {y:α} {l r:List α},gT n y l=some r→r=l.set n y∧n<l.length
 |0,y,[],r,h=>by cases h
 |n+1,y,[],r,h=>by cases h
 |0,y,x::l,r,h=>by simp[gT] at h;subst h;simp
 |n+1,y,x::l,r,h=>by
  simp only[gT,Option.bind_eq_some_iff,Option.some.injEq] at h;obtain⟨r',h1,rfl⟩:=h;have:=eT h1;simp[this.1,this.2]
def iO{α:Type}:List Nat→List α→List α→Option (List α)
 |[],l,rs=>ib l rs
 |i::ix,l,r::rs=>(gT i r l).bind fun l'=>iO ix l' rs
 |_::_,_,[]=>none
def names(ix:List Nat)(n:Nat):Nat→List Nat
 |0=>ix
 |m+1=>names (ix++[n]) (n+1) m
theorem uy{α:Type}:∀{ix:List Nat} {l rs r:List α},iO ix l rs=some r→ix.Nodup→ix.length≤rs.length∧(∀ i∈ix,i<l.length)∧r.length=l.length+(rs.length-ix.length)∧
 (∀ (k i:Nat) x,ix[k]? =some i→rs[k]? =some x→r[i]? =some x)∧(∀ (i:Nat),i∉ix→i<l.length→r[i]? =l[i]?)∧(∀ k,ix.length≤k→r[l.length+(k-ix.length)]? =rs[k]?)
 |[],l,rs,r,h,_=>by
  have:=fj h;subst this;refine⟨by simp,by simp,by simp,by simp,fun i _ hi=>List.getElem?_append_left hi,fun k _=>?_⟩;rw[List.getElem?_append_right (by simp)];simp
 |i::ix,l,[],r,h,_=>by cases h
 |i::ix,l,y::rs,r,h,hnd=>by
  simp only[iO,Option.bind_eq_some_iff] at h;obtain⟨l',h1,h2⟩:=h;obtain⟨rfl,hil⟩:=eT h1;have hnd':=List.nodup_cons.1 hnd;obtain⟨a1,a2,a3,a4,a5,a6⟩:=uy h2 hnd'.2;simp only[List.length_set] at a2 a3 a5 a6;refine⟨by simp;exact a1,?_,by simp[a3],?_,?_,?_⟩
  ·intro j hj;rcases List.mem_cons.1 hj with rfl|hj
   ·exact hil
   ·exact a2 j hj
  ·intro k j x hk hx;cases k with
   |zero=>
    simp at hk hx;subst hk hx;rw[a5 i hnd'.1 hil];simp[hil]
   |succ k=>exact a4 k j x (by simpa using hk) (by simpa using hx)
  ·intro j hj hl;simp only[List.mem_cons,not_or] at hj;rw[a5 j hj.2 hl,List.getElem?_set_ne (Ne.symm hj.1)]
  ·intro k hk;cases k with
   |zero=>simp at hk
   |succ k=>
    have:=a6 k (by simpa using hk);simp only[List.length_cons,Nat.add_sub_add_right]
    simpa using this
theorem qT(ix:List Nat)(n:Nat):∀m,(names ix n m).length=ix.length+m:=by
 intro m
 induction m generalizing ix n with
 |zero=>rfl
 |succ m ih=>simp[names,ih];omega
theorem nZ(ix:List Nat)(n:Nat):∀m (k:Nat),k<ix.length+m→(names ix n m)[k]? =some (if h:k<ix.length then ix[k] else n+(k-ix.length)):=by
 intro m
 induction m generalizing ix n with
 |zero=>intro k hk;simp at hk;simp[names,hk]
 |succ m ih=>
  intro k hk;rw[names,ih (ix++[n]) (n+1) k (by simp;omega)];simp only[List.length_append,List.length_singleton];by_cases h1:k<ix.length
  ·have:k<ix.length+1:=by omega
   simp[h1,this]
  ·by_cases h2:k=ix.length
   ·subst h2;simp
   ·have:¬k<ix.length+1:=by omega
    simp[h1,this];omega
def Ob.ja(ρ:List Nat):Ob→Option Ob
 | .cells l ty=>(ml ρ l).bind fun l'=>some (.cells l' ty)
 | .row e k=>some (.row e k)
 | .bX e k=>some (.bX e k)
 | .buf e k ls q=>some (.buf e k ls q)
 | .fK f=>some (.fK f)
 | .cV f=>some (.cV f)
 | .iI o k=>some (.iI o k)
 | .jM _ _ _ _=>none
 | .dead=>some .dead
def nW(ρ:List Nat):List Ob→Option (List Ob)
 |[]=>some []
 |o::r=>(o.ja ρ).bind fun o'=>(nW ρ r).bind fun r'=>some (o'::r')
theorem zn{ρ:List Nat}:∀{l l':List Ob},nW ρ l=some l'→l'.length=l.length∧∀(j:Nat) o',l'[j]? =some o'→∃o,l[j]? =some o∧o.ja ρ=some o'
 |[],l',h=>by simp[nW] at h;subst h;simp
 |o::r,l',h=>by
  simp only[nW,Option.bind_eq_some_iff,Option.some.injEq] at h;obtain⟨a',h1,b',h2,rfl⟩:=h;have ih:=zn h2;refine⟨by simp[ih.1],fun j o' hj=>?_⟩;cases j with
  |zero=>simp at hj;subst hj;exact⟨o,rfl,h1⟩
  |succ j=>simpa using ih.2 j o' (by simpa using hj)
theorem eS.ja{ρ:List Nat}{g g':Gh}{w:World}{o o':Ob}{p:Pl}(h:Ms ρ g g')(hm:g'.m=g.m)(hr:o.ja ρ=some o')(hok:eS g w o p):eS g' w o' p∧(∀ b,cP o' p b→cP o p b):=by
 cases o<;>simp only[Ob.ja,Option.bind_eq_some_iff,Option.some.injEq,reduceCtorEq] at hr
 case cells l ty=>
  obtain⟨l',h1,rfl⟩:=hr;cases p with
  |loc b=>obtain⟨vs,e1,e2,e3⟩:=hok;exact⟨⟨vs,e1,nX h _ h1 e2,by rw[hm];exact e3⟩,fun _ h=>h⟩
  |row b c n=>exact hok.elim
 case row e k=>
  subst hr;cases p with
  |loc b=>exact hok.elim
  |row b c n=>exact⟨by simpa only[eS,hm] using hok,fun _ h=>h⟩
 case bX e k=>subst hr;exact⟨hok,fun _ h=>h⟩
 case buf e k ls q=>
  subst hr;cases p with
  |loc b=>exact hok.elim
  |row b c n=>exact⟨by simpa only[eS,hm] using hok,fun _ h=>h⟩
 case fK f=>
  subst hr;cases p with
  |loc b=>exact⟨by simpa only[eS,hm] using hok,fun _ h=>h⟩
  |row b c n=>exact hok.elim
 case cV f=>
  subst hr;cases p with
  |loc b=>exact⟨by simpa only[eS,hm] using hok,fun _ h=>h⟩
  |row b c n=>exact hok.elim
 case iI o k=>subst hr;exact⟨by cases p<;>simpa only[eS,hm] using hok,fun _ h=>h⟩
 case dead=>subst hr;exact⟨by cases p<;>trivial,fun _ h=>h⟩
def uE:List Nat→List (Nat×SV)→Option (List (Nat×SV))
 |[],l=>some l
 |i::ix,l=>(Bo i l).bind fun l'=>uE ix l'
def rl:List Nat→List Ob→Option (List Ob)
 |[],l=>some l
 |i::ix,l=>(Bp i l).bind fun l'=>rl ix l'
end
end Go.Vd
namespace Go.Vd
open Go Go.RowKit
mutual
theorem uD(p q:Nat→Bool):∀s:SV,(s.kill p).kill q=s.kill fun j=>p j||q j
 | .own j k ls=>by
  simp only[SV.kill];cases hp:p j<;>simp[SV.kill]
 | .rp j=>by
  simp only[SV.kill];cases hp:p j<;>simp[SV.kill]
 | .arr j n=>by
  simp only[SV.kill];cases hp:p j<;>simp[SV.kill]
 | .bp j off=>by
  simp only[SV.kill];cases hp:p j<;>simp[SV.kill]
 | .agg l=>by simp only[SV.kill,gF p q l]
 | .bZ l=>by simp only[SV.kill,gF p q l]
 | .fn f a b=>by simp only[SV.kill,gF p q a,gF p q b]
 | .me T s=>by simp only[SV.kill,uD p q s]
 | .d x=>rfl
 | .cb j off=>rfl
 | .map j=>rfl
 | .yF k ls=>rfl
 | .gG=>rfl
theorem gF(p q:Nat→Bool):∀l:List SV,jS q (jS p l)=jS (fun j=>p j||q j) l
 |[]=>rfl
 |s::r=>by simp only[jS,uD p q s,gF p q r]
end
mutual
theorem AR:∀s:SV,s.kill (fun _=>false)=s
 | .own j k ls=>rfl
 | .rp j=>rfl
 | .arr j n=>rfl
 | .bp j off=>rfl
 | .agg l=>by simp only[SV.kill,n7 l]
 | .bZ l=>by simp only[SV.kill,n7 l]
 | .fn f a b=>by simp only[SV.kill,n7 a,n7 b]
 | .me T s=>by simp only[SV.kill,AR s]
 | .d x=>rfl
 | .cb j off=>rfl
 | .map j=>rfl
 | .yF k ls=>rfl
 | .gG=>rfl
theorem n7:∀l:List SV,jS (fun _=>false) l=l
 |[]=>rfl
 |s::r=>by simp only[jS,AR s,n7 r]
end
def oe:List Nat→Nat→Bool
 |[],_=>false
 |i::ix,j=>Nat.beq j i||oe ix j
theorem od:∀{ix:List Nat} {j:Nat},oe ix j=true↔j∈ix
 |[],j=>by simp[oe]
 |i::ix,j=>by simp[oe,od (ix:=ix)]
theorem CR{t:Nat}:∀{ix:List Nat} {l l':List (Nat×SV)},uE ix l=some l'→oK t l'=(oK t l).kill (oe ix)
 |[],l,l',h=>by simp[uE] at h;subst h;exact(AR _).symm
 |i::ix,l,l',h=>by
  simp only[uE,Option.bind_eq_some_iff] at h;obtain⟨l1,h1,h2⟩:=h;rw[CR h2,tE h1,uD];rfl
theorem xB:∀{ix:List Nat} {l l':List Ob},rl ix l=some l'→l'.length=l.length∧∀{g g':Gh},Nj (oe ix) g g'→∀(j:Nat) o',l'[j]? =some o'→∃o,l[j]? =some o∧iV g g' o o'∧(∀ i f dn cur,o'=.jM i f dn cur→o=.jM i f dn cur)∧(∀ f,o=.fK f→o'=.fK f)
 |[],l,l',h=>by
  simp[rl] at h;subst h;exact⟨rfl,fun{g g'} hg j o' ho=>⟨o',ho,iV.refl ⟨hg.m,fun i p hp=>hg.gs i p hp rfl⟩ o',fun _ _ _ _ h=>h,fun _ h=>h⟩⟩
 |i::ix,l,l',h=>by
  simp only[rl,Option.bind_eq_some_iff] at h;obtain⟨l1,h1,h2⟩:=h;have ih:=xB h2;have h3:=qY h1;refine⟨by rw[ih.1,h3.1],fun{g g'} hg j o' ho=>?_⟩;obtain⟨o1,a1,a2,a3,a4⟩:=(xB h2).2 (g:=g') (g':=g') ⟨fP.refl _,fun _ _ h _=>h,fun _ _ h=>h⟩ j o' ho;obtain⟨o,b1,b2⟩:=h3.2 j o1 a1;have e1:∀i f dn cur,o1=.jM i f dn cur→o=.jM i f dn cur:=by
   intro i' f dn cur e;subst e;cases o<;>simp only[Ob.kO,Option.bind_eq_some_iff,Option.some.injEq] at b2
   case cells=>obtain⟨_,_,b2⟩:=b2;cases b2
   all_goals first|(cases b2;rfl)|cases b2
  have e2:∀f,o=.fK f→o1=.fK f:=by
   intro f e;subst e;simp[Ob.kO] at b2;exact b2.symm
  refine⟨o,b1,?_,fun _ _ _ _ h=>e1 _ _ _ _ (a3 _ _ _ _ h),fun f h=>a4 f (e2 f h)⟩;cases o with
  |cells l0 ty=>
   simp only[Ob.kO,Option.bind_eq_some_iff,Option.some.injEq] at b2;obtain⟨l2,c1,rfl⟩:=b2;cases o'<;>simp only[iV] at a2 ⊢
   case cells l3 ty3=>
    obtain⟨rfl,a2⟩:=a2;refine⟨rfl,fun vs hd=>?_⟩;have hl3:l3=jS (oe ix) l2:=by
     have key:∀{ix:List Nat} {l l':List Ob},rl ix l=some l'→∀(j:Nat) a ty b ty',l[j]? =some (.cells a ty)→l'[j]? =some (.cells b ty')→b=jS (oe ix) a:=by
      intro ix
      induction ix with
      |nil=>intro l l' h j a ty b ty' h1 h2;simp[rl] at h;subst h;rw[h1] at h2;cases h2;exact(n7 _).symm
      |cons i ix ih=>
       intro l l' h j a ty b ty' h1 h2;simp only[rl,Option.bind_eq_some_iff] at h;obtain⟨l1,h3,h4⟩:=h;have h5:=qY h3;have hlt:j<l1.length:=by rw[h5.1];exact(List.getElem?_eq_some_iff.1 h1).1
       obtain⟨o2,h6,h7⟩:=h5.2 j l1[j] (by simp[hlt]);rw[h1] at h6;cases h6;simp only[Ob.kO,Option.bind_eq_some_iff,Option.some.injEq] at h7;obtain⟨a',h8,h9⟩:=h7;have:=ih h4 j a' ty b ty' (by rw[List.getElem?_eq_getElem hlt,←h9]) h2;rw[this,qg h8,gF];rfl
     exact key h2 j l2 _ l3 _ a1 ho
    rw[hl3,qg c1,gF];exact bC.kill hg _ hd
  |row e k=>simp[Ob.kO] at b2;subst b2;cases o'<;>exact a2
  |bX e k=>simp[Ob.kO] at b2;subst b2;cases o'<;>exact a2
  |buf e k ls q=>
   simp[Ob.kO] at b2;subst b2;cases o'<;>first|exact a2|skip
   exact⟨a2.1,a2.2.1,a2.2.2.1,a2.2.2.2.1,fun vs hd=>dI.mono hg.m _ hd⟩
  |fK f=>simp[Ob.kO] at b2;subst b2;cases o'<;>exact a2
  |cV f=>
   simp[Ob.kO] at b2;subst b2;cases o'<;>first|exact a2|exact⟨a2.1,hg.m⟩
  |iI o k=>
   simp[Ob.kO] at b2;subst b2;cases o'<;>first|exact a2|exact⟨a2.1,a2.2.1,hg.m⟩
  |jM i f dn cur=>simp[Ob.kO] at b2;subst b2;cases o'<;>exact a2
  |dead=>simp[Ob.kO] at b2;subst b2;cases o'<;>exact a2
theorem CC{α:Type}:∀{ix:List Nat} {l rs:List α},(∀ i∈ix,i<l.length)→ix.length≤rs.length→∃r,iO ix l rs=some r
 |[],l,rs,_,_=>by
  have:∀l:List α,∃r,ib l rs=some r:=by
   intro l
   induction l with
   |nil=>exact⟨rs,rfl⟩
   |cons x l ih=>obtain⟨r,h⟩:=ih;exact⟨x::r,by simp[ib,h]⟩
  exact this l
 |i::ix,l,[],_,h=>by simp at h
 |i::ix,l,y::rs,h1,h2=>by
  have h3:=h1 i List.mem_cons_self;have:∀(n:Nat) (l:List α),n<l.length→gT n y l=some (l.set n y):=by
   intro n
   induction n with
   |zero=>intro l hl;cases l with|nil=>simp at hl|cons x l=>rfl
   |succ n ih=>intro l hl;cases l with|nil=>simp at hl|cons x l=>simp[gT,ih l (by simpa using hl)]
  obtain⟨r,hr⟩:=CC (ix:=ix) (l:=l.set i y) (rs:=rs) (fun j hj=>by simpa using h1 j (List.mem_cons_of_mem _ hj)) (by simpa using h2);exact⟨r,by simp only[iO,this i l h3,Option.bind_some,hr]⟩
section
variable {P:Program} {GL:Nat→List D} {B:Bs} {σ:St} {g:Gh} {a:Act} {w:World}
theorem cE.after(h:cE GL B σ g a w){obc ob':List Ob}{ix:List Nat}(hfit:ch σ.ob ix obc ix)(hnd:ix.Nodup)(hno:fV obc=true)(hit:∀i∈ix,∀(j:Nat) f dn cur,σ.ob[j]? ≠some (.jM i f dn cur))
 {g':Gh} {w':World} (hs:cX GL ob' g' w') (hst:Aj ⟨⟨g.m,ix.map fun i=>g.gs.getD i (.loc 0)⟩,w,dk obc ⟨g.m,ix.map fun i=>g.gs.getD i (.loc 0)⟩,obc.length,[]⟩ ob' g' w') (hle:obc.length≤ob'.length) (hno':fV ob'=true)
 {obr ob1 obn:List Ob} {sl1:List (Nat×SV)} (h1:nW (names ix σ.ob.length (ob'.length-ix.length)) ob'=some obr) (h2:rl ix σ.ob=some ob1) (h3:iO ix ob1 obr=some obn) (h4:uE ix σ.sl=some sl1):
 ∃gn,cE GL B ⟨σ.n,sl1,obn⟩ gn a w'∧tU (· ∈ix) σ.ob g w gn w'∧∀(s s':SV) (v:Value),s.ja (names ix σ.ob.length (ob'.length-ix.length))=some s'→s.Den g' v→s'.Den gn v:=by
 have hlen:=h.store.len;have hsub:=h.store.sub hfit hnd (fun j i f dn cur hj=>absurd hj (fe hno j i f dn cur));have hfg:=hfit.get;have hixlt:∀i∈ix,i<σ.ob.length:=fun i hi=>by
  obtain⟨k,hk,e⟩:=List.mem_iff_getElem.1 hi;obtain⟨i',o,a1,a2,_⟩:=hfg.2 k (obc[k]'(by rw[hfg.1];exact hk)) (by simp[hfg.1,hk]);rw[List.getElem?_eq_getElem hk,e] at a1;cases a1;exact(List.getElem?_eq_some_iff.1 a2).1
 have hle':ix.length≤g'.gs.length:=by rw[← hs.len,←hfg.1];exact hle
 obtain⟨gsn,hgsn⟩:=CC (ix:=ix) (l:=g.gs) (rs:=g'.gs) (fun i hi=>by rw[← hlen];exact hixlt i hi) hle';obtain⟨m1,m2,m3,m4,m5,m6⟩:=uy hgsn hnd;have hren:=zn h1;have hk1:=xB h2;obtain⟨q1,q2,q3,q4,q5,q6⟩:=uy h3 hnd;rw[hk1.1] at q2 q3 q5 q6;have hobrl:obr.length=ob'.length:=hren.1;have hnn:obn.length=gsn.length:=by rw[q3,m3,hobrl,hlen,hs.len]
 have hRG:Ms (names ix σ.ob.length (ob'.length-ix.length)) g' ⟨g'.m,gsn⟩:=by
  refine⟨fP.refl _,fun k j p hk hp=>?_⟩;have hkl:k<ix.length+(ob'.length-ix.length):=by
   have:=(List.getElem?_eq_some_iff.1 hk).1;rwa [qT] at this
  rw[nZ _ _ _ _ hkl] at hk;by_cases hki:k<ix.length
  ·rw [dif_pos hki] at hk;cases hk;exact m4 k _ p (by simp[hki]) hp
  ·rw [dif_neg hki] at hk;cases hk;have:=m6 k (by omega);show gsn[_]? =_;rw[hlen,this];exact hp
 have hplc:∀(k i:Nat) p,ix[k]? =some i→g.gs[i]? =some p→(ix.map fun i=>g.gs.getD i (.loc 0))[k]? =some p:=fun k i p e1 e2=>by
  rw[List.getElem?_map,e1];simp[List.getD_eq_getElem?_getD,e2]
 have hat:∀(i b:Nat),g.gs[i]? =some (.loc b)→gsn[i]? =some (.loc b):=fun i b hb=>by
  by_cases hi:i∈ix
  ·obtain ⟨k,hk,e⟩:=List.mem_iff_getElem.1 hi;have hk2:ix[k]? =some i:=by rw[List.getElem?_eq_getElem hk,e]
   exact m4 k i _ hk2 (hst.at' k b (by show k<obc.length;rw[hfg.1];exact hk) (hplc k i _ hk2 hb))
  ·rw [m5 i hi (List.getElem?_eq_some_iff.1 hb).1];exact hb
 have hkl:Nj (oe ix) g ⟨g'.m,gsn⟩:=⟨hst.mem,fun i q hq hi=>by
  have hi':i∉ix:=fun hm=>by rw[od.2 hm] at hi;cases hi
  show gsn[i]? =_;rw[m5 i hi' (List.getElem?_eq_some_iff.1 hq).1];exact hq,hat⟩
 have hX:∀b,dk obc ⟨g.m,ix.map fun i=>g.gs.getD i (.loc 0)⟩ b→∃(i:Nat) (o:Ob) (p:Pl),i∈ix∧σ.ob[i]? =some o∧g.gs[i]? =some p∧cP o p b:=fun b hb=>by
  obtain⟨i,k,o,p,e1,e2,e3,e4⟩:=hsub.2.2 b hb;exact⟨i,o,p,List.mem_of_getElem? e1,e2,e3,e4⟩
 have hneX:∀(j:Nat) oj pj b,j∉ix→σ.ob[j]? =some oj→g.gs[j]? =some pj→cP oj pj b→¬dk obc ⟨g.m,ix.map fun i=>g.gs.getD i (.loc 0)⟩ b:=fun j oj pj b hj e1 e2 e3 hb=>by
  obtain⟨i,o,p,f1,f2,f3,f4⟩:=hX b hb;have:=h.store.oz i j o oj p pj b f2 e1 f3 e2 f4 e3;subst this;exact hj f1
 have htou:∀(j:Nat) o',(j∈ix∨σ.ob.length≤j)→obn[j]? =some o'→∃(k:Nat) (oc:Ob),(names ix σ.ob.length (ob'.length-ix.length))[k]? =some j∧ob'[k]? =some oc∧oc.ja (names ix σ.ob.length (ob'.length-ix.length))=some o':=fun j o' hj ho=>by
  rcases hj with hj|hj
  ·obtain ⟨k,hk,e⟩:=List.mem_iff_getElem.1 hj;have hk2:ix[k]? =some j:=by rw[List.getElem?_eq_getElem hk,e]
   have hkr:k<obr.length:=by omega
   have:=q4 k j obr[k] hk2 (by simp[hkr]);rw[ho] at this;cases this;obtain⟨oc,e1,e2⟩:=hren.2 k obr[k] (by simp[hkr]);exact⟨k,oc,by rw[nZ _ _ _ _ (by omega),dif_pos hk,e],e1,e2⟩
  ·have hjl:=(List.getElem?_eq_some_iff.1 ho).1;rw[q3] at hjl;have:=q6 (ix.length+(j-σ.ob.length)) (by omega);rw[show σ.ob.length+(ix.length+(j-σ.ob.length)-ix.length)=j by omega,ho] at this;obtain⟨oc,e1,e2⟩:=hren.2 _ o' this.symm;refine⟨ix.length+(j-σ.ob.length),oc,?_,e1,e2⟩;rw[nZ _ _ _ _ (by omega),dif_neg (by omega)]
   congr 1;omega
 have hninj:∀(k k' j:Nat),(names ix σ.ob.length (ob'.length-ix.length))[k]? =some j→(names ix σ.ob.length (ob'.length-ix.length))[k']? =some j→k=k':=fun k k' j e1 e2=>by
  have l1:=(List.getElem?_eq_some_iff.1 e1).1;have l2:=(List.getElem?_eq_some_iff.1 e2).1;rw[qT] at l1 l2;rw[nZ _ _ _ _ l1] at e1;rw[nZ _ _ _ _ l2] at e2;by_cases c1:k<ix.length<;>by_cases c2:k'<ix.length
  ·rw [dif_pos c1] at e1;rw[dif_pos c2] at e2;simp only[Option.some.injEq] at e1 e2;exact(List.getElem?_inj c1 hnd).1 (by rw[List.getElem?_eq_getElem c1,List.getElem?_eq_getElem c2,e1,e2])
  ·rw [dif_pos c1] at e1;rw[dif_neg c2] at e2;simp only[Option.some.injEq] at e1 e2;have:=hixlt _ (List.getElem_mem c1);omega
  ·rw [dif_neg c1] at e1;rw[dif_pos c2] at e2;simp only[Option.some.injEq] at e1 e2;have:=hixlt _ (List.getElem_mem c2);omega
  ·rw [dif_neg c1] at e1;rw[dif_neg c2] at e2;simp only[Option.some.injEq] at e1 e2;omega
 have hpl2:∀(k j:Nat) p,(names ix σ.ob.length (ob'.length-ix.length))[k]? =some j→gsn[j]? =some p→k<g'.gs.length→g'.gs[k]? =some p:=fun k j p e1 e2 e3=>by
  have:=hRG.2 k j g'.gs[k] e1 (by simp[e3]);have e4:gsn[j]? =some g'.gs[k]:=this;rw[e2] at e4;cases e4;simp[e3]
 refine⟨⟨g'.m,gsn⟩,⟨h.defers,h.size,fun t=>?_,?_,?_⟩,⟨hst.mem,fun i b o hi e1 e2 e3=>⟨hat i b e2,hst.fr.block b (h.store.lt e1 e2 (eP e3)) (hneX i o _ b hi e1 e2 (eP e3))⟩⟩,fun s s' v e1 e2=>SV.AD hRG s e1 e2⟩
 ·show (oK t sl1).Den _ _;rw[CR h4];exact SV.Den.kill hkl _ (h.da t)
 ·refine h.store.step (p:=fun j=>j∈ix∨σ.ob.length≤j) hst.mem hat (fun i q hi hq=>hkl.gs i q hq (by cases hb:oe ix i with|false=>rfl|true=>exact absurd (.inl (od.1 hb)) hi)) hs.sat hnn (fun j o1 hj ho=>?_) (fun j i f dn cur ho=>?_) (fun j i f dn cur hj ho=>?_)
   (fun j o1 q b hj ho hq hb=>?_) (fun j o1 hj ho=>?_) (fun j o1 q b hj ho hq hb=>?_) (fun i j oi oj pi pj b hi hj e1 e2 e3 e4 e5 e6=>?_)
  ·simp only[not_or,Nat.not_le] at hj;rw[q5 j hj.1 hj.2] at ho;obtain⟨o,e1,e2,_⟩:=hk1.2 hkl j o1 ho;exact⟨o,e1,e2⟩
  ·by_cases hj:j∈ix∨σ.ob.length≤j
   ·obtain ⟨k,oc,e1,e2,e3⟩:=htou j _ hj ho;cases oc<;>simp only[Ob.ja,Option.bind_eq_some_iff,Option.some.injEq,reduceCtorEq] at e3
    case cells=>obtain⟨_,_,e3⟩:=e3;cases e3
   ·simp only[not_or,Nat.not_le] at hj;rw[q5 j hj.1 hj.2] at ho;obtain⟨o,e1,_,e3,_⟩:=hk1.2 hkl j _ ho;have e4:=e3 i f dn cur rfl;subst e4;have e5:=h.store.eD j i f dn cur e1;have hi:i∉ix:=fun hm=>hit i hm j f dn cur e1
    have hil:=(List.getElem?_eq_some_iff.1 e5).1;rw[q5 i hi hil];obtain⟨o2,f1,f2,f3,f4⟩:=hk1.2 hkl i ob1[i] (by simp[hk1.1,hil]);rw[e5] at f1;cases f1;have:=f4 f rfl;rw[List.getElem?_eq_getElem (by rw[hk1.1];exact hil),this]
  ·simp only[not_or,Nat.not_le] at hj;rw[q5 j hj.1 hj.2] at ho;obtain⟨o,e1,_,e3,_⟩:=hk1.2 hkl j _ ho;have e4:=e3 i f dn cur rfl;subst e4;have e5:=h.store.eD j i f dn cur e1;have hil:=(List.getElem?_eq_some_iff.1 e5).1;simp only[not_or,Nat.not_le];exact⟨fun hm=>hit i hm j f dn cur e1,hil⟩
  ·simp only[not_or,Nat.not_le] at hj;have hlt:=h.store.lt ho hq hb;have hnx:=hneX j o1 q b hj.1 ho hq hb;refine⟨hst.fr.block b hlt hnx,fun off hn=>?_⟩;show g'.m b off=none;cases hx:g'.m b off with
   |none=>rfl
   |some x=>
    rcases hst.new b off x hx hn with h5|h5
    ·exact absurd h5 hnx
    ·have h6:w.heap.size≤b:=h5;omega
  ·obtain ⟨k,oc,e1,e2,e3⟩:=htou j o1 hj ho;obtain⟨p,hp⟩:=hs.place e2;have:=hs.gX k oc p e2 hp;exact⟨p,hRG.2 k j p e1 hp,(eS.ja hRG rfl e3 this).1⟩
  ·obtain ⟨k,oc,e1,e2,e3⟩:=htou j o1 hj ho;obtain⟨p,hp⟩:=hs.place e2;have h5:gsn[j]? =some p:=hRG.2 k j p e1 hp;have h5':gsn[j]? =some q:=hq;rw[h5] at h5';cases h5';have h6:=(eS.ja hRG rfl e3 (hs.gX k oc _ e2 hp)).2 b hb;rcases hst.own k oc _ b e2 hp h6 with h7|h7
   ·obtain ⟨i,o,p',f1,f2,f3,f4⟩:=hX b h7;exact .inl ⟨i,o,p',.inl f1,f2,f3,f4⟩
   ·exact .inr h7
  ·obtain ⟨k,oc,a1,a2,a3⟩:=htou i oi hi e1;obtain⟨k',oc',b1,b2,b3⟩:=htou j oj hj e2;obtain⟨p,hp⟩:=hs.place a2;obtain⟨p',hp'⟩:=hs.place b2;have c1:gsn[i]? =some p:=hRG.2 k i p a1 hp;have c1':gsn[i]? =some pi:=e3;rw[c1] at c1';cases c1';have c2:gsn[j]? =some p':=hRG.2 k' j p' b1 hp';have c2':gsn[j]? =some pj:=e4;rw[c2] at c2';cases c2';have d1:=(eS.ja hRG rfl a3 (hs.gX k oc _ a2 hp)).2 b e5;have d2:=(eS.ja hRG rfl b3 (hs.gX k' oc' _ b2 hp')).2 b e6;have:=hs.oz k k' oc oc' _ _ b a2 b2 hp hp' d1 d2;subst this;rw[a1] at b1;cases b1;rfl
 ·refine h.fI.step hst.fr (fun b hb=>?_) hst.mem (fun b o x hx hn=>hst.new b o x hx hn) (fun j o p b e1 e2 e3=>?_) hat
  ·obtain ⟨i,o,p,_,f2,f3,f4⟩:=hX b hb;exact h.fI.own i o p b f2 f3 f4
  ·by_cases hj:j∈ix∨σ.ob.length≤j
   ·obtain ⟨k,oc,a1,a2,a3⟩:=htou j o hj e1;obtain⟨p',hp⟩:=hs.place a2;have c1:gsn[j]? =some p':=hRG.2 k j p' a1 hp;have c1':gsn[j]? =some p:=e2;rw[c1] at c1';cases c1';have d1:=(eS.ja hRG rfl a3 (hs.gX k oc _ a2 hp)).2 b e3;rcases hst.own k oc _ b a2 hp d1 with h7|h7
    ·obtain ⟨i,o,p',f1,f2,f3,f4⟩:=hX b h7;exact .inl (h.fI.own i o p' b f2 f3 f4)
    ·exact .inr h7
   ·simp only[not_or,Nat.not_le] at hj;rw[q5 j hj.1 hj.2] at e1;have e2':gsn[j]? =some p:=e2;rw[m5 j hj.1 (by omega)] at e2';obtain⟨o2,f1,f2,_⟩:=hk1.2 hkl j o e1;refine .inl (h.fI.own j o2 p b f1 e2' ?_);rcases f2.cb e3 (fun _ _=>trivial) with f3|⟨e',k',rfl⟩
    ·exact f3
    ·have:=h.store.gX _ _ _ f1 e2';simp only[eS] at this;subst this;cases o<;>first|exact False.elim f2|(simp[cP,dU] at e3)
end
end Go.Vd
namespace Go.Vd
open Go Go.RowKit
inductive Ex where
 |normal
 |exit (id:Nat)
 |goto (l:Nat)
 |ret
structure pG where
 pn:SV→List (Nat×SV)→List Ob→Prop
 RA:Bs→Exit→Act→World→Prop
def xQ(k:Nat):List Oper→Bool
 |[]=>false
 |o::r=>(match o.dst with|some t=>Nat.beq t k|none=>false)||xQ k r
def iz(l:List Oper):List (Nat×SV)→List (Nat×SV)
 |[]=>[]
 |(k,s)::r=>cond (xQ k l) (iz l r) ((k,s)::iz l r)
theorem uO{l:List Oper}{t:Nat}:∀{sl:List (Nat×SV)},oK t (iz l sl)=if xQ t l=true then .gG else oK t sl
 |[]=>by simp[iz,oK]
 |(k,s)::r=>by
  have ih:=uO (l:=l) (t:=t) (sl:=r);unfold iz;rw[eM];cases hk:xQ k l with
  |true=>
   rw[cond_true,ih];by_cases hkt:k=t
   ·subst hkt;rw[hk];simp
   ·rw [if_neg hkt]
  |false=>
   rw[cond_false,eM,ih];by_cases hkt:k=t
   ·subst hkt;rw[hk];simp
   ·rw [if_neg hkt,if_neg hkt]
theorem xR{l:List Oper}:∀{sl:List (Nat×SV)},iz l (iz l sl)=iz l sl
 |[]=>rfl
 |(k,s)::r=>by
  have ih:=xR (l:=l) (sl:=r);cases hk:xQ k l with
  |true=>
   have e:iz l ((k,s)::r)=iz l r:=by rw[iz,hk,cond_true]
   rw[e,ih]
  |false=>
   have e:iz l ((k,s)::r)=(k,s)::iz l r:=by rw[iz,hk,cond_false]
   rw[e,iz,hk,cond_false,ih]
abbrev pG.dr(l:List Oper)(Pn:pG):pG:=⟨fun s sl ob=>Pn.pn s (iz l sl) ob,fun _ _ _ _=>False⟩
def KW(GL:Nat→List D)(B:Bs)(Pn:pG)(c:List PanicEntry)(a:Act)(w:World):Prop:=
 ∃g sl ob v s,c=[{ v:=v,recovered:=false }]∧cX GL ob g w∧Aj B ob g w∧s.Den g v∧(∀ t,(oK t sl).Den g (a.tmps.getD t undef))∧Pn.pn s sl ob
def qd(GL:Nat→List D)(B:Bs)(Pn:pG)(Q:Ex→St→Prop):Exit→Act→World→Prop
 | .normal,a,w=> ∃σ,Rel GL B σ a w∧Q .normal σ
 | .exit id,a,w=> ∃σ,Rel GL B σ a w∧Q (.exit id) σ
 | .goto l,a,w=> ∃σ,Rel GL B σ a w∧Q (.goto l) σ
 | .ret,a,w=>Pn.RA B .ret a w∨∃σ,Rel GL B σ a w∧Q .ret σ
 | .panic c,a,w=>Pn.RA B (.panic c) a w∨(a.defers=B.df∧KW GL B Pn c a w)
 | .outgrown,_,_=>False
def bu(P:Program)(GL:Nat→List D)(n0:Nat)(Pn:pG)(c:Code)(Q:Ex→St→Prop)(σ:St):Prop:=
 ∀B:Bs,B.n0=n0→∀a w,Rel GL B σ a w→c.wp P (qd GL B Pn Q) a w
def Ex.seq(K:St→Prop)(Q:Ex→St→Prop):Ex→St→Prop
 | .normal,σ=>K σ
 |e,σ=>Q e σ
def Ex.inBlock(id:Nat)(Q:Ex→St→Prop):Ex→St→Prop
 | .exit j,σ=>if j=id then Q .normal σ else Q (.exit j) σ
 |e,σ=>Q e σ
def di(P:Program)(GL:Nat→List D)(n0:Nat)(Pn:pG)(T:Nat→Prop)(o:Oper)(σ:St)(K:St→Prop):Prop:=
 ∀B:Bs,B.n0=n0→∀g a w,cE GL B σ g a w→∀(next:Act→World→Prop) (Q:Exit→Act→World→Prop),
  (∀ σ' g' a' w',cE GL B σ' g' a' w'→tU T σ.ob g w g' w'→K σ'→next a' w')→(∀ c w',KW GL B Pn c a w'→Q (.panic c) a w')→o.wp P a w next Q
def bA(P:Program)(GL:Nat→List D)(n0:Nat)(Pn:pG)(ops l:List Oper)(Q:Ex→St→Prop)(σ:St):Prop:=
 ∀B:Bs,B.n0=n0→∀a w,Rel GL B σ a w→wpList P ops.toArray (qd GL B Pn Q) l a w
section
variable {P:Program} {GL:Nat→List D} {n0:Nat} {Pn:pG}
variable {o:Oper} {σ:St} {K:St→Prop} {T:Nat→Prop} {t:Nat}
theorem JH(hd:o.dst=some t)(ht:Nat.blt t σ.n=true)(h:ak P GL o σ fun s _=>K ⟨σ.n,(t,s)::σ.sl,σ.ob⟩):di P GL n0 Pn T o σ K:=fun B hB g a w hr next Q hK hP=>by
 obtain⟨Hc,s,y,L,hrun,hc,_,hden,hk⟩:=h B g a w hr;unfold Oper.wp;rw[hrun w hc];show next (a.put o.dst y) w
 rw[hd];exact hK _ _ _ _ (hr.put ht hden) (tU.refl _ _ _ _) hk
variable {ops:List Oper} {Q:Ex→St→Prop}
theorem vU(h:Q .normal σ):bA P GL n0 Pn ops [] Q σ:=fun B hB a w hr=>wpList_nil ⟨σ,hr,h⟩
variable {rest:List Oper}
theorem Co(hg:o.guard=none)(h:di P GL n0 Pn T o σ fun σ'=>bA P GL n0 Pn ops rest Q σ'):bA P GL n0 Pn ops (o::rest) Q σ:=fun B hB a w ⟨g,hr⟩=>by
 refine wpList_step fun K hK=>?_
 simp only[Region.wanted,hg,if_true];exact h B hB g a w hr _ _ (fun σ' g' a' w' hr' _ hk=>hK _ _ (hk B hB a' w' ⟨g',hr'⟩)) (fun c w' hp=>.inr ⟨hr.defers,hp⟩)
theorem oc(h:di P GL n0 Pn T o σ fun σ'=>bA P GL n0 Pn ops rest Q σ')(hg:o.guard=none:=by exact rfl):bA P GL n0 Pn ops (o::rest) Q σ:=Co hg h
variable {n:Nat} {sl:List (Nat×SV)} {ob:List Ob}
theorem nK(hg:o.guard=none)(hd:o.dst=some t)(ht:Nat.blt t n=true)
 (h:ak P GL o ⟨n,sl,ob⟩ fun s _=>bA P GL n0 Pn ops rest Q ⟨n,(t,s)::sl,ob⟩):bA P GL n0 Pn ops (o::rest) Q ⟨n,sl,ob⟩:=
 Co (T:=fun _=>False) hg (JH hd ht h)
theorem o1(h:ak P GL o ⟨n,sl,ob⟩ fun s _=>bA P GL n0 Pn ops rest Q ⟨n,(t,s)::sl,ob⟩)(hg:o.guard=none:=by exact rfl)(hd:o.dst=some t:=by exact rfl)(ht:Nat.blt t n=true:=by exact rfl):bA P GL n0 Pn ops (o::rest) Q ⟨n,sl,ob⟩:=nK hg hd ht h
def gR(ops:List Oper)(j:Nat):Option Tmp:=(ops[j]?).bind (·.dst)
variable {j d:Nat} {want b:Bool} {a:Act}
theorem tY{ops:Array Oper}(hg:o.guard=some (j,want))(hd:gR ops.toList j=some d)(hb:a.tmps.getD d undef=.bool b):
 Region.wanted o (yielded ops a.tmps)=(b==want):=by
 have h1:(ops[j]?).bind (·.dst)=some d:=by simpa[gR] using hd
 have h2:a.tmps[d]? =some (.bool b):=by
  by_cases hs:d<a.tmps.size
  ·simp [hs] at hb;simp[hs,hb]
  ·simp [hs] at hb;cases hb
 simp only[Region.wanted,hg,yielded,h1,Option.bind_some,h2];cases b<;>cases want<;>rfl
theorem oE{ops:Array Oper}{t:Array Value}(hg:o.guard=some (j,want))(hd:gR ops.toList j=some d)(hb:a.tmps.getD d undef=.tuple t):
 Region.wanted o (yielded ops a.tmps)=false:=by
 have h1:(ops[j]?).bind (·.dst)=some d:=by simpa[gR] using hd
 cases h2:a.tmps[d]? with
 |none=>simp only[Region.wanted,hg,yielded,h1,Option.bind_some,h2];try rfl
 |some v=>
  have hv:v=.tuple t:=by
   rw[Array.getD_eq_getD_getElem?,h2] at hb;simpa using hb
  subst hv;simp only[Region.wanted,hg,yielded,h1,Option.bind_some,h2]
  try rfl
theorem nJ(hg:o.guard=some (j,want))(hd:gR ops j=some d)(hb:gK d sl=some (.d (.v (.bool want))))
 (h:bA P GL n0 Pn ops ({ o with guard:=none }::rest) Q ⟨n,sl,ob⟩):bA P GL n0 Pn ops (o::rest) Q ⟨n,sl,ob⟩:=fun B hB a w ⟨g,hr⟩=>by
 have hbv:a.tmps.getD d undef=.bool want:=by have:=hr.da d;rw[fu hb] at this;exact this
 have h1:=h B hB a w ⟨g,hr⟩;unfold wpList at h1 ⊢;rw[tY hg hd hbv,if_pos (by simp)];have hw:Region.wanted { o with guard:=none } (yielded ops.toArray a.tmps)=true:=rfl;rw[if_pos hw] at h1;exact h1
theorem oR(hg:o.guard=some (j,want))(hd:gR ops j=some d)(hb:gK d sl=some (.d (.v (.bool (!want)))))(hdst:o.dst=some t)(ht:Nat.blt t n=true)
 (h:bA P GL n0 Pn ops rest Q ⟨n,(t,.d (.v undef))::sl,ob⟩):bA P GL n0 Pn ops (o::rest) Q ⟨n,sl,ob⟩:=fun B hB a w ⟨g,hr⟩=>by
 have hbv:a.tmps.getD d undef=.bool (!want):=by have:=hr.da d;rw[fu hb] at this;exact this
 unfold wpList;rw[tY hg hd hbv,if_neg (by cases want<;>simp),hdst];exact h B hB _ w ⟨g,hr.put ht rfl⟩
variable {l:List Oper}
theorem zw(d:Nat)(hb:gK d sl=some (.d (.v (.bool b))))
 (h1:b=true→bA P GL n0 Pn ops l Q ⟨n,(d,.d (.v (.bool true)))::sl,ob⟩) (h2:b=false→bA P GL n0 Pn ops l Q ⟨n,(d,.d (.v (.bool false)))::sl,ob⟩):bA P GL n0 Pn ops l Q ⟨n,sl,ob⟩:=fun B hB a w ⟨g,hr⟩=>by
 have hbv:a.tmps.getD d undef=.bool b:=by have:=hr.da d;rw[fu hb] at this;exact this
 cases b with
 |true=>exact h1 rfl B hB a w ⟨g,hr.known (t:=d) hbv⟩
 |false=>exact h2 rfl B hB a w ⟨g,hr.known (t:=d) hbv⟩
variable {id:Nat}
theorem mQ(h:bA P GL n0 Pn l l Q σ):bu P GL n0 Pn (.region id l.toArray false) Q σ:=
 fun B hB _ _ hr=>wp_region_list (by simpa using h B hB _ _ hr)
def jb(sl:List (Nat×SV)):List Nat→Option (List (Nat×SV))
 |[]=>some []
 |t::r=>(jb sl r).bind fun l=>match gK t sl with
  |some s=>some ((t,s)::l)
  |none=>some l
theorem zI{sl:List (Nat×SV)}:∀{L:List Nat} {l:List (Nat×SV)},jb sl L=some l→∀t,oK t l=oK t sl∨oK t l=.gG
 |[],l,h,t=>by simp[jb] at h;subst h;exact .inr rfl
 |k::r,l,h,t=>by
  simp only[jb,Option.bind_eq_some_iff] at h;obtain⟨l',h1,h2⟩:=h;have ih:=zI h1 t;split at h2
  ·rename_i s hs;simp only[Option.some.injEq] at h2;subst h2;rw[eM];split
   ·rename_i e;subst e;exact .inl (fu hs).symm
   ·exact ih
  ·simp only[Option.some.injEq] at h2;subst h2;exact ih
variable {c:Code}
theorem zk(L:List Nat){sl':List (Nat×SV)}(hk:jb sl L=some sl')(h:bu P GL n0 Pn c Q ⟨n,sl',ob⟩):bu P GL n0 Pn c Q ⟨n,sl,ob⟩:=fun B hB a w ⟨g,hr⟩=>
 h B hB a w ⟨g,hr.defers,hr.size,fun t=>by
  show(oK t sl').Den g _;rcases zI hk t with e|e
  ·rw [e];exact hr.da t
  ·rw [e];trivial,hr.store,hr.fI⟩
variable {c1 c2:Code}
theorem wJ(h:bu P GL n0 Pn c1 (Ex.seq (fun σ'=>bu P GL n0 Pn c2 Q σ') Q) σ):bu P GL n0 Pn (.seq c1 c2) Q σ:=
 fun B hB a w hr=>wp_seq (wp_mono (h B hB a w hr) fun e a w hl=>by
  cases e with
  |normal=>obtain⟨σ,hr,hk⟩:=hl;exact hk B hB a w hr
  |exit id=>exact hl
  |goto l=>exact hl
  |ret=>exact hl
  |panic c=>exact hl
  |outgrown=>exact hl)
theorem wF{Q':Ex→St→Prop}(h:bu P GL n0 Pn c2 Q σ):Ex.seq (fun σ'=>bu P GL n0 Pn c2 Q σ') Q' .normal σ:=h
theorem xF(h:Q .normal σ):Ex.inBlock id Q .normal σ:=h
theorem JZ(h:Q .normal σ):Ex.inBlock id Q (.exit id) σ:=by simp only[Ex.inBlock,if_true];exact h
theorem Hx(hj:Nat.beq j id=false)(h:Q (.exit j) σ):Ex.inBlock id Q (.exit j) σ:=by
 have:j≠id:=fun e=>by subst e;simp at hj
 simp only[Ex.inBlock,if_neg this];exact h
theorem G9(h:Q .normal σ):bu P GL n0 Pn .skip Q σ:=fun _ _ _ _ hr=>wp_skip ⟨σ,hr,h⟩
theorem BN(h:Q .ret σ):bu P GL n0 Pn .ret Q σ:=fun _ _ _ _ hr=>wp_ret (.inr ⟨σ,hr,h⟩)
theorem Ha(h:Q (.exit id) σ):bu P GL n0 Pn (.exit id) Q σ:=fun _ _ _ _ hr=>wp_exit ⟨σ,hr,h⟩
theorem rV(h:bu P GL n0 Pn c (Ex.inBlock id Q) σ):bu P GL n0 Pn (.block id c) Q σ:=
 fun B hB a w hr=>wp_block (wp_mono (h B hB a w hr) fun e a w hl=>by
  cases e with
  |normal=>exact hl
  |exit j=>
   obtain⟨σ,hr,hk⟩:=hl;simp only[Ex.inBlock] at hk;simp only[Exit.inBlock];split at hk
   ·rename_i e;rw[if_pos e];exact⟨σ,hr,hk⟩
   ·rename_i e;rw[if_neg e];exact⟨σ,hr,hk⟩
  |goto l=>exact hl
  |ret=>exact hl
  |panic c=>exact hl
  |outgrown=>exact hl)
theorem j0{c:Operand}(hc:bT GL σ.sl c=some (.d (.v (.bool b))))(h1:b=true→bu P GL n0 Pn c1 Q σ)(h2:b=false→bu P GL n0 Pn c2 Q σ):
 bu P GL n0 Pn (.cond c c1 c2) Q σ:=fun B hB a w hr=>by
 obtain⟨g,hr'⟩:=hr;have he:a.eval c=.bool b:=hr'.fk hc;cases b
 ·exact wp_cond_false he (h2 rfl B hB a w ⟨g,hr'⟩)
 ·exact wp_cond_true he (h1 rfl B hB a w ⟨g,hr'⟩)
inductive oD (ob:List Ob) (ρ:List Nat) (sl:List (Nat×SV)):List (Nat×SV)→Prop
 |nil:oD ob ρ sl []
 |cons {t:Nat} {s s':SV} {r:List (Nat×SV)} (h:s.ja ρ=some s') (hf:Fit ob (oK t sl) s') (hr:oD ob ρ sl r):oD ob ρ sl ((t,s)::r)
def pre:Nat→Nat→List Nat→Bool
 |_,0,_=>true
 |_,_+1,[]=>false
 |k,n+1,i::r=>cond (Nat.beq i k) (pre (k+1) n r) false
theorem vT:∀{n k:Nat} {ρ:List Nat},pre k n ρ=true→∀i,i<n→ρ[i]? =some (k+i)
 |0,k,ρ,h,i,hi=>by omega
 |n+1,k,[],h,i,hi=>by cases h
 |n+1,k,j::r,h,i,hi=>by
  simp only[pre] at h;cases hb:Nat.beq j k with
  |false=>rw[hb] at h;cases h
  |true=>
   rw[hb] at h;have e:j=k:=by simpa using hb
   subst e;cases i with
   |zero=>simp
   |succ i=>have:=vT (n:=n) (k:=j+1) h i (by omega);simp only[List.getElem?_cons_succ,this];congr 1;omega
def fA:List Nat→Bool
 |[]=>true
 |i::r=>cond (oe r i) false (fA r)
theorem jo:∀{l:List Nat},fA l=true→l.Nodup
 |[],_=>List.nodup_nil
 |i::r,h=>by
  simp only[fA] at h;cases hb:oe r i with
  |true=>rw[hb] at h;cases h
  |false=>
   rw[hb] at h;exact List.nodup_cons.2 ⟨fun hm=>(by rw[od.2 hm] at hb;cases hb),jo h⟩
structure pH (n0:Nat) (σ σ':St) (ρ:List Nat):Prop where
 n:σ'.n=σ.n
 pre:pre 0 n0 ρ=true
 nd:fA ρ=true
 eD:∀(j i:Nat) f dn cur,σ'.ob[j]? =some (.jM i f dn cur)→σ'.ob[i]? =some (.fK f)
 ob:ch σ.ob ρ σ'.ob ρ
 sl:oD σ.ob ρ σ.sl σ'.sl
variable {g:Gh} {w:World} {ρ:List Nat}
theorem D0{g':Gh}(hs:cX GL ob g w)(hb:KS ρ g' g){l:List (Nat×SV)}(h:oD ob ρ sl l)(t:Nat){y:Value}(hd:(oK t sl).Den g y):(oK t l).Den g' y:=by
 induction h with
 |nil=>trivial
 |cons h1 h2 _ ih=>
  rw[eM];split
  ·rename_i e;subst e;exact SV.pX hb _ h1 (h2.den hs hd)
  ·exact ih
variable {B:Bs} {obc:List Ob}
theorem Aq(hn0:B.n0=n0)(hp:pre 0 n0 ρ=true)(h:Aj B ob g w)(hs:cX GL ob g w)(hf:ch ob ρ obc ρ)(hnd:ρ.Nodup)(hno:∀(j i:Nat) f dn cur,obc[j]? =some (.jM i f dn cur)→obc[i]? =some (.fK f)):
 Aj B obc ⟨g.m,ρ.map fun i=>g.gs.getD i (.loc 0)⟩ w:=by
 refine⟨h.fr,h.mem,h.new,fun i o p b h1 h2 h3=>?_,fun i b hi hb=>?_⟩
 ·obtain ⟨i',k,o',p',_,e2,e3,e4⟩:=(hs.sub hf hnd hno).2.2 b ⟨i,o,p,h1,h2,h3⟩;exact h.own i' o' p' b e2 e3 e4
 ·have:=vT hp i (by omega);rw[Nat.zero_add] at this;show(ρ.map _)[i]? =_;rw[List.getElem?_map,this];simp[List.getD_eq_getElem?_getD,h.at' i b hi hb]
theorem pH.rel(hn0:B.n0=n0){σ':St}(h:pH n0 σ σ' ρ)(hr:Rel GL B σ a w):Rel GL B σ' a w:=by
 obtain⟨g,hr⟩:=hr;have hnd:=jo h.nd;have hsub:=hr.store.sub h.ob hnd h.eD;exact⟨_,hr.defers,by rw[h.n];exact hr.size,fun t=>D0 hr.store hsub.2.1 h.sl t (hr.da t),hsub.1,Aq hn0 h.pre hr.fI hr.store h.ob hnd h.eD⟩
def sS{ι:Type}(n0:Nat)(S:ι→St)(I:ι→Prop)(σ:St):Prop:= ∃i ρ,I i∧pH n0 σ (S i) ρ
theorem zj{ι:Type}(S:ι→St)(Inv:ι→Prop)(m:ι→Nat)(h0:sS n0 S Inv σ)
 (h:∀i,Inv i→bu P GL n0 Pn c (Ex.seq (fun σ'=>sS n0 S (fun j=>Inv j∧m j<m i) σ') Q) (S i)):bu P GL n0 Pn (.loop c) Q σ:=fun B hB a w hr=>by
 obtain⟨i,ρ,hI,hi⟩:=h0;refine wp_loop_rounds (m i+1) ?_;have key:∀(n:Nat) (i:ι),m i<n→Inv i→∀a w,Rel GL B (S i) a w→Code.rounds P c (qd GL B Pn Q) n a w:=by
  intro n
  induction n with
  |zero=>intro i hi;omega
  |succ n ih=>
   intro i hlt hI a w hr;refine wp_mono (h i hI B hB a w hr) fun e a' w' hl=>?_
   cases e with
   |normal=>
    obtain⟨σ',hr',j,ρ,⟨hj1,hj2⟩,hj3⟩:=hl;exact ih j (by omega) hj1 a' w' (hj3.rel hB hr')
   |exit id=>exact hl
   |goto l=>exact hl
   |ret=>exact hl
   |panic c=>exact hl
   |outgrown=>exact hl
 exact key _ i (Nat.lt_succ_self _) hI a w (hi.rel hB hr)
variable {f:FuncId} {svs:List SV}
theorem wX{argsc:List SV}{Q:Out→List Ob→Prop}(ht:et P GL f obc argsc Q)(ix:List Nat){m:List SV}(hrun:∀B g a w,cE GL B σ g a w→∃vs,(execOp a.eval o).run P w=.ok (.enter f ⟨vs⟩) w∧bC g svs vs)
 (hfit:ch σ.ob ix obc ix) (hnd:fA ix=true) (hno:fV obc=true) (hit:∀i∈ix,∀(j:Nat) f dn cur,σ.ob[j]? ≠some (.jM i f dn cur)) (hra:ml ix argsc=some m) (hfa:ic σ.ob svs m)
 (hret:∀s ob',Q (.ret s) ob'→∃obr ob1 obn sl1 s',nW (names ix σ.ob.length (ob'.length-ix.length)) ob'=some obr∧rl ix σ.ob=some ob1∧iO ix ob1 obr=some obn∧uE ix σ.sl=some sl1∧s.ja (names ix σ.ob.length (ob'.length-ix.length))=some s'∧
  (∀ t,o.dst=some t→Nat.blt t σ.n=true∧K ⟨σ.n,(t,s')::sl1,obn⟩)∧(o.dst=none→K ⟨σ.n,sl1,obn⟩))
 (hpan:∀s ob',Q (.pz s) ob'→∃obr ob1 obn sl1 s',nW (names ix σ.ob.length (ob'.length-ix.length)) ob'=some obr∧rl ix σ.ob=some ob1∧iO ix ob1 obr=some obn∧uE ix σ.sl=some sl1∧s.ja (names ix σ.ob.length (ob'.length-ix.length))=some s'∧Pn.pn s' sl1 obn):
 di P GL n0 Pn (· ∈ix) o σ K:=fun B hB g a w hr next Q' hK hP=>by
 obtain⟨vs,hrun,hd⟩:=hrun B g a w hr;have hnd':=jo hnd;have hsub:=hr.store.sub hfit hnd' (fun j i f dn cur hj=>absurd hj (fe hno j i f dn cur));have hd2:=gL hsub.2.1 _ hra (hfa.den hr.store hd);unfold Oper.wp;rw[hrun,Oper.upon_enter];refine(ht _ w vs hsub.1 hd2).mono fun e w' he=>?_
 obtain⟨g',ob',hs,hst,hle,hno',he⟩:=he;cases e with
 |returned v=>
  obtain⟨s,hs1,hq⟩:=he;obtain⟨obr,ob1,obn,sl1,s',e1,e2,e3,e4,e5,e6,e7⟩:=hret s ob' hq;obtain⟨gn,hrel,hkeep,hden⟩:=hr.after hfit hnd' hno hit hs hst hle hno' e1 e2 e3 e4;cases hdst:o.dst with
  |none=>exact hK _ _ _ _ hrel hkeep (e7 hdst)
  |some t=>
   obtain⟨e8,e9⟩:=e6 t hdst;exact hK _ _ _ _ (hrel.put (s:=s') e8 (hden s s' v e5 hs1)) hkeep e9
 |panicked c=>
  obtain⟨v,s,rfl,hs1,hq⟩:=he;obtain⟨obr,ob1,obn,sl1,s',e1,e2,e3,e4,e5,e6⟩:=hpan s ob' hq;obtain⟨gn,hrel,hkeep,hden⟩:=hr.after hfit hnd' hno hit hs hst hle hno' e1 e2 e3 e4;exact hP _ _ ⟨gn,sl1,obn,v,s',rfl,hrel.store,hrel.fI,hden s s' v e5 hs1,hrel.da,e6⟩
 |outgrown=>exact he.elim
def De(GL:Nat→List D)(sl:List (Nat×SV)):List Operand→Option (List SV)
 |[]=>some []
 |x::r=>(bT GL sl x).bind fun s=>(De GL sl r).bind fun l=>some (s::l)
theorem q8{B:Bs}{σ:St}{g:Gh}{a:Act}{w:World}(hr:cE GL B σ g a w):∀{l:List Operand} {ss:List SV},De GL σ.sl l=some ss→bC g ss (l.map a.eval)
 |[],ss,h=>by simp[De] at h;subst h;rfl
 |x::r,ss,h=>by
  simp only[De,Option.bind_eq_some_iff,Option.some.injEq] at h;obtain⟨s,h1,l,h2,rfl⟩:=h;exact⟨_,_,rfl,hr.fk h1,q8 hr h2⟩
def ai(P:Program)(f:FuncId):Bool:=
 match P.funcs[f]? with
 | some fn => fn.name != "runtime.NumGoroutine" && fn.body.isSome
 |none=>false
theorem oO(h:ai P f=true)(args:Array Value)(w:World):(callFunc f args).run P w=.ok (.enter f args) w:=by
 unfold ai at h;split at h
 ·rename_i fn hf;simp only[Bool.and_eq_true,bne_iff_ne,ne_eq] at h;have h1 : (fn.name == "runtime.NumGoroutine") = false := by simpa using h.1
  have h2:fn.body.isNone=false:=by cases hb:fn.body<;>simp_all
  simp only[callFunc,Sem.run_bind,run_program,Result.andThen_ok,hf,h1,h2,Bool.false_eq_true,if_false];rfl
 ·cases h
variable {args:Array Operand} {ts:Array TypeId}
theorem rW(hc:ai P f=true)(ho:o.op=.call { callee:=.value (.func f),args:=args,argTypes:=ts })(ha:De GL σ.sl args.toList=some svs):
 ∀B g a w,cE GL B σ g a w→∃vs,(execOp a.eval o).run P w=.ok (.enter f ⟨vs⟩) w∧bC g svs vs:=fun B g a w hr=>by
 refine⟨args.toList.map a.eval,?_,q8 hr ha⟩;have hrun:(execOp a.eval o).run P w=(callFunc f ⟨args.toList.map a.eval⟩).run P w:=by
  simp only[execOp,ho,resolve,Act.eval,Deferred.ofValue,Sem.run_bind,Sem.run_pure,Result.andThen_ok,invoke]
  congr 2
  apply Array.ext';simp
 rw[hrun,oO hc]
theorem Ec{x:Operand}{first caps svs1 svs2:List SV}(hc:ai P f=true)(hnf:∀f',x≠ .func f')(ho:o.op=.call { callee:=.value x,args:=args,argTypes:=ts })
 (hx:bT GL σ.sl x=some (.fn (.func f) first caps)) (ha:De GL σ.sl args.toList=some svs) (h1:ib first svs=some svs1) (h2:ib svs1 caps=some svs2):
 ∀B g a w,cE GL B σ g a w→∃vs,(execOp a.eval o).run P w=.ok (.enter f ⟨vs⟩) w∧bC g svs2 vs:=fun B g a w hr=>by
 obtain⟨vs,us,e,d1,d2⟩:=hr.fk hx;refine⟨(vs++args.toList.map a.eval)++us,?_,?_⟩
 ·have hrun:(execOp a.eval o).run P w=(callFunc f ⟨(vs++args.toList.map a.eval)++us⟩).run P w:=by
   simp only[execOp,ho,resolve,e,Deferred.ofValue,Sem.run_bind,Sem.run_pure,Result.andThen_ok,invoke]
   congr 2
   apply Array.ext';simp
  rw[hrun,oO hc]
 ·rw [fj h2,fj h1];exact(d1.append (q8 hr ha)).append d2
def Gm(GL:Nat→List D)(P:Program)(σ:St):ResultVar→SV→Prop
 | .tmp t,s=>gK t σ.sl=some s
 | .cell x T,s=> ∃i off l ty l1 cs ti,gK x σ.sl=some (.cb i off)∧cY i σ.ob=some (.cells l ty)∧bl P T=ti∧ti.ok=true∧gS off l=some l1∧nS ti.size l1=some cs∧om ti.agg cs=some s
def hJ(GL:Nat→List D)(P:Program)(σ:St):List ResultVar→List SV→Prop
 |[],l=>l=[]
 |r::rs,l=> ∃s l',l=s::l'∧Gm GL P σ r s∧hJ GL P σ rs l'
def pV:List SV→SV
 |[s]=>s
 |l=>.bZ l
def Jp:List Value→Value
 |[v]=>v
 |vs=>.tuple ⟨vs⟩
def KZ(n0:Nat)(Q:SV→List Ob→Prop)(s:SV)(ob:List Ob):Prop:=
 ∃ρ s' ob' t,pre 0 n0 ρ=true∧fA ρ=true∧fV ob'=true∧ch ob ρ ob' ρ∧SV.ja ρ s'=some t∧Fit ob s t∧Q s' ob'
def Fin(P:Program)(GL:Nat→List D)(n0:Nat)(rs:List ResultVar)(Q:Out→List Ob→Prop)(σ:St):Prop:=
 ∃l,hJ GL P σ rs l∧KZ n0 (fun s ob=>Q (.ret s) ob) (pV l) σ.ob
def fin(P:Program)(GL:Nat→List D)(n0:Nat)(rs:List ResultVar)(Q:Out→List Ob→Prop):Ex→St→Prop
 | .normal,σ=>Fin P GL n0 rs Q σ
 | .ret,σ=>Fin P GL n0 rs Q σ
 |_,_=>False
variable {rs:List ResultVar}
theorem xL{Q:Out→List Ob→Prop}(h:Fin P GL n0 rs Q σ):fin P GL n0 rs Q .normal σ:=h
def AA(tmps:Array Value):ResultVar→Sem Value
 | .tmp t=>pure (tmps.getD t undef)
 | .cell x t=>do loadVar t (← asAddr (tmps.getD x undef))
theorem Ee(fn:Func)(tmps:Array Value):results fn tmps=(do let vs ←fn.results.mapM (AA tmps);pure (if h:vs.size=1 then vs[0] else .tuple vs)):=by
 have h:∀f g:ResultVar→Sem Value,(∀ r,f r=g r)→(do let vs ←fn.results.mapM f;pure (if h:vs.size=1 then vs[0] else .tuple vs):Sem Value)=(do let vs ←fn.results.mapM g;pure (if h:vs.size=1 then vs[0] else .tuple vs)):=
  fun f g h=>by rw[funext h]
 exact h _ _ fun r=>by cases r<;>rfl
theorem AX(hr:cE GL B σ g a w):∀{rs:List ResultVar} {l:List SV},hJ GL P σ rs l→∃vs,(rs.mapM (AA a.tmps)).run P w=.ok vs w∧bC g l vs:=by
 intro rs
 induction rs with
 |nil=>intro l h;simp only[hJ] at h;subst h;exact⟨[],rfl,rfl⟩
 |cons r rs ih=>
  intro l h;obtain⟨s,l',rfl,h1,h2⟩:=h;obtain⟨vs,hrun,hd⟩:=ih h2;cases r with
  |tmp t=>
   refine⟨a.tmps.getD t undef::vs,?_,⟨_,_,rfl,?_,hd⟩⟩
   ·simp only[List.mapM_cons,AA,Sem.run_bind,Sem.run_pure,Result.andThen_ok,hrun]
   ·have:=hr.da t;rw[fu h1] at this;exact this
  |cell x T=>
   obtain⟨i,off,l0,ty,l1,cs,ti,e1,e2,rfl,e4,e5,e6,e7⟩:=h1;have hx:=hr.da x;rw[fu e1] at hx;obtain⟨b,hb,hx⟩:=hx;obtain⟨us,hh,hd0,hm⟩:=hr.store.gX i _ _ (bR e2) hb;have hl':=lJ e5;have hc':=tk e6;have hd2:bC g cs ((us.drop off).take (bl P T).size):=by rw[← hc'.1,←hl'.1];exact(hd0.drop off).take _
   have hlen:((us.drop off).take (bl P T).size).length=(bl P T).size:=by rw[hd2.length,←hc'.1];simp;omega
   have hld:=iG (P:=P) e4 (w:=w) (b:=b) (off:=off) hlen (fun j y hj=>by
    rw[List.getElem?_take] at hj;split at hj
    ·rw [List.getElem?_drop] at hj;simp only[World.cell?,hh]
     simpa using hj
    ·cases hj) (fun hag=>by
    rw[hag] at e7;have e:=uH e7
    match h9:(us.drop off).take (bl P T).size,hd2.length.trans e with
    |[y],_=>exact⟨y,rfl⟩)
   refine⟨_::vs,?_,⟨_,_,rfl,uI e7 hd2,hd⟩⟩;have ha:(asAddr (.pointer (some ⟨b,off,none⟩))).run P w=.ok ⟨b,off,none⟩ w:=rfl;simp only[List.mapM_cons,AA,Sem.run_bind,hx,ha,Sem.run_pure,Result.andThen_ok,hld,hrun]
theorem Hf:∀{l:List SV} {vs:List Value},bC g l vs→(pV l).Den g (Jp vs)
 |[],_,h=>by cases h;exact⟨[],rfl,rfl⟩
 |[s],_,⟨x,l',e,h1,h2⟩=>by cases h2;subst e;exact h1
 |s::t::r,_,⟨x,l',e,h1,⟨y,l2,e2,h2,h3⟩⟩=>by subst e e2;exact⟨_,rfl,x,_,rfl,h1,y,_,rfl,h2,h3⟩
theorem Fin.run{B:Bs}(hB:B.n0=n0){fn:Func}{Q:Out→List Ob→Prop}{σ:St}{a:Act}{w:World}(hr:Rel GL B σ a w)(h:Fin P GL n0 fn.results.toList Q σ):
 ∃v,(results fn a.tmps).run P w=.ok v w∧∃g' ob',cX GL ob' g' w∧Aj B ob' g' w∧n0≤ob'.length∧fV ob'=true∧∃s,s.Den g' v∧Q (.ret s) ob':=by
 obtain⟨g,hr⟩:=hr;obtain⟨l,h1,ρ,s',ob',t,hpre,hnd,hno,hfit,hren,hf,hq⟩:=h;obtain⟨vs,hrun,hd⟩:=AX hr h1;have hnd':=jo hnd;have hno2:∀(j i:Nat) f dn cur,ob'[j]? =some (.jM i f dn cur)→ob'[i]? =some (.fK f):=fun j i f dn cur hj=>absurd hj (fe hno j i f dn cur)
 have hsub:=hr.store.sub hfit hnd' hno2;refine⟨Jp vs,?_,_,ob',hsub.1,Aq hB hpre hr.fI hr.store hfit hnd' hno2,?_,hno,s',SV.pX hsub.2.1 s' hren (hf.den hr.store (Hf hd)),hq⟩
 ·rw [Ee];simp only[Array.mapM_eq_mapM_toList,Sem.run_bind,Sem.run_map,hrun,Result.andThen_ok,Sem.run_pure]
  congr 1
  match vs with
  |[]=>rfl
  |[v]=>rfl
  |v::u::r=>simp[Jp]
 ·have h5:=hfit.get.1;rw[h5];rcases Nat.lt_or_ge ρ.length n0 with h6|h6
  ·have:=vT hpre ρ.length h6;simp at this
  ·exact h6
def da:Nat→List SV→List (Nat×SV)
 |_,[]=>[]
 |k,s::r=>(k,s)::da (k+1) r
theorem y6{g:Gh}:∀{ss:List SV} {vs:List Value} (k:Nat),bC g ss vs→∀t,k≤t→∀{y:Value},(∀ x,vs[t-k]? =some x→y=x)→(oK t (da k ss)).Den g y
 |[],vs,k,d,t,hkt,y,h=>trivial
 |s::r,_,k,⟨x,l',e,dx,dl⟩,t,hkt,y,h=>by
  subst e;unfold da;rw[eM];split
  ·rename_i ek;subst ek;have:=h x (by simp);subst this;exact dx
  ·rename_i ek;refine y6 (k+1) dl t (by omega) (fun z hz=>h z ?_);have:t-k=t-(k+1)+1:=by omega
   rw[this];simpa using hz
abbrev MH(n0:Nat)(Q:Out→List Ob→Prop):pG:=⟨fun s _ ob=>KZ n0 (fun s ob'=>Q (.pz s) ob') s ob,fun _ _ _ _=>False⟩
def jU (GL : Nat → List D) (B : Bs) (Q : Out → List Ob → Prop) (e : Ending) (w' : World) : Prop :=
  ∃ g' ob', cX GL ob' g' w' ∧ Aj ⟨B.g, B.w, B.X, B.n0, []⟩ ob' g' w' ∧ B.n0 ≤ ob'.length ∧ fV ob' = true ∧
      (match e with
       | .returned v => ∃ s, s.Den g' v ∧ Q (.ret s) ob'
       | .panicked c => ∃ v s, c = [{ v := v, recovered := false }] ∧ s.Den g' v ∧ Q (.pz s) ob'
       | .outgrown => False)
theorem qP{args:List SV}{vs:List Value}(hn:args.length≤n)(hs:cX GL ob g w)(hd:bC g args vs):
 cE GL ⟨g,w,dk ob g,ob.length,[]⟩ ⟨n,da 0 args,ob⟩ g { tmps:=(⟨vs⟩:Array Value)++Array.replicate (n-(⟨vs⟩:Array Value).size) undef,defers:=[] } w:=by
 refine⟨rfl,by have:=hd.length;simp;omega,fun t=>?_,hs,⟨Fr.refl _ _,fP.refl _,fun b o x h1 h2=>?_,fun i o p b h1 h2 h3=>.inl ⟨i,o,p,h1,h2,h3⟩,fun _ _ _ h=>h⟩⟩
 ·refine y6 0 hd t (Nat.zero_le _) fun x hx=>?_
  have hx':vs[t]? =some x:=by simpa using hx
  have ht:t<vs.length:=(List.getElem?_eq_some_iff.1 hx').1;simp only[Array.getD_eq_getD_getElem?];rw[Array.getElem?_append_left (by simpa using ht)];simp[hx']
 ·simp only at h2;rw[h2] at h1;cases h1
theorem Aj.forget(h:Aj B ob g w)(ds:List Deferred):Aj ⟨B.g,B.w,B.X,B.n0,ds⟩ ob g w:=⟨h.fr,h.mem,h.new,h.own,h.at'⟩
theorem Cj{Q:Out→List Ob→Prop}{c:List PanicEntry}(hp:KW GL B (MH B.n0 Q) c a w):jU GL B Q (.panicked c) w:=by
 obtain⟨g1,sl1,ob1,v,s,rfl,hs1,hst1,hd1,_,ρ,s',ob',t,hpre,hnd,hno,hfit,hren,hf1,hq⟩:=hp;have hnd':=jo hnd;have hno2:∀(j i:Nat) f dn cur,ob'[j]? =some (.jM i f dn cur)→ob'[i]? =some (.fK f):=fun j i f dn cur hj=>absurd hj (fe hno j i f dn cur)
 have hsub:=hs1.sub hfit hnd' hno2;refine⟨_,ob',hsub.1,(Aq rfl hpre hst1 hs1 hfit hnd' hno2).forget [],?_,hno,v,s',rfl,SV.pX hsub.2.1 s' hren (hf1.den hs1 hd1),hq⟩;rw[hfit.get.1];rcases Nat.lt_or_ge ρ.length B.n0 with h6|h6
 ·have:=vT hpre ρ.length h6;simp at this
 ·exact h6
variable {fn:Func}
theorem xK(hB:B.n0=n0){Q:Out→List Ob→Prop}(hr:Rel GL B σ a w)(h:Fin P GL n0 fn.results.toList Q σ):
 ∃v,(results fn a.tmps).run P w=.ok v w∧jU GL B Q (.returned v) w:=by
 subst hB;obtain⟨v,h1,g',ob',h2,h3,h4,h5,h6⟩:=Fin.run rfl hr h;exact⟨v,h1,g',ob',h2,h3.forget [],h4,h5,h6⟩
theorem v8(hd:B.df=[]){Q:Out→List Ob→Prop}(hrs:fn.results.toList=rs)(h:bu P GL B.n0 (MH B.n0 Q) c (fin P GL B.n0 rs Q) σ)(hr:Rel GL B σ a w):
 c.wp P (bodyPost P fn (jU GL B Q)) a w:=by
 subst hrs;refine wp_mono (h _ rfl _ w hr) fun e a' w' hl=>?_
 have hfin:∀σ,Rel GL B σ a' w'→Fin P GL B.n0 fn.results.toList Q σ→a'.defers=[]∧∃v,(results fn a'.tmps).run P w'=.ok v w'∧jU GL B Q (.returned v) w':=
  fun σ hr hk=>⟨by obtain⟨_,hr⟩:=hr;exact hr.defers.trans hd,xK rfl hr hk⟩
 cases e with
 |normal=>obtain⟨σ,hr',hk⟩:=hl;obtain⟨h0,v,h1,h2⟩:=hfin σ hr' hk;exact⟨h0,v,h1,h2⟩
 |ret=>
  rcases hl with hl|⟨σ,hr',hk⟩
  ·exact hl.elim
  ·obtain ⟨h0,v,h1,h2⟩:=hfin σ hr' hk;exact⟨h0,v,h1,h2⟩
 |exit id=>obtain⟨σ,hr',hk⟩:=hl;exact hk.elim
 |goto l=>obtain⟨σ,hr',hk⟩:=hl;exact hk.elim
 |panic c=>
  rcases hl with hl|⟨h0,hp⟩
  ·exact hl.elim
  ·exact ⟨h0.trans hd,Cj hp⟩
 |outgrown=>exact hl.elim
theorem uZ{args:List SV}{Q:Out→List Ob→Prop}(hf:P.funcs[f]? =some fn)(hb:fn.body=some c)(hnt:fn.ntmps=n)(hrs:fn.results.toList=rs)
 (hn:args.length≤n) (h:bu P GL ob.length (MH ob.length Q) c (fin P GL ob.length rs Q) ⟨n,da 0 args,ob⟩):et P GL f ob args Q:=by
 subst hnt;intro g w vs hs hd;refine calls_of_wp hf hb ?_;exact v8 (B:=⟨g,w,dk ob g,ob.length,[]⟩) rfl hrs h ⟨g,qP hn hs hd⟩
end
end Go.Vd
namespace Go.Vd
open Go Go.RowKit
section
variable {P:Program} {GL:Nat→List D} {n0:Nat} {Pn:pG}
variable {B:Bs} {n t:Nat} {sl:List (Nat×SV)} {ob:List Ob} {g:Gh} {a:Act} {w:World} {s:SV}
theorem cE.ri(h:cE GL B ⟨n,sl,ob⟩ g a w)(ht:Nat.blt t n=true){x:Value}(hx:s.Den g x):cE GL B ⟨n,(t,s)::sl,ob⟩ g (a.put (some t) x) w:=h.put ht hx
variable {cs:List SV} {ty:TypeId} {σ:St}
theorem qa{vs:List Value}(hr:cE GL B σ g a w)(hd:bC g cs vs):
 cE GL B ⟨σ.n,σ.sl,σ.ob++[.cells cs ty]⟩ ⟨g.m,g.gs++[.loc w.heap.size]⟩ a (w.alloc (.cells ⟨vs⟩ ty))∧tU (fun _=>False) σ.ob g w ⟨g.m,g.gs++[.loc w.heap.size]⟩ (w.alloc (.cells ⟨vs⟩ ty)):=by
 have hle:K7 g ⟨g.m,g.gs++[.loc w.heap.size]⟩:=⟨fP.refl _,fun i p hp=>by
  show(g.gs++[_])[i]? =some p;rw[List.getElem?_append_left (List.getElem?_eq_some_iff.1 hp).1];exact hp⟩
 have hmn:∀o,g.m w.heap.size o=none:=fun o=>by
  cases hx:g.m w.heap.size o with
  |none=>rfl
  |some x=>have:=hr.store.jl hx;omega
 exact hr.AK ((Fr.refl _ w).alloc _) (fP.refl _) (fun b o x h1 h2=>by rw[h2] at h1;cases h1) ⟨vs,heap_alloc_new w _,bC.mono hle cs hd,hmn⟩ (fun b hb=>by simp only[cP,dU,Option.some.injEq] at hb;omega) (fun i f dn cur e=>by cases e)
variable {b:Nat}
theorem Bj(hlen:ob.length=g.gs.length):(SV.cb ob.length 0).Den ⟨g.m,g.gs++[.loc b]⟩ (.pointer (some ⟨b,0,none⟩)):=⟨b,by rw[hlen];simp,rfl⟩
variable {o:Oper} {ob':List Ob} {K:St→Prop} {T:Nat→Prop} {ti:TI} {k:Nat}
theorem Cr(hT:bl P ty=ti)(hz:ti.K4=true)(ho:o.op=.alloc ty)(hd:o.dst=some t)(ht:Nat.blt t n=true)(hm:pA ti.zero=some cs)(hl:ob.length=k)(hob:ib ob [.cells cs ty]=some ob')
 (h:K ⟨n,(t,.cb k 0)::sl,ob'⟩):di P GL n0 Pn T o ⟨n,sl,ob⟩ K:=fun B hB g a w hr next Q hK hP=>by
 subst hT hl;rw[fj hob] at h;have hz':∃i z,P.info? ty=some i∧i.zero=some z∧(bl P ty).zero=z.cells.toList:=by
  simp only[bl,Option.isSome_iff_exists,Option.bind_eq_some_iff] at hz;obtain⟨z,i,hi,hzz⟩:=hz;exact⟨i,z,hi,hzz,by simp[bl,hi,hzz]⟩
 obtain⟨i,z,hi,hzz,hze⟩:=hz';have hrun:(execOp a.eval o).run P w=.ok (.value (.pointer (some ⟨w.heap.size,0,none⟩))) (w.alloc (.cells ⟨z.cells.toList⟩ ty)):=by
  simp[execOp,ho,Instr.alloc,zeroValue,typeInfo,hi,hzz,newVar,newRow]
 unfold Oper.wp;rw[hrun];show next (a.put o.dst _) _
 rw[hd];obtain⟨h1,h2⟩:=qa (ty:=ty) hr (cs:=cs) (vs:=z.cells.toList) (by rw[tB hm,hze];exact bC.Qx _);exact hK _ _ _ _ (h1.ri (s:=.cb ob.length 0) ht (Bj hr.store.len)) ⟨h2.1,fun i b o _=>h2.2 i b o (fun x=>x)⟩ h
theorem Qs(hT:bl P ty=ti)(h:K ⟨n,(t,.cb k 0)::sl,ob'⟩)(ho:o.op=.alloc ty:=by exact rfl)(hd:o.dst=some t:=by exact rfl)(hz:ti.K4=true:=by exact rfl)(ht:Nat.blt t n=true:=by exact rfl)(hm:pA ti.zero=some cs:=by exact rfl)(hob:ib ob [.cells cs ty]=some ob':=by exact rfl)(hl:ob.length=k:=by omega):di P GL n0 Pn T o ⟨n,sl,ob⟩ K:=Cr hT hz ho hd ht hm hl hob h
variable {x:Operand}
theorem NH(hT:bl P ty=ti)(ho:o.op=.box ty x)(hd:o.dst=some t)(ht:Nat.blt t n=true)(hx:bT GL sl x=some s)(hm:jQ ti.agg s=some cs)(hl:ob.length=k)(hob:ib ob [.cells cs ty]=some ob')
 (h:K ⟨n,(t,.cb k 0)::sl,ob'⟩):di P GL n0 Pn T o ⟨n,sl,ob⟩ K:=fun B hB g a w hr next Q hK hP=>by
 subst hT hl;rw[fj hob] at h;have hrun:(execOp a.eval o).run P w=.ok (.value (.pointer (some ⟨w.heap.size,0,none⟩))) (w.alloc (.cells ⟨(a.eval x).cells.toList⟩ ty)):=by
  simp[execOp,ho,Instr.box,newVar,newRow]
 unfold Oper.wp;rw[hrun];show next (a.put o.dst _) _
 rw[hd];obtain⟨h1,h2⟩:=qa (ty:=ty) hr (cs:=cs) (vs:=(a.eval x).cells.toList) (jw hm (hr.fk hx));exact hK _ _ _ _ (h1.ri (s:=.cb ob.length 0) ht (Bj hr.store.len)) ⟨h2.1,fun i b o _=>h2.2 i b o (fun x=>x)⟩ h
theorem bx(hT:bl P ty=ti)(h:K ⟨n,(t,.cb k 0)::sl,ob'⟩)(ho:o.op=.box ty x:=by exact rfl)(hd:o.dst=some t:=by exact rfl)(hx:bT GL sl x=some s:=by exact rfl)(ht:Nat.blt t n=true:=by exact rfl)(hm:jQ ti.agg s=some cs:=by exact rfl)(hob:ib ob [.cells cs ty]=some ob':=by exact rfl)(hl:ob.length=k:=by omega):di P GL n0 Pn T o ⟨n,sl,ob⟩ K:=NH hT ho hd ht hx hm hl hob h
def gC(i:Nat):List Ob→Bool
 |[]=>true
 | .jM j _ _ _::r=>cond (Nat.beq j i) false (gC i r)
 | .cells _ _::r=>gC i r
 | .row _ _::r=>gC i r
 | .bX _ _::r=>gC i r
 | .buf _ _ _ _::r=>gC i r
 | .fK _::r=>gC i r
 | .cV _::r=>gC i r
 | .iI _ _::r=>gC i r
 | .dead::r=>gC i r
theorem oU{i:Nat}:∀{ob:List Ob},gC i ob=true→∀(j:Nat) f dn cur,ob[j]? ≠some (.jM i f dn cur)
 |[],_,j,f,dn,cur=>by simp
 |o::r,h,0,f,dn,cur=>by intro e;simp at e;subst e;simp[gC] at h
 |o::r,h,j+1,f,dn,cur=>by
  have:gC i r=true:=by
   cases o<;>simp only[gC] at h<;>try exact h
   rename_i j' _ _ _;cases hb:Nat.beq j' i<;>rw[hb] at h
   ·exact h
   ·cases h
  simpa using oU this j f dn cur
def oT:List Nat→List Ob→Bool
 |[],_=>true
 |i::r,ob=>cond (gC i ob) (oT r ob) false
theorem mZ:∀{ix:List Nat} {ob:List Ob},oT ix ob=true→∀i∈ix,∀(j:Nat) f dn cur,ob[j]? ≠some (.jM i f dn cur)
 |[],_,_,i,hi=>by cases hi
 |k::r,ob,h,i,hi=>by
  simp only[oT] at h;cases hb:gC k ob with
  |false=>rw[hb] at h;cases h
  |true=>
   rw[hb] at h;rcases List.mem_cons.1 hi with rfl|hi
   ·exact oU hb
   ·exact mZ h i hi
variable {ty0:TypeId} {y:Operand} {i off:Nat} {l l':List SV}
theorem JE(hT:bl P ty=ti)(hok:ti.ok=true)(ho:o.op=.store ty x y)(hd:o.dst=none)(hx:bT GL sl x=some (.cb i off))(hy:bT GL sl y=some s)
 (hi:cY i ob=some (.cells l ty0)) (hc:jQ ti.agg s=some cs) (hsz:Nat.beq cs.length ti.size=true) (hone:gO cs=true) (hs:wE off cs l=some l') (hob:gT i (.cells l' ty0) ob=some ob')
 (h:K ⟨n,sl,ob'⟩):di P GL n0 Pn (fun j=>j=i) o ⟨n,sl,ob⟩ K:=fun B hB g a w hr next Q hK hP=>by
 subst hT;obtain⟨b,hb,hpx⟩:=hr.fk hx;have hi':=bR hi;obtain⟨vs,hh,hdl,hmn⟩:=hr.store.gX i _ _ hi' hb;obtain⟨ti,d,hinf,hdd,hsi,_⟩:=th hok;have hcd:=jw hc (hr.fk hy);have hcl:=hcd.length;have hll:=hdl.length;have hs2:=tq hs;have hsz':cs.length=(bl P ty).size:=by simpa using hsz
 have hsz3:(a.eval y).cells.toList.length=ti.size:=by omega
 have hst:=run_storeCells_at (P:=P) b off ty0 (a.eval y).cells.toList 0 ⟨vs⟩ w hh (by simp at hsz3 ⊢;omega) (jK hone hcd);have hrun:(execOp a.eval o).run P w=.ok .skip (w.setRow b ⟨vs.take off++(a.eval y).cells.toList++vs.drop (off+(a.eval y).cells.toList.length)⟩):=by
  have hsz2:(a.eval y).cells.size=ti.size:=by simpa using hsz3
  simp only[execOp,ho,hpx,Instr.storeAt,Instr.sureAddr,storeVar,sizeOf,typeInfo,Sem.run_bind,Sem.run_pure,Result.andThen_ok,run_program,hinf,hsz2];simp only[ne_eq,not_true_eq_false,if_false];simp only[Nat.add_zero] at hst;rw[hst];simp
 unfold Oper.wp;rw[hrun];show next (a.put o.dst _) _
 rw[hd];have hset:=eT hob;obtain⟨h1,h2⟩:=hr.Lc (w':=w.setRow b ⟨vs.take off++(a.eval y).cells.toList++vs.drop (off+(a.eval y).cells.toList.length)⟩) (o':=.cells l' ty0) hi' hb rfl ⟨rfl,rfl,rfl,by simp,fun c _ hc=>setRow_other w _ _ _ hc⟩
  ⟨_,setRow_heap w b _ _ _ _ hh,BM hs hdl hcd,hmn⟩ (.inl rfl) (fun j f dn cur e=>by
   have h7:=hr.store.eD j i f dn cur e;rw[hi'] at h7;cases h7) (fun k f dn cur e=>by cases e) hmn
 rw[hset.1] at h;exact hK _ _ _ _ h1 h2 h
theorem dN(hT:bl P ty=ti)(h:K ⟨n,sl,ob'⟩)(ho:o.op=.store ty x y:=by exact rfl)(hd:o.dst=none:=by exact rfl)(hx:bT GL sl x=some (.cb i off):=by exact rfl)(hy:bT GL sl y=some s:=by exact rfl)(hi:cY i ob=some (.cells l ty0):=by exact rfl)(hok:ti.ok=true:=by exact rfl)(hc:jQ ti.agg s=some cs:=by exact rfl)(hsz:Nat.beq cs.length ti.size=true:=by exact rfl)(hone:gO cs=true:=by exact rfl)(hs:wE off cs l=some l':=by exact rfl)(hob:gT i (.cells l' ty0) ob=some ob':=by exact rfl):di P GL n0 Pn (fun j=>j=i) o ⟨n,sl,ob⟩ K:=JE hT hok ho hd hx hy hi hc hsz hone hs hob h
def eV(m:Mem)(b:Nat)(xs:List Value):Mem:=fun c o=>if c=b then xs[o]? else m c o
def HZ(GL:Nat→List D)(sl:List (Nat×SV))(ag:Bool):List Operand→Option (List (List D))
 |[]=>some []
 |x::r=>(bT GL sl x).bind fun s=>(jQ ag s).bind fun cs=>(ub cs).bind fun ds=>(HZ GL sl ag r).bind fun l=>some (ds::l)
def Cu:List D→Bool
 |[]=>true
 |d::r=>cond (Lx d) (Cu r) false
def DE(k:Nat):List (List D)→Bool
 |[]=>true
 |e::r=>cond (Nat.beq e.length k) (cond (Cu e) (DE k r) false) false
theorem zz{m:Mem}:∀{l:List D} {vs:List Value},Cu l=true→dI m l vs→∀x∈vs,x.oneCell'=true
 |[],_,_,h,x,hx=>by cases h;cases hx
 |s::r,_,h,⟨y,l',e,h1,h2⟩,x,hx=>by
  subst e;unfold Cu at h;cases hs:Lx s with
  |false=>rw[hs] at h;cases h
  |true=>
   rw[hs] at h;cases hx with
   |head=>exact Ct hs h1
   |tail _ hx=>exact zz h h2 x hx
theorem Gw{B:Bs}{σ:St}{g:Gh}{a:Act}{w:World}(hr:cE GL B σ g a w){ag:Bool}{k:Nat}:∀{xs:List Operand} {els:List (List D)},HZ GL σ.sl ag xs=some els→DE k els=true→
 els.length=xs.length∧(∀ v∈xs.map a.eval,v.cells.size=k)∧(∀ u∈(xs.map a.eval).flatMap fun v=>v.cells.toList,u.oneCell'=true)∧
  (∀ (m:Mem) (b off:Nat),fP g.m m→(∀ i x,((xs.map a.eval).flatMap fun v=>v.cells.toList)[i]? =some x→m b (off+i)=some x)→ey m k b off els)
 |[],els,h,_=>by simp[HZ] at h;subst h;exact⟨rfl,by simp,by simp,fun _ _ _ _ _=>trivial⟩
 |x::r,els,h,hall=>by
  simp only[HZ,Option.bind_eq_some_iff,Option.some.injEq] at h;obtain⟨s,h1,cs,h2,ds,h3,l,h4,rfl⟩:=h;simp only[DE] at hall;cases hb:Nat.beq ds.length k with
  |false=>rw[hb] at hall;cases hall
  |true=>
  rw[hb] at hall;cases hb2:Cu ds with
  |false=>rw[hb2] at hall;cases hall
  |true=>
  rw[hb2] at hall;simp only[cond_true] at hall;have hk:ds.length=k:=by simpa using hb
  obtain⟨e1,e2,e3,e4⟩:=Gw hr h4 hall;have hd:=bC.gW _ (jw h2 (hr.fk h1)) h3;have hlen:=hd.length;have hsz:(a.eval x).cells.size=k:=by
   have:(a.eval x).cells.toList.length=k:=by omega
   simpa using this
  refine⟨by simp[e1],fun v hv=>?_,fun u hu=>?_,fun m b off hm hx=>?_⟩
  ·simp only[List.map_cons,List.mem_cons] at hv;rcases hv with rfl|hv
   ·exact hsz
   ·exact e2 v hv
  ·simp only[List.map_cons,List.flatMap_cons,List.mem_append] at hu;rcases hu with hu|hu
   ·exact zz hb2 hd u hu
   ·exact e3 u hu
  ·simp only[List.map_cons,List.flatMap_cons] at hx;refine⟨⟨hk,eX.tA (dI.mono hm _ hd) fun i y hy=>hx i y ?_⟩,e4 m b (off+k) hm fun i y hy=>?_⟩
   ·rw [List.getElem?_append_left (List.getElem?_eq_some_iff.1 hy).1];exact hy
   ·have:=hx (k+i) y (by rw[List.getElem?_append_right (by omega),show k+i-(a.eval x).cells.toList.length=i by omega];exact hy)
    rwa [show off+(k+i)=off+k+i by omega] at this
def Hy:Nat→List Operand→Option (List (Nat×Operand))
 |_,[]=>some []
 |k,x::r=>(Hy (k+1) r).bind fun l=>some ((k,x)::l)
theorem Gb:∀{xs:List Operand} {k:Nat} {l:List (Nat×Operand)},Hy k xs=some l→l=(xs.zipIdx k).map fun p=>(p.2,p.1)
 |[],k,l,h=>by simp[Hy] at h;subst h;rfl
 |x::r,k,l,h=>by
  simp only[Hy,Option.bind_eq_some_iff,Option.some.injEq] at h;obtain⟨l',h1,rfl⟩:=h;simp[Gb h1]
variable {xs:List Value}
theorem fP.set{m:Mem}(h:∀o x,m b o=some x→xs[o]? =some x):fP m (eV m b xs):=fun c o x hx=>by
 unfold eV;by_cases e:c=b
 ·subst e;rw[if_pos rfl];exact h o x hx
 ·rw [if_neg e];exact hx
variable {e:TypeId} {size bytes:Nat}
theorem NG{len:Nat}{parts:Array (Nat×Operand)}(TS:iY P ty e size bytes)(xs:List Operand){els:List (List D)}(hT:bl P e=ti)(ho:o.op=.buildSlice ty len parts)
 (hd:o.dst=some t) (ht:Nat.blt t n=true) (hp:Hy 0 xs=some parts.toList) (hel:HZ GL sl ti.agg xs=some els) (hall:DE size els=true) (hn:xs.length=len) (hsz:0<size) (hn0:0<len) (hbig:len*size≤16777216) (hl:ob.length=k) (hob:ib ob [.row e size]=some ob')
 (h:K ⟨n,(t,.own k size els)::sl,ob'⟩):di P GL n0 Pn T o ⟨n,sl,ob⟩ K:=fun B hB g a w hr next Q hK hP=>by
 subst hl;rw[fj hob] at h;obtain⟨e1,e2,e3,e4⟩:=Gw hr hel hall;have hrun0:=Lp (P:=P) (ρ:=a.eval) TS xs (xs.map a.eval) rfl (Gb hp) (by simp[hn]) e2 hsz hn0 hbig w;have hrun:(execOp a.eval o).run P w=.ok (.value (.slice (some ⟨w.heap.size,0,none⟩) len len)) (w.alloc (.cells ⟨(xs.map a.eval).flatMap fun v=>v.cells.toList⟩ e)):=by
  simp only[execOp,ho,Sem.run_bind];rw[hrun0];rfl
 unfold Oper.wp;rw[hrun];show next (a.put o.dst _) _
 rw[hd];generalize hfl:((xs.map a.eval).flatMap fun v=>v.cells.toList)=fl at*
 have hfll:fl.length=len*size:=by rw[← hfl,C2 _ e2];simp[hn]
 have hm0:∀o,g.m w.heap.size o=none:=fun o=>by
  cases hx:g.m w.heap.size o with
  |none=>rfl
  |some x=>have:=hr.store.jl hx;omega
 have hm:fP g.m (eV g.m w.heap.size fl):=fP.set fun o x hx=>by rw[hm0] at hx;cases hx
 have hcell:∀o x,fl[o]? =some x→(w.alloc (.cells ⟨fl⟩ e)).cell? ⟨w.heap.size,o,none⟩=some x:=fun o x hx=>by
  simp only[World.cell?,heap_alloc_new w (.cells ⟨fl⟩ e)]
  simpa using hx
 have hlen63:len≤maxLen:=by
  have:len≤len*size:=Nat.le_mul_of_pos_right _ hsz;simp only[maxLen];omega
 have hrow:(w.alloc (.cells ⟨fl⟩ e)).ownsRow 0 e size (.slice (some ⟨w.heap.size,0,none⟩) len len) len fl:=
  ⟨hfll,.inr ⟨w.heap.size,len,⟨fl⟩,rfl,Nat.zero_le _,heap_alloc_new w _,Nat.le_refl _,hlen63,by simp[hfll],by rw[← hfll];exact List.take_length⟩⟩
 have hA:∀b o x,eV g.m w.heap.size fl b o=some x→g.m b o=none→w.heap.size≤b∧(w.alloc (.cells ⟨fl⟩ e)).cell? ⟨b,o,none⟩=some x∧x.oneCell'=true:=fun b o x hx hn=>by
  unfold eV at hx;by_cases e5:b=w.heap.size
  ·subst e5;rw[if_pos rfl] at hx;exact⟨Nat.le_refl _,hcell o x hx,e3 x (List.mem_of_getElem? hx)⟩
  ·rw [if_neg e5,hn] at hx;cases hx
 have hB':∀c,some w.heap.size=some c→∀o,len*size≤o→eV g.m w.heap.size fl c o=none:=fun c hc o ho=>by
  simp only[Option.some.injEq] at hc;subst hc;unfold eV;rw[if_pos rfl,List.getElem?_eq_none (by omega)]
 obtain⟨h1,h2⟩:=hr.AK (w':=w.alloc (.cells ⟨fl⟩ e)) ((Fr.refl _ w).alloc _) hm hA (o':=.row e size) (pl:=.row (some w.heap.size) len len) ⟨⟨fl,hrow⟩,hB'⟩ (fun b hb=>by simp only[cP,dU,Option.some.injEq] at hb;omega) (fun i f dn cur e=>by cases e);refine hK _ _ _ _ (h1.ri (s:=.own ob.length size els) ht ⟨some w.heap.size,len,?_,?_,?_,fun _=>⟨w.heap.size,rfl,e4 _ _ 0 hm fun i x hx=>?_⟩⟩) ⟨h2.1,fun i b o _=>h2.2 i b o (fun x=>x)⟩ h
 ·show (g.gs++[_])[ob.length]? =_;have hl2:ob.length=g.gs.length:=hr.store.len;rw[hl2,e1,hn];simp
 ·rw [e1,hn];rfl
 ·rw [e1,hn];exact Nat.le_refl _
 ·show eV _ _ _ _ _=_;unfold eV;rw[if_pos rfl,Nat.zero_add];exact hx
theorem qN{cap:Nat}(h:w.ownsRow 0 e k (.slice (some ⟨b,0,none⟩) n cap) n xs):n≤cap∧∀o x,xs[o]? =some x→w.cell? ⟨b,o,none⟩=some x:=by
 refine⟨?_,fun o x hx=>?_⟩
 ·rcases h.2 with⟨h1,_⟩|⟨g0,c0,cur,h1,_,_,h4,_⟩
  ·cases h1
  ·simp only[Value.slice.injEq] at h1;omega
 ·have:=h.cells (g:=b) rfl o x hx;have hadd:(⟨b,0,none⟩:Addr).add o=⟨b,o,none⟩:=by rw[fG];simp
  rwa [hadd] at this
theorem qu{m m':Mem}{k b c:Nat}(hm:fP m m'):∀{ls:List (List D)} {off off':Nat},ey m k b off ls→(∀ i x,i<ls.length*k→m b (off+i)=some x→m' c (off'+i)=some x)→ey m' k c off' ls
 |[],_,_,_,_=>trivial
 |e::r,off,off',⟨⟨h0,h1⟩,h2⟩,h=>by
  refine⟨⟨h0,?_⟩,qu hm h2 fun i x hi hx=>?_⟩
  ·obtain ⟨vs,hv,hc⟩:=h1.G1;have hl:=hv.length;refine eX.tA (dI.mono hm _ hv) fun i x hx=>h i x ?_ (hc i x hx)
   have:=(List.getElem?_eq_some_iff.1 hx).1;simp only[List.length_cons,Nat.add_mul];omega
  ·have:=h (k+i) x (by simp only[List.length_cons,Nat.add_mul];omega) (by rwa [show off+(k+i)=off+k+i by omega])
   rwa [show off'+(k+i)=off'+k+i by omega] at this
theorem xS{m:Mem}{k b:Nat}:∀{ls:List (List D)} {off:Nat},ey m k b off ls→∃fl:List Value,fl.length=ls.length*k∧∀i x,fl[i]? =some x→m b (off+i)=some x
 |[],_,_=>⟨[],by simp,by simp⟩
 |e::r,off,⟨⟨h0,h1⟩,h2⟩=>by
  obtain⟨vs,hv,hc⟩:=h1.G1;obtain⟨fl,h3,h4⟩:=xS h2;have hl:=hv.length;refine⟨vs++fl,by simp[h3,hl,h0,Nat.add_mul];omega,fun i x hx=>?_⟩;rw[List.getElem?_append] at hx;split at hx
  ·exact hc i x hx
  ·have:=h4 _ x hx
   rwa [show off+k+(i-vs.length)=off+i by omega] at this
variable {sl':List (Nat×SV)} {ob1:List Ob} {or:Ob}
theorem Cq{s:Operand}{ls news:List (List D)}
 (hd:o.dst=some t) (ht:Nat.blt t n=true) (hs:bT GL sl s=some (.own i size ls)∨(bT GL sl s=some (.d (.v (.slice none 0 0)))∧ls=[]∧or=.bX e size)) (hi:cY i ob=some or) (hor:or=.row e size∨or=.bX e size)
 (happ:∀B g a w,cE GL B ⟨n,sl,ob⟩ g a w→∀xs,w.ownsRow 0 e size (a.eval s) ls.length xs→∃nv v' w',(execOp a.eval o).run P w=.ok (.value v') w'∧w'.ownsRow 0 e size v' (ls.length+news.length) (xs++nv)∧Fr (fun c=>(a.eval s).ownBlock=some c∧v'.ownBlock=some c) w w'∧
  (∃ k,v'.ownBlock=some k∧((a.eval s).ownBlock=some k∨k=w.heap.size)∧k<w'.heap.size∧∃c,v'=.slice (some ⟨k,0,none⟩) (ls.length+news.length) c)∧nv.length=news.length*size∧(∀ u∈nv,u.oneCell'=true)∧
  ∀(m:Mem) c off,fP g.m m→(∀ (j:Nat) y,nv[j]? =some y→m c (off+j)=some y)→ey m size c off news)
 (hsl:Bo i sl=some sl') (hob:Bp i ob=some ob1) (hob':gT i (.row e size) ob1=some ob')
 (h:K ⟨n,(t,.own i size (ls++news))::sl',ob'⟩):di P GL n0 Pn (fun j=>j=i) o ⟨n,sl,ob⟩ K:=fun B hB g a w hr next Q hK hP=>by
 have hi':=bR hi;rw[(eT hob').1] at h;have hrow:∃b cap,g.gs[i]? =some (.row b cap ls.length)∧a.eval s=.slice (b.map fun b=>⟨b,0,none⟩) ls.length cap∧(ls≠[]→∃c,b=some c∧ey g.m size c 0 ls):=by
  rcases hs with hs|⟨hs,rfl,rfl⟩
  ·obtain ⟨b,cap,h1,h2,h3,h4⟩:=hr.fk hs;exact⟨b,cap,h1,h2,h4⟩
  ·have hv:a.eval s=.slice none 0 0:=hr.fk hs;obtain⟨p,hp⟩:=hr.store.place hi';have hok:=hr.store.gX _ _ _ hi' hp;simp only[eS] at hok;subst hok;exact⟨none,0,hp,hv,fun h=>absurd rfl h⟩
 obtain⟨b,cap,hpl,hval,hden⟩:=hrow;have hown:∃xs,w.ownsRow 0 e size (a.eval s) ls.length xs∧(∀ c,b=some c→∀off,ls.length*size≤off→g.m c off=none):=by
  have hok:=hr.store.gX _ _ _ hi' hpl;rcases hor with rfl|rfl
  ·obtain ⟨⟨xs,h1⟩,h2⟩:=hok;exact⟨xs,by rw[hval];exact h1,h2⟩
  ·simp only[eS,Pl.row.injEq] at hok;obtain⟨rfl,rfl,h3⟩:=hok;refine⟨[],?_,fun c hc=>by cases hc⟩;rw[hval,h3];exact⟨by simp,.inl ⟨rfl,rfl⟩⟩
 obtain⟨xs,hown,hfree⟩:=hown;obtain⟨nv,v',w',hrun2,hrow',hfr0,⟨k,hk1,hk2,hk3,c',rfl⟩,hnl,hnone,hden2⟩:=happ B g a w hr xs hown;unfold Oper.wp;rw[hrun2];show next (a.put o.dst _) _
 rw[hd];have hob2:(a.eval s).ownBlock=b:=by rw[hval];cases b<;>rfl
 have hfr:Fr (fun c=>b=some c) w w':=hfr0.mono fun c _ h=>by rw[← hob2];exact h.1
 rw[hob2] at hk2;have hxl:=hown.1;have hcell':=(qN hrow').2;have hcell:=fun c (hc:b=some c)=>(qN (b:=c) (n:=ls.length) (cap:=cap) (xs:=xs) (e:=e) (k:=size) (w:=w) (by rw[hval,hc] at hown;exact hown)).2
 have hin:∀c,b=some c→∀off y,g.m c off=some y→xs[off]? =some y:=fun c hc off y hy=>by
  have hlt:off<ls.length*size:=by
   rcases Nat.lt_or_ge off (ls.length*size) with h5|h5
   ·exact h5
   ·rw [hfree c hc off h5] at hy;cases hy
  have h6:xs[off]? =some xs[off]:=List.getElem?_eq_getElem (by omega);have h7:=hcell c hc off _ h6;rw[(hr.store.sat _ _ _ hy).1] at h7;cases h7;exact h6
 have hnb:∀off,(b=some k→False)→g.m k off=none:=fun off hbk=>by
  rcases hk2 with h5|h5
  ·exact (hbk h5).elim
  ·cases hx:g.m k off with
   |none=>rfl
   |some y=>have:=hr.store.jl hx;omega
 have hmle:fP g.m (eV g.m k (xs++nv)):=fP.set fun off y hy=>by
  by_cases hbk:b=some k
  ·have h6:=hin k hbk off y hy;rw[List.getElem?_append_left (List.getElem?_eq_some_iff.1 h6).1];exact h6
  ·rw [hnb off (fun h=>hbk h)] at hy;cases hy
 have hcor:(b=some k∧or=.row e size)∨w.heap.size≤k:=by
  rcases hk2 with h5|h5
  ·rcases hor with h6|rfl
   ·exact .inl ⟨h5,h6⟩
   ·have hok:=hr.store.gX _ _ _ hi' hpl;simp only[eS,Pl.row.injEq] at hok;rw[hok.1] at h5;cases h5
  ·exact .inr (by omega)
 have hfr2:Fr (fun c=>b=some c∧or=.row e size) w w':=⟨hfr.os,hfr.tape,hfr.output,hfr.size,fun c hc hn=>hfr.block c hc (fun hb=>by
  rcases hor with h6|rfl
  ·exact hn ⟨hb,h6⟩
  ·have hok:=hr.store.gX _ _ _ hi' hpl;simp only[eS,Pl.row.injEq] at hok;rw[hok.1] at hb;cases hb)⟩
 have hA:∀d off y,eV g.m k (xs++nv) d off=some y→g.m d off=none→d=k:=fun d off y hy hn=>by
  unfold eV at hy;by_cases e5:d=k
  ·exact e5
  ·rw [if_neg e5,hn] at hy;cases hy
 have hB':∀off y,eV g.m k (xs++nv) k off=some y→w'.cell? ⟨k,off,none⟩=some y∧y.oneCell'=true:=fun off y hy=>by
  unfold eV at hy;rw[if_pos rfl] at hy;refine⟨hcell' off y hy,?_⟩;rw[List.getElem?_append] at hy;split at hy
  ·rename_i hlt;by_cases hl0:ls=[]
   ·subst hl0;simp at hxl;subst hxl;simp at hlt
   ·obtain ⟨c,hc,hdd⟩:=hden hl0;obtain⟨fl,hfl1,hfl2⟩:=xS hdd;have h7:fl[off]? =some fl[off]:=List.getElem?_eq_getElem (by omega);have h8:=hfl2 off _ h7;rw[Nat.zero_add] at h8;have h9:=hin c hc off _ h8;rw[hy] at h9;cases h9;exact(hr.store.sat _ _ _ h8).2
  ·exact hnone y (List.mem_of_getElem? hy)
 have hC:∀d off y,b=some d→g.m d off=some y→w'.cell? ⟨d,off,none⟩=some y:=fun d off y hd hy=>by
  by_cases hdk:d=k
  ·subst hdk;have h6:=hin d hd off y hy;exact hcell' off y (by rw[List.getElem?_append_left (List.getElem?_eq_some_iff.1 h6).1];exact h6)
  ·have hlt:=hr.store.jl hy;have hold:w'.heap[d]? =w.heap[d]? :=hfr0.block d hlt fun h=>by
    have h9:=h.2;simp only[Value.ownBlock,Option.some.injEq] at h9;exact hdk h9.symm
   rw[World.cell?_of_block (w:=w) hold];exact(hr.store.sat _ _ _ hy).1
 have hD:∀off,(ls.length+news.length)*size≤off→eV g.m k (xs++nv) k off=none:=fun off hoff=>by
  unfold eV;rw[if_pos rfl];exact List.getElem?_eq_none (by
   have:(ls.length+news.length)*size=ls.length*size+news.length*size:=Nat.add_mul _ _ _;rw[List.length_append];omega)
 obtain⟨h1,h2⟩:=hr.QS (w':=w') (m':=eV g.m k (xs++nv)) (cap':=c') (n':=ls.length+news.length) hi' hor hpl hfr2 hmle hcor hA hB' hC ⟨_,hrow'⟩ hD hsl hob;refine hK _ _ _ _ (h1.ri (s:=.own i size (ls++news)) ht ⟨some k,c',?_,?_,?_,fun _=>⟨k,rfl,?_⟩⟩) h2 h
 ·show (g.gs.set i _)[i]? =_;rw[List.getElem?_set_self (List.getElem?_eq_some_iff.1 hpl).1];simp
 ·simp
 ·have:=(qN hrow').1;simpa using this
 ·refine ey.append ?_ ?_
  ·by_cases hl0:ls=[]
   ·subst hl0;trivial
   ·obtain ⟨c,hc,hdd⟩:=hden hl0;refine qu hmle hdd fun j y hj hy=>?_
    rw[Nat.zero_add] at hy ⊢;have h6:=hin c hc j y hy;show eV _ _ _ _ _=_;unfold eV;rw[if_pos rfl,List.getElem?_append_left (List.getElem?_eq_some_iff.1 h6).1];exact h6
  ·refine hden2 _ _ _ hmle fun j y h6=>?_
   show eV _ _ _ _ _=_;unfold eV;rw[if_pos rfl,List.getElem?_append_right (by omega),show 0+ls.length*size+j-xs.length=j by omega];exact h6
theorem oS{s:Operand}{ls news:List (List D)}(TS:iY P ty e size bytes)(ho:o.op=.call { callee:=.builtin .append,args:= #[s,x],argTypes:= #[ty,ty] })
 (hd:o.dst=some t) (ht:Nat.blt t n=true) (hs:bT GL sl s=some (.own i size ls)∨(bT GL sl s=some (.d (.v (.slice none 0 0)))∧ls=[]∧or=.bX e size)) (hi:cY i ob=some or) (hor:or=.row e size∨or=.bX e size)
 (hx:∀B g a w,cE GL B ⟨n,sl,ob⟩ g a w→(D.sl size news).Den g.m (a.eval x))
 (hsz:0<size) (hne:news≠[]) (h63:ls.length+news.length≤maxLen) (hbytes:(ls.length+news.length)*bytes≤140737488355328) (hsl:Bo i sl=some sl') (hob:Bp i ob=some ob1) (hob':gT i (.row e size) ob1=some ob')
 (h:K ⟨n,(t,.own i size (ls++news))::sl',ob'⟩):di P GL n0 Pn (fun j=>j=i) o ⟨n,sl,ob⟩ K:=
 Cq (news:=news) hd ht hs hi hor (fun B g a w hr xs hown=>by
  obtain⟨ax,capx,hvx,hlx,hdx⟩:=hx B g a w hr;obtain⟨bx,offx,rfl,hdx2⟩:=hdx hne;obtain⟨nv,hnl,hnv⟩:=xS hdx2;have hm:0<news.length:=List.length_pos_iff.2 hne;have hncell:∀j u,nv[j]? =some u→w.cell? ((⟨bx,offx,none⟩:Addr).add j)=some u:=fun j u hu=>by
   rw[fG];exact(hr.store.sat _ _ _ (hnv j u hu)).1
  have hnone:∀u∈nv,u.oneCell'=true:=fun u hu=>by
   obtain⟨j,hj⟩:=List.getElem?_of_mem hu;exact(hr.store.sat _ _ _ (hnv j u hj)).2
  obtain⟨v',w',hrun,hrow',hfr0,k,hk1,hk2,hk3,c',rfl⟩:=FZ (P:=P) (ty:=o.type) TS hsz hown (a:=⟨bx,offx,none⟩) (c:=capx) hnl hm hncell hnone h63 hbytes;refine⟨nv,_,w',?_,hrow',hfr0,⟨k,hk1,hk2,hk3,c',rfl⟩,hnl,hnone,fun m c off hmm hj=>qu hmm hdx2 fun i y hi hy=>?_⟩
  ·unfold execOp;simp only[ho,resolve,invoke,builtin,Sem.run_bind,Sem.run_pure,Result.andThen_ok,List.map_toArray,List.map_cons,List.map_nil,hvx,hrun]
  ·have h7:nv[i]? =some nv[i]:=List.getElem?_eq_getElem (by omega);have:=hnv i _ h7;rw[hy] at this;cases this;exact hj i _ h7) hsl hob hob' h
variable {sx:SV}
theorem uv{s:Operand}{ls news:List (List D)}(TS:iY P ty e size bytes)(ho:o.op=.call { callee:=.builtin .append,args:= #[s,x],argTypes:= #[ty,ty] })
 (hd:o.dst=some t) (ht:Nat.blt t n=true) (hs:bT GL sl s=some (.own i size ls)) (hx:bT GL sl x=some sx) (hxD:sx.gW=some (.sl size news)) (hi:cY i ob=some or) (hor:or=.row e size∨or=.bX e size)
 (hsz:0<size) (hne:news≠[]) (h63:ls.length+news.length≤maxLen∧(ls.length+news.length)*bytes≤140737488355328) (hsl:Bo i sl=some sl') (hob:Bp i ob=some ob1) (hob':gT i (.row e size) ob1=some ob')
 (h:K ⟨n,(t,.own i size (ls++news))::sl',ob'⟩):di P GL n0 Pn (fun j=>j=i) o ⟨n,sl,ob⟩ K:=
 oS TS ho hd ht (.inl hs) hi hor (fun B g a w hr=>SV.Den.gW _ (hr.fk hx) hxD) hsz hne h63.1 h63.2 hsl hob hob' h
theorem zx{T':Nat→Prop}(e:TypeId)(k:Nat)(hob:ib ob [.bX e k]=some ob')(hT:∀i,i<ob.length→T' i→T i)(h:di P GL n0 Pn T' o ⟨n,sl,ob'⟩ K):di P GL n0 Pn T o ⟨n,sl,ob⟩ K:=fun B hB g a w hr next Q hK hP=>by
 rw[fj hob] at h;obtain⟨h1,h2⟩:=hr.AK (w':=w) (Fr.refl _ w) (fP.refl _) (fun b o x h1 h2=>by rw[h2] at h1;cases h1) (o':=.bX e k) (pl:=.row none 0 0) rfl (fun b hb=>by simp[cP,dU] at hb) (fun i f dn cur e=>by cases e);refine h B hB _ a w h1 next Q (fun σ' g' a' w' hr' hk hK'=>hK σ' g' a' w' hr' ⟨h2.1.trans hk.1,fun i b o hi e1 e2 e3=>?_⟩ hK') hP
 obtain⟨f1,f2⟩:=h2.2 i b o (fun x=>x) e1 e2 e3;have hil:=(List.getElem?_eq_some_iff.1 e1).1;exact hk.2 i b o (fun hx=>hi (hT i hil hx)) (by show(ob++[_])[i]? =_;rw[List.getElem?_append_left hil];exact e1) f1 e3
theorem rA{ob2:List Ob}{s:Operand}{news:List (List D)}(TS:iY P ty e size bytes)(ho:o.op=.call { callee:=.builtin .append,args:= #[s,x],argTypes:= #[ty,ty] })
 (hd:o.dst=some t) (ht:Nat.blt t n=true) (hs:bT GL sl s=some (.d (.v (.slice none 0 0)))) (hx:bT GL sl x=some sx) (hxD:sx.gW=some (.sl size news)) (hl:ob.length=k) (hob0:ib ob [.bX e size]=some ob1) (hi:cY k ob1=some (.bX e size))
 (hsz:0<size) (hne:news≠[]) (h63:news.length≤maxLen∧news.length*bytes≤140737488355328) (hsl:Bo k sl=some sl') (hob:Bp k ob1=some ob2) (hob':gT k (.row e size) ob2=some ob')
 (h:K ⟨n,(t,.own k size news)::sl',ob'⟩):di P GL n0 Pn T o ⟨n,sl,ob⟩ K:=
 zx (T':=fun j=>j=k) e size hob0 (fun i hi hx=>by omega) (oS (ls:=[]) TS ho hd ht (.inr ⟨hs,rfl,rfl⟩) hi (.inr rfl) (fun B g a w hr=>SV.Den.gW _ (hr.fk hx) hxD) hsz hne (by simpa using h63.1) (by simpa using h63.2) hsl hob hob' h)
theorem Hm{f:FuncId}{argsc:List D}{svs:List SV}{Q:D→Prop}(hrun:∀B g a w,cE GL B σ g a w→∃vs,(execOp a.eval o).run P w=.ok (.enter f ⟨vs⟩) w∧bC g svs vs)(hfa:ic σ.ob svs (argsc.map .d))
 (ht:et P GL f [] (argsc.map .d) fun out ob'=>ob'=[]∧∃d,out=.ret (.d d)∧Q d) (hret:∀d,Q d→(∀ t,o.dst=some t→Nat.blt t σ.n=true∧K ⟨σ.n,(t,.d d)::σ.sl,σ.ob⟩)∧(o.dst=none→K σ)):di P GL n0 Pn T o σ K:=fun B hB g a w hr next Q' hK hP=>by
 obtain⟨vs,hrun,hd⟩:=hrun B g a w hr;have hren:∀l:List D,ml [] (l.map .d)=some (l.map .d):=by
  intro l
  induction l with
  |nil=>rfl
  |cons x l ih=>simp[ml,SV.ja,ih]
 have hsub:=hr.store.sub (obc:=[]) (ρ:=[]) .nil List.nodup_nil (fun j i f dn cur hj=>by simp at hj);have hd2:=gL hsub.2.1 _ (hren argsc) (hfa.den hr.store hd);unfold Oper.wp;rw[hrun,Oper.upon_enter];refine(ht _ w vs hsub.1 hd2).mono fun e w' he=>?_
 obtain⟨g',ob',hs,hst,hle,hno',he⟩:=he;cases e with
 |returned v=>
  obtain⟨s,hs1,rfl,d,e1,hq⟩:=he;cases e1;obtain⟨gn,hrel,hkeep,hden⟩:=hr.after (obc:=[]) (ix:=[]) .nil List.nodup_nil rfl (fun i hi=>by cases hi) hs hst hle hno' (obr:=[]) (ob1:=σ.ob) (obn:=σ.ob) (sl1:=σ.sl) rfl rfl (by
   have:∀l:List Ob,ib l []=some l:=by
    intro l
    induction l with
    |nil=>rfl
    |cons x l ih=>simp[ib,ih]
   exact this _) rfl
  have hkeep':tU T σ.ob g w gn w':=⟨hkeep.1,fun i b o _=>hkeep.2 i b o (by simp)⟩;obtain⟨h1,h2⟩:=hret d hq;show next (a.put o.dst v) w'
  cases hdst:o.dst with
  |none=>exact hK _ _ _ _ hrel hkeep' (h2 hdst)
  |some t=>
   obtain⟨e8,e9⟩:=h1 t hdst;exact hK _ _ _ _ (hrel.put (s:=.d d) e8 (hden (.d d) (.d d) v rfl hs1)) hkeep' e9
 |panicked c=>
  obtain⟨v,s,_,_,_,d,e1,_⟩:=he;cases e1
 |outgrown=>exact he.elim
end
end Go.Vd
namespace Go.Vd
open Go Go.RowKit
section
variable {P:Program} {ops:Array Oper} {Q:Exit→Act→World→Prop}
def Fc(ops:List Oper)(j i:Nat):Bool:=match cY j ops with
 |some o=>o.after.toList.any fun e=>cond (Region.binds .any e) (Nat.beq e.on i) false
 |none=>false
abbrev Hd:=List (Nat×Addr×Value)
def Nm(Hc:Hd)(w:World):Prop:= ∀p∈Hc,w.cell? p.2.1=some p.2.2
def R4(i:Nat)(Hc:Hd)(w:World):Prop:= ∀p∈Hc,p.1=i→w.cell? p.2.1=some p.2.2
def qp(ops:List Oper)(j:Nat)(Hc:Hd):Hd:=Hc.filter fun p=> !Fc ops j p.1
def Mw(P:Program)(ops:Array Oper)(Q:Exit→Act→World→Prop):Nat→Hd→Array Bool→Act→World→Prop
 |0,_,listed,a,w=>Region.ready .any ops listed=[]∧Q .normal a w
 |fuel+1,Hc,listed,a,w=>
  (Region.ready .any ops listed=[]→Q .normal a w)∧
  ∀i∈Region.ready .any ops listed,wpOp P ops Q i (fun a' w'=>Nm (qp ops.toList i Hc) w'∧Mw P ops Q fuel (qp ops.toList i Hc) (listed.setIfInBounds i true) a' w') a w
theorem FN:∀(fuel:Nat) (Hc:Hd) (listed:Array Bool) (a:Act) (w:World),Mw P ops Q fuel Hc listed a w→wpAny P .any ops Q fuel listed a w
 |0,_,_,_,_,h=>h
 |fuel+1,Hc,listed,_,_,h=>⟨h.1,fun i hi=>wpOp_mono (fun a' w' h'=>FN fuel _ _ a' w' h'.2) (h.2 i hi)⟩
theorem v9:∀(fuel:Nat) (Hc Hd':Hd) (listed:Array Bool) (a:Act) (w:World),(∀ p∈Hc,p∈Hd')→Mw P ops Q fuel Hd' listed a w→Mw P ops Q fuel Hc listed a w
 |0,_,_,_,_,_,_,h=>h
 |fuel+1,Hc,Hd',listed,_,_,hs,h=>⟨h.1,fun i hi=>wpOp_mono (fun a' w' h'=>by
  have hs2:∀p∈qp ops.toList i Hc,p∈qp ops.toList i Hd':=fun p hp=>by
   unfold qp at hp ⊢;rw[List.mem_filter] at hp ⊢;exact⟨hs p hp.1,hp.2⟩
  exact⟨fun p hp=>h'.1 p (hs2 p hp),v9 fuel _ _ _ a' w' hs2 h'.2⟩) (h.2 i hi)⟩
def Yields(P:Program)(ops:Array Oper)(i:Nat)(Hc:Hd)(o:Oper)(v:Value)(a:Act):Prop:=
 (Region.wanted o (yielded ops a.tmps)=true∧∀w,R4 i Hc w→(execOp a.eval o).run P w=.ok (.value v) w)∨(Region.wanted o (yielded ops a.tmps)=false∧v=undef)
variable {i:Nat} {Hc:Hd} {o:Oper} {v:Value} {a:Act}
theorem Yields.of_same{a':Act}(h:Yields P ops i Hc o v a)(he:execOp a'.eval o=execOp a.eval o)
 (hw:Region.wanted o (yielded ops a'.tmps)=Region.wanted o (yielded ops a.tmps)):Yields P ops i Hc o v a':=by
 unfold Yields at *;rw[he,hw];exact h
theorem Yields.qp{i j:Nat}{Hc:Hd}{o:Oper}{v:Value}{a:Act}(h:Yields P ops i Hc o v a)(hd:Fc ops.toList j i=false):Yields P ops i (qp ops.toList j Hc) o v a:=by
 refine h.imp (fun⟨h1,h2⟩=>⟨h1,fun w hc=>h2 w fun p hp e=>hc p ?_ e⟩) (fun h=>h);unfold Vd.qp;rw[List.mem_filter];exact⟨hp,by rw[e,hd];rfl⟩
variable {w:World} {K:Act→World→Prop}
theorem Yields.op(hi:ops[i]? =some o)(hy:Yields P ops i Hc o v a)(hw:Nm Hc w)(h:K (a.put o.dst v) w):
 wpOp P ops Q i K a w:=by
 unfold wpOp;simp only[hi];rcases hy with⟨h1,h2⟩|⟨h1,rfl⟩
 ·rw [if_pos h1];left;unfold Oper.wp;rw[h2 w (fun p hp _=>hw p hp)];exact h
 ·rw [if_neg (by simp[h1])];exact h
variable {j:Nat} {oi:Oper}
theorem wpOp_put{oj:Oper}(hQ:∀c (a:Act) v w,Q (.panic c) (a.put oi.dst v) w→Q (.panic c) a w)(hj:ops[j]? =some oj)(hap:oi.apart ops oj=true)
 (hsi:∀cs b,oi.op≠ .select cs b) (hsj:∀cs b,oj.op≠ .select cs b)
 (hy:Yields P ops i Hc oi v a) (h:wpOp P ops Q j K (a.put oi.dst v) w):
 wpOp P ops Q j (fun a' w'=>Yields P ops i Hc oi v a'∧K (a'.put oi.dst v) w') a w:=by
 obtain⟨h1,h2,h3⟩:=Oper.apart_spec hap;have qf:∀u,Yields P ops i Hc oi v (a.put oj.dst u):=fun u=>hy.of_same (execOp_put oi hsi a oj.dst u h3) (wanted_put oi a oj.dst u h3)
 have keepd:∀d u,Yields P ops i Hc oi v (({ a with defers:=d::a.defers }:Act).put oj.dst u):=fun d u=>by
  have hb:Yields P ops i Hc oi v ({ a with defers:=d::a.defers }:Act):=hy.of_same (execOp_congr oi hsi fun x _=>by cases x<;>rfl) rfl;exact hb.of_same (execOp_put oi hsi _ oj.dst u h3) (wanted_put oi _ oj.dst u h3)
 unfold wpOp at*
 simp only[hj] at*
 rw[wanted_put oj a oi.dst v h1] at h;split
 ·rename_i hw;simp only[hw,if_true] at h;rcases h with h|h
  ·left;unfold Oper.wp at*
   rw[execOp_put oj hsj a oi.dst v h1] at h;generalize(execOp a.eval oj).run P w=r at*
   cases r with
   |ok n w'=>
    cases n<;>simp only[Oper.upon] at h ⊢
    case value u=>exact⟨qf u,by rw[← Act.put_comm a v u h2];exact h⟩
    case skip=>exact⟨qf _,by rw[← Act.put_comm a v undef h2];exact h⟩
    case enter f args=>
     refine h.mono fun e w'' he=>?_
     cases e with
     |returned u=>exact⟨qf u,by rw[← Act.put_comm a v u h2];exact he⟩
     |panicked c=>exact hQ _ _ _ _ he
     |outgrown=>exact he
    case defer d=>
     refine⟨keepd d _,?_⟩;rw[← Act.put_comm _ v undef h2,←Act.put_defers];exact h
    case row r args=>exact Rows.mono h fun u w'' hu=>⟨qf u,by rw[← Act.put_comm a v u h2];exact hu⟩
   |halt x w'=>
    cases x<;>simp only[Oper.upon] at h ⊢;exact hQ _ _ _ _ h
  ·right;obtain⟨hh,hl⟩:=h;refine⟨?_,hl⟩;unfold Oper.asks at*
   rw[execOp_put oj hsj a oi.dst v h1] at hh;exact hh
 ·rename_i hw;simp only[hw] at h;exact⟨qf _,by rw[← Act.put_comm a v undef h2];exact h⟩
theorem tX(hQ:∀c (a:Act) v w,Q (.panic c) (a.put oi.dst v) w→Q (.panic c) a w)(hi:ops[i]? =some oi)
 (hsel:∀(j:Nat) (o:Oper) cs b,ops[j]? =some o→o.op≠ .select cs b):
 ∀(fuel:Nat) (Hc:Hd) (listed:Array Bool) (a:Act) (w:World),
  (∀ (j:Nat) (oj:Oper),ops[j]? =some oj→j≠i→listed.getD j true=false→(∀ e∈oj.after,Region.binds .any e=true→e.on≠i)→oi.apart ops oj=true)→
  i∈Region.ready .any ops listed→Yields P ops i Hc oi v a→Nm Hc w→
  Mw P ops Q fuel Hc (listed.setIfInBounds i true) (a.put oi.dst v) w→Mw P ops Q (fuel+1) Hc listed a w:=by
 intro fuel;have hfsub:∀(Hc:Hd) (j:Nat) p,p∈qp ops.toList j Hc→p∈Hc:=fun Hc j p hp=>by unfold qp at hp;exact(List.mem_filter.1 hp).1
 induction fuel with
 |zero=>
  intro Hc listed a w _ hr hy hc H;refine⟨fun h=>(by rw[h] at hr;cases hr),fun j hj=>?_⟩;by_cases hji:j=i
  ·subst hji;exact hy.op hi hc ⟨fun p hp=>hc p (hfsub _ _ p hp),H⟩
  ·have:=ready_mono hj hji;rw[H.1] at this;cases this
 |succ fuel ih=>
  intro Hc listed a w hfree hr hy hc H;refine⟨fun h=>(by rw[h] at hr;cases hr),fun j hj=>?_⟩;by_cases hji:j=i
  ·subst hji;exact hy.op hi hc ⟨fun p hp=>hc p (hfsub _ _ p hp),v9 _ _ _ _ _ _ (hfsub _ _) H⟩
  ·have h1:=H.2 j (ready_mono hj hji);obtain⟨hjun,oj,hoj,hall⟩:=mem_ready.1 hj;have hnot:∀e∈oj.after,Region.binds .any e=true→e.on≠i:=fun e he hb heq=>by
    have h1:=hall e he hb;have h0:=(mem_ready.1 hr).1;rw[heq] at h1;rcases Nat.lt_or_ge i listed.size with h'|h'
    ·simp [h'] at h0 h1;rw[h0] at h1;cases h1
    ·simp [Array.getElem?_eq_none h'] at h1
   have hdep:Fc ops.toList j i=false:=by
    unfold Fc;split
    ·rename_i o ho;have ho2:=bR ho;have ho3:ops[j]? =some o:=by simpa using ho2
     rw[hoj] at ho3;cases ho3;rw[List.any_eq_false];intro e he;cases hb:Region.binds .any e with
     |false=>simp
     |true=>simpa using hnot e (by simpa using he) hb
    ·rfl
   have h2:=wpOp_put hQ hoj (hfree j oj hoj hji hjun hnot) (fun cs b=>hsel i oi cs b hi) (fun cs b=>hsel j oj cs b hoj) hy h1;have hfree':∀(k:Nat) (ok:Oper),ops[k]? =some ok→k≠i→(listed.setIfInBounds j true).getD k true=false→
    (∀ e∈ok.after,Region.binds .any e=true→e.on≠i)→oi.apart ops ok=true:=fun k ok hk hki hun hno=>by
    refine hfree k ok hk hki ?_ hno;by_cases hjk:j=k
    ·subst hjk;exact hjun
    ·rw [getD_set_ne true hjk] at hun;exact hun
   refine wpOp_mono (fun a' w' h3=>⟨h3.2.1,ih _ (listed.setIfInBounds j true) a' w' hfree' (ready_mono hr (Ne.symm hji)) (h3.1.qp hdep) h3.2.1 ?_⟩) h2;rw[Array.setIfInBounds_comm _ _ hji];exact h3.2.2
end
def zN(t:Nat→Bool):List (Nat×Nat)→List Ob→Bool
 |[],_=>true
 |p::r,ob=> !(t p.2)&&(match cY p.2 ob with|some (.cells _ _)=>true|_=>false)&&zN t r ob
theorem oh{t:Nat→Bool}{ob:List Ob}:∀{L:List (Nat×Nat)},zN t L ob=true→∀p∈L,t p.2=false∧∃c ty,cY p.2 ob=some (.cells c ty)
 |q::r,h,p,hp=>by
  simp only[zN,Bool.and_eq_true,Bool.not_eq_true'] at h;rcases List.mem_cons.1 hp with rfl|hp
  ·refine ⟨h.1.1,?_⟩;have h2:=h.1.2;split at h2
   ·exact ⟨_,_,by assumption⟩
   ·cases h2
  ·exact oh h.2 p hp
variable {ob:List Ob}
theorem Gg{L:List (Nat×Nat)}(h:zN (fun _=>false) L ob=true):∀p∈L,¬(fun _:Nat=>False) p.2∧∃c ty,cY p.2 ob=some (.cells c ty):=fun p hp=>⟨fun h=>h,(oh h p hp).2⟩
variable {i:Nat}
theorem Gf{L:List (Nat×Nat)}(h:zN (fun j=>Nat.beq j i) L ob=true):∀p∈L,¬(fun j=>j=i) p.2∧∃c ty,cY p.2 ob=some (.cells c ty):=fun p hp=>
 ⟨fun e=>(by have:=(oh h p hp).1;simp only[e] at this;simp at this),(oh h p hp).2⟩
theorem Ge{ix:List Nat}{L:List (Nat×Nat)}(h:zN (oe ix) L ob=true):∀p∈L,¬(fun j=>j∈ix) p.2∧∃c ty,cY p.2 ob=some (.cells c ty):=fun p hp=>
 ⟨fun e=>(by have:=(oh h p hp).1;rw[od.2 e] at this;cases this),(oh h p hp).2⟩
section
variable {P:Program} {GL:Nat→List D} {n0:Nat} {Pn:pG}
def GU(g:Gh)(L:List (Nat×Nat))(Hc:Hd):Prop:=
 ∀p∈Hc,p.2.1.spot=none∧(g.m p.2.1.block p.2.1.off=some p.2.2∨∃k b,(p.1,k)∈L∧g.gs[k]? =some (.loc b)∧p.2.1.block=b)
def ym(i:Nat):List Nat→List (Nat×Nat)→Option (List (Nat×Nat))
 |[],L=>some L
 |k::r,L=>(ym i r L).bind fun l=>some ((i,k)::l)
theorem BC{i:Nat}:∀{r:List Nat} {L l:List (Nat×Nat)},ym i r L=some l→(∀ k∈r,(i,k)∈l)∧∀p∈L,p∈l
 |[],L,l,h=>by simp[ym] at h;subst h;simp
 |k::r,L,l,h=>by
  simp only[ym,Option.bind_eq_some_iff,Option.some.injEq] at h;obtain⟨l',h1,rfl⟩:=h;have ih:=BC h1;exact⟨fun j hj=>by rcases List.mem_cons.1 hj with rfl|hj;exact List.mem_cons_self;exact List.mem_cons_of_mem _ (ih.1 j hj),fun p hp=>List.mem_cons_of_mem _ (ih.2 p hp)⟩
def ou(ops:List Oper)(j:Nat):List (Nat×Nat)→Option (List (Nat×Nat))
 |[]=>some []
 |p::r=>(ou ops j r).bind fun l=>cond (Fc ops j p.1) (some l) (some (p::l))
theorem uK{ops:List Oper}{j:Nat}:∀{L l:List (Nat×Nat)},ou ops j L=some l→∀p∈L,Fc ops j p.1=false→p∈l
 |[],l,h,p,hp,_=>by cases hp
 |q::r,l,h,p,hp,hd=>by
  simp only[ou,Option.bind_eq_some_iff] at h;obtain⟨l',h1,h2⟩:=h;cases hb:Fc ops j q.1<;>rw[hb] at h2<;>simp at h2<;>subst h2
  ·rcases List.mem_cons.1 hp with rfl|hp
   ·exact List.mem_cons_self
   ·exact List.mem_cons_of_mem _ (uK h1 p hp hd)
  ·rcases List.mem_cons.1 hp with rfl|hp
   ·rw [hb] at hd;cases hd
   ·exact uK h1 p hp hd
def bL(P:Program)(GL:Nat→List D)(n0:Nat)(Pn:pG)(l:List Oper)(fuel:Nat)(listed:Array Bool)(L:List (Nat×Nat))(Q:Ex→St→Prop)(σ:St):Prop:=
 ∀B:Bs,B.n0=n0→∀g a w Hc,cE GL B σ g a w→Nm Hc w→GU g L Hc→Mw P l.toArray (qd GL B (Pn.dr l) Q) fuel Hc listed a w
variable {l:List Oper} {o:Oper} {t:Nat}
theorem Ks(h:l[i]? =some o)(hd:o.dst=some t):xQ t l=true:=by
 induction l generalizing i with
 |nil=>simp at h
 |cons a r ih=>
  unfold xQ;cases i with
  |zero=>simp at h;subst h;rw[hd];simp
  |succ i=>rw[ih (by simpa using h)];simp
variable {B:Bs}
theorem uB{Q:Ex→St→Prop}(ho:l[i]? =some o):∀c (a:Act) v w,qd GL B (Pn.dr l) Q (.panic c) (a.put o.dst v) w→qd GL B (Pn.dr l) Q (.panic c) a w:=by
 intro c a v w h;rcases h with h|⟨h1,g,sl,ob,x,s,h2,h3,h4,h5,h7,h6⟩
 ·exact h.elim
 ·refine .inr ⟨by cases hd:o.dst<;>rw[hd] at h1<;>exact h1,g,iz l sl,ob,x,s,h2,h3,h4,h5,fun t=>?_,?_⟩
  ·rw [uO];split
   ·trivial
   ·rename_i hn;have:=h7 t;cases hd:o.dst with
    |none=>rw[hd] at this;exact this
    |some d=>
     rw[hd] at this;have hdt:d≠t:=fun e=>hn (by subst e;exact Ks ho hd)
     have e2:(a.put (some d) v).tmps.getD t undef=a.tmps.getD t undef:=by
      simp only[Act.put];rw[Array.getD_eq_getD_getElem?,Array.getD_eq_getD_getElem?,Array.getElem?_setIfInBounds_ne hdt]
     rwa [e2] at this
  ·show Pn.pn s (iz l (iz l sl)) ob;rw[xR];exact h6
theorem JP{Q:Ex→St→Prop}:∀e a w,qd GL B (Pn.dr l) Q e a w→qd GL B Pn Q e a w:=by
 intro e a w h;cases e with
 |normal=>exact h
 |exit j=>exact h
 |goto l=>exact h
 |ret=>exact .inr (h.resolve_left id)
 |panic c=>
  rcases h with h|⟨h1,g,sl,ob,x,s,h2,h3,h4,h5,h7,h6⟩
  ·exact h.elim
  ·refine .inr ⟨h1,g,iz l sl,ob,x,s,h2,h3,h4,h5,fun t=>?_,h6⟩;rw[uO];split
   ·trivial
   ·exact h7 t
 |outgrown=>exact h
variable {id fuel:Nat} {σ:St} {listed:Array Bool}
theorem ID{Q:Ex→St→Prop}(hm:P.follows .mixedOrders=true)(hf:l.length=fuel)(hl:Array.replicate fuel false=listed)(h:bL P GL n0 Pn l fuel listed [] Q σ):bu P GL n0 Pn (.region id l.toArray true) Q σ:=fun B hB a w ⟨g,hr⟩=>by
 subst hf hl;refine wp_mono (Q:=qd GL B (Pn.dr l) Q) ?_ JP;refine wp_region_any hm ?_;have hr':cE GL B σ g a { w with drawn:=w.drawn+1 }:=⟨hr.defers,hr.size,hr.da,⟨hr.store.len,fun i o p h1 h2=>by have:=hr.store.gX i o p h1 h2;cases o<;>cases p<;>first|exact this|exact⟨this.2.2 g.m g.m w _ (fP.refl _) (fun _ _=>rfl) (fun _ _ _ h=>h) this.1,this.2.1,this.2.2⟩,hr.store.eD,hr.store.oz,hr.store.sat,hr.store.ET⟩,
  ⟨⟨hr.fI.fr.os,hr.fI.fr.tape,hr.fI.fr.output,hr.fI.fr.size,hr.fI.fr.block⟩,hr.fI.mem,hr.fI.new,hr.fI.own,hr.fI.at'⟩⟩
 have:=h B hB g a _ [] hr' (fun p hp=>by cases hp) (fun p hp=>by cases hp)
 simpa using FN _ _ _ _ _ this
theorem GO{Q:Ex→St→Prop}(h:bL P GL n0 Pn l fuel listed [] Q σ)(hf:l.length=fuel:=by exact rfl)(hl:Array.replicate fuel false=listed:=by exact rfl)(hm:P.follows .mixedOrders=true:=by omega):bu P GL n0 Pn (.region id l.toArray true) Q σ:=ID hm hf hl h
variable {listed':Array Bool} {n:Nat} {sl:List (Nat×SV)}
theorem uV{L:List (Nat×Nat)}{Q:Ex→St→Prop}(i:Nat)(ho:l[i]? =some o)(hw:∀B g a w,cE GL B ⟨n,sl,ob⟩ g a w→Region.wanted o (yielded l.toArray a.tmps)=true)(hd:o.dst=some t)(ht:Nat.blt t n=true)
 (hb:((Region.ready .any l.toArray listed).contains i&&Region.free .any l.toArray listed i&&Region.noSelect l.toArray)=true) (hl:listed.setIfInBounds i true=listed')
 (h:ak P GL o ⟨n,sl,ob⟩ fun s L'=> ∃L2,ym i L' L=some L2∧bL P GL n0 Pn l fuel listed' L2 Q ⟨n,(t,s)::sl,ob⟩):bL P GL n0 Pn l (fuel+1) listed L Q ⟨n,sl,ob⟩:=fun B hB g a w Hc hr hc hheld=>by
 subst hl;simp only[Bool.and_eq_true] at hb;obtain⟨⟨hready,hfree⟩,hsel⟩:=hb;have ho':l.toArray[i]? =some o:=by simpa using ho
 obtain⟨Hi,s,y,L',hrun,hcw,hh,hden,L2,hL2,hk⟩:=h B g a w hr;have htm:=BC hL2;have hcw2:Nm (Hi.map (fun p=>(i,p))++Hc) w:=fun p hp=>(List.mem_append.1 hp).elim (fun hp=>by
  obtain⟨q,hq,rfl⟩:=List.mem_map.1 hp;exact hcw q hq) (hc p)
 have hh2:GU g L2 (Hi.map (fun p=>(i,p))++Hc):=fun p hp=>by
  rcases List.mem_append.1 hp with hp|hp
  ·obtain ⟨q,hq,rfl⟩:=List.mem_map.1 hp;obtain⟨h1,h2⟩:=hh q hq;exact⟨h1,h2.imp (fun h=>h) fun⟨k,b,e1,e2⟩=>⟨k,b,htm.1 k e1,e2⟩⟩
  ·obtain ⟨h1,h2⟩:=hheld p hp;exact⟨h1,h2.imp (fun h=>h) fun⟨k,b,e1,e2⟩=>⟨k,b,htm.2 _ e1,e2⟩⟩
 refine v9 _ _ (Hi.map (fun p=>(i,p))++Hc) _ _ _ (fun p hp=>List.mem_append.2 (.inr hp)) ?_;refine tX (uB ho) ho' (Region.noSelect_spec hsel) fuel _ listed a w (Region.free_spec ho' hfree) (by simpa using hready) (v:=y) (.inl ⟨hw B g a w hr,fun w' hc'=>hrun w' (fun p hp=>hc' (i,p) (List.mem_append.2 (.inl (List.mem_map.2 ⟨p,hp,rfl⟩))) rfl)⟩) hcw2 ?_;rw[hd];exact hk B hB g _ w _ (hr.put ht hden) hcw2 hh2
theorem OE{L:List (Nat×Nat)}{Q:Ex→St→Prop}(i:Nat)(ho:l[i]? =some o)(hg:o.guard=none)(hd:o.dst=some t)(ht:Nat.blt t n=true)
 (hb:((Region.ready .any l.toArray listed).contains i&&Region.free .any l.toArray listed i&&Region.noSelect l.toArray)=true) (hl:listed.setIfInBounds i true=listed')
 (h:ak P GL o ⟨n,sl,ob⟩ fun s L'=> ∃L2,ym i L' L=some L2∧bL P GL n0 Pn l fuel listed' L2 Q ⟨n,(t,s)::sl,ob⟩):bL P GL n0 Pn l (fuel+1) listed L Q ⟨n,sl,ob⟩:=
 uV i ho (fun B g a w hr=>by simp[Region.wanted,hg]) hd ht hb hl h
theorem A1{L:List (Nat×Nat)}{Q:Ex→St→Prop}(i:Nat)(ho:l[i]? =some o)(h:ak P GL o ⟨n,sl,ob⟩ fun s L'=> ∃L2,ym i L' L=some L2∧bL P GL n0 Pn l fuel listed' L2 Q ⟨n,(t,s)::sl,ob⟩)(hg:o.guard=none:=by exact rfl)(hd:o.dst=some t:=by exact rfl)(ht:Nat.blt t n=true:=by exact rfl)(hb:((Region.ready .any l.toArray listed).contains i&&Region.free .any l.toArray listed i&&Region.noSelect l.toArray)=true:=by kernel_rfl)(hl:listed.setIfInBounds i true=listed':=by exact rfl):bL P GL n0 Pn l (fuel+1) listed L Q ⟨n,sl,ob⟩:=OE i ho hg hd ht hb hl h
variable {a:Act} {w:World} {j d:Nat} {want b:Bool}
theorem je{g:Gh}(hr:cE GL B ⟨n,sl,ob⟩ g a w)(hg:o.guard=some (j,want))(hd:gR l j=some d)(hb:gK d sl=some (.d (.v (.bool b)))):
 Region.wanted o (yielded l.toArray a.tmps)=(b==want):=by
 have hbv:a.tmps.getD d undef=.bool b:=by have:=hr.da d;rw[fu hb] at this;exact this
 exact tY hg (by simpa using hd) hbv
theorem FE{L:List (Nat×Nat)}{Q:Ex→St→Prop}(i:Nat)(ho:l[i]? =some o)(hg:o.guard=some (j,want))(hj:gR l j=some d)(hlit:gK d sl=some (.d (.v (.bool want))))(hd:o.dst=some t)(ht:Nat.blt t n=true)
 (hb:((Region.ready .any l.toArray listed).contains i&&Region.free .any l.toArray listed i&&Region.noSelect l.toArray)=true) (hl:listed.setIfInBounds i true=listed')
 (h:ak P GL o ⟨n,sl,ob⟩ fun s L'=> ∃L2,ym i L' L=some L2∧bL P GL n0 Pn l fuel listed' L2 Q ⟨n,(t,s)::sl,ob⟩):bL P GL n0 Pn l (fuel+1) listed L Q ⟨n,sl,ob⟩:=
 uV i ho (fun B g a w hr=>by rw[je hr hg hj hlit];simp) hd ht hb hl h
theorem A6{L:List (Nat×Nat)}{Q:Ex→St→Prop}(i:Nat)(ho:l[i]? =some o)(h:ak P GL o ⟨n,sl,ob⟩ fun s L'=> ∃L2,ym i L' L=some L2∧bL P GL n0 Pn l fuel listed' L2 Q ⟨n,(t,s)::sl,ob⟩)(hg:o.guard=some (j,want):=by exact rfl)(hj:gR l j=some d:=by exact rfl)(hd:o.dst=some t:=by exact rfl)(hlit:gK d sl=some (.d (.v (.bool want))):=by exact rfl)(ht:Nat.blt t n=true:=by exact rfl)(hb:((Region.ready .any l.toArray listed).contains i&&Region.free .any l.toArray listed i&&Region.noSelect l.toArray)=true:=by kernel_rfl)(hl:listed.setIfInBounds i true=listed':=by exact rfl):bL P GL n0 Pn l (fuel+1) listed L Q ⟨n,sl,ob⟩:=FE i ho hg hj hlit hd ht hb hl h
theorem IG{L:List (Nat×Nat)}{Q:Ex→St→Prop}(i:Nat)(ho:l[i]? =some o)(hg:o.guard=some (j,want))(hj:gR l j=some d)(hlit:gK d sl=some (.d (.v (.bool (!want))))∨gK d sl=some (.d (.v undef)))(hd:o.dst=some t)(ht:Nat.blt t n=true)
 (hb:((Region.ready .any l.toArray listed).contains i&&Region.free .any l.toArray listed i&&Region.noSelect l.toArray)=true) (hl:listed.setIfInBounds i true=listed')
 (h:bL P GL n0 Pn l fuel listed' L Q ⟨n,(t,.d (.v undef))::sl,ob⟩):bL P GL n0 Pn l (fuel+1) listed L Q ⟨n,sl,ob⟩:=fun B hB g a w Hc hr hc hheld=>by
 subst hl;simp only[Bool.and_eq_true] at hb;obtain⟨⟨hready,hfree⟩,hsel⟩:=hb;have ho':l.toArray[i]? =some o:=by simpa using ho
 have hw:Region.wanted o (yielded l.toArray a.tmps)=false:=by
  rcases hlit with hlit|hlit
  ·rw [je hr hg hj hlit];cases want<;>rfl
  ·have hbv:a.tmps.getD d undef=undef:=by have:=hr.da d;rw[fu hlit] at this;exact this
   exact oE hg (by simpa using hj) (t:= #[]) (by rw[hbv];rfl)
 refine tX (uB ho) ho' (Region.noSelect_spec hsel) fuel _ listed a w (Region.free_spec ho' hfree) (by simpa using hready) (v:=undef) (.inr ⟨hw,rfl⟩) hc ?_;rw[hd];exact h B hB g _ w _ (hr.ri (s:=.d (.v undef)) ht rfl) hc hheld
theorem A7{L:List (Nat×Nat)}{Q:Ex→St→Prop}(i:Nat)(ho:l[i]? =some o)(h:bL P GL n0 Pn l fuel listed' L Q ⟨n,(t,.d (.v undef))::sl,ob⟩)(hg:o.guard=some (j,want):=by exact rfl)(hj:gR l j=some d:=by exact rfl)(hd:o.dst=some t:=by exact rfl)(ht:Nat.blt t n=true:=by exact rfl)(hb:((Region.ready .any l.toArray listed).contains i&&Region.free .any l.toArray listed i&&Region.noSelect l.toArray)=true:=by kernel_rfl)(hl:listed.setIfInBounds i true=listed':=by exact rfl)(hlit:gK d sl=some (.d (.v (.bool (!want))))∨gK d sl=some (.d (.v undef)):=by omega):bL P GL n0 Pn l (fuel+1) listed L Q ⟨n,sl,ob⟩:=IG i ho hg hj hlit hd ht hb hl h
theorem Af{L:List (Nat×Nat)}{Q:Ex→St→Prop}(d:Nat)(hb:gK d sl=some (.d (.v (.bool b))))
 (h1:b=true→bL P GL n0 Pn l fuel listed L Q ⟨n,(d,.d (.v (.bool true)))::sl,ob⟩) (h2:b=false→bL P GL n0 Pn l fuel listed L Q ⟨n,(d,.d (.v (.bool false)))::sl,ob⟩):bL P GL n0 Pn l fuel listed L Q ⟨n,sl,ob⟩:=fun B hB g a w Hc hr hc hh=>by
 have hbv:a.tmps.getD d undef=.bool b:=by have:=hr.da d;rw[fu hb] at this;exact this
 cases b with
 |true=>exact h1 rfl B hB g a w Hc (hr.known (t:=d) hbv) hc hh
 |false=>exact h2 rfl B hB g a w Hc (hr.known (t:=d) hbv) hc hh
def cU(P:Program)(GL:Nat→List D)(n0:Nat)(Pn:pG)(l:List Oper)(fuel:Nat)(listed:Array Bool)(L:List (Nat×Nat))(Q:Ex→St→Prop)(σ:St)(i:Nat):Prop:=
 ∀B:Bs,B.n0=n0→∀g a w Hc,cE GL B σ g a w→Nm Hc w→GU g L Hc→
  wpOp P l.toArray (qd GL B (Pn.dr l) Q) i (fun a' w'=>Nm (qp l i Hc) w'∧Mw P l.toArray (qd GL B (Pn.dr l) Q) fuel (qp l i Hc) (listed.setIfInBounds i true) a' w') a w
def Mu(p:Nat→Prop):List Nat→Prop
 |[]=>True
 |i::r=>p i∧Mu p r
theorem Mu.mem{p:Nat→Prop}:∀{l:List Nat},Mu p l→∀i∈l,p i
 |[],_,i,h=>by cases h
 |j::r,h,i,hi=>by
  rcases List.mem_cons.1 hi with rfl|hi
  ·exact h.1
  ·exact h.2.mem i hi
theorem cT{L:List (Nat×Nat)}{Q:Ex→St→Prop}{rs:List Nat}(hrs:Region.ready .any l.toArray listed=rs)(hne:rs.isEmpty=false)(h:Mu (cU P GL n0 Pn l fuel listed L Q σ) rs):bL P GL n0 Pn l (fuel+1) listed L Q σ:=fun B hB g a w Hc hr hc hh=>by
 refine⟨fun e=>?_,fun k hk=>?_⟩
 ·rw [hrs] at e;subst e;cases hne
 ·rw [hrs] at hk;exact h.mem k hk B hB g a w Hc hr hc hh
variable {T:Nat→Prop}
theorem yb{L L2:List (Nat×Nat)}{Q:Ex→St→Prop}(i:Nat)(ho:l[i]? =some o)(hw:∀B g a w,cE GL B σ g a w→Region.wanted o (yielded l.toArray a.tmps)=true)(hl:listed.setIfInBounds i true=listed')
 (hf:ou l i L=some L2) (hL:∀p∈L2,¬T p.2∧∃c ty,cY p.2 σ.ob=some (.cells c ty))
 (h:di P GL n0 (Pn.dr l) T o σ fun σ'=>bL P GL n0 Pn l fuel listed' L2 Q σ'):cU P GL n0 Pn l fuel listed L Q σ i:=fun B hB g a w Hc hr hc hh=>by
 subst hl;have ho':l.toArray[i]? =some o:=by simpa using ho
 unfold wpOp;simp only[ho',hw B g a w hr,if_true];left;have hmem:∀p∈qp l i Hc,p∈Hc∧∀q,(p.1,q)∈L→(p.1,q)∈L2:=fun p hp=>by
  unfold qp at hp;obtain⟨h1,h2⟩:=List.mem_filter.1 hp;exact⟨h1,fun q hq=>uK hf _ hq (by simpa using h2)⟩
 refine h B hB g a w hr _ _ (fun σ' g' a' w' hr' hkeep hk=>?_) (fun c w' hp=>.inr ⟨hr.defers,hp⟩);have hc':Nm (qp l i Hc) w':=fun p hp=>by
  obtain⟨hp1,hp2⟩:=hmem p hp;obtain⟨h1,h2⟩:=hh p hp1;have hcell:=hc p hp1;obtain⟨pi,⟨pb,po,ps⟩,pv⟩:=p;simp only at h1 h2 hcell hp2 ⊢;subst h1;rcases h2 with h2|⟨j,b,e1,e2,e3⟩
  ·exact (hr'.store.sat _ _ _ (hkeep.1 _ _ _ h2)).1
  ·obtain ⟨f1,c,ty,f2⟩:=hL _ (hp2 j e1);obtain⟨_,f4⟩:=hkeep.2 j b _ f1 (bR f2) e2 rfl;subst e3;rw[World.cell?_of_block (w:=w) f4];exact hcell
 have hh':GU g' L2 (qp l i Hc):=fun p hp=>by
  obtain⟨hp1,hp2⟩:=hmem p hp;obtain⟨h1,h2⟩:=hh p hp1;refine⟨h1,h2.imp (hkeep.1 _ _ _) fun⟨j,b,e1,e2,e3⟩=>?_⟩;obtain⟨f1,c,ty,f2⟩:=hL _ (hp2 j e1);exact⟨j,b,hp2 j e1,(hkeep.2 j b _ f1 (bR f2) e2 rfl).1,e3⟩
 exact⟨by simpa using hc',by simpa using hk B hB g' a' w' _ hr' hc' hh'⟩
theorem Ae{L L2:List (Nat×Nat)}{Q:Ex→St→Prop}(i:Nat)(ho:l[i]? =some o)(hw:∀B g a w,cE GL B σ g a w→Region.wanted o (yielded l.toArray a.tmps)=true)(hrs:Region.ready .any l.toArray listed=[i])(hl:listed.setIfInBounds i true=listed')
 (hf:ou l i L=some L2) (hL:∀p∈L2,¬T p.2∧∃c ty,cY p.2 σ.ob=some (.cells c ty))
 (h:di P GL n0 (Pn.dr l) T o σ fun σ'=>bL P GL n0 Pn l fuel listed' L2 Q σ'):bL P GL n0 Pn l (fuel+1) listed L Q σ:=
 cT hrs rfl ⟨yb i ho hw hl hf hL h,trivial⟩
theorem Qr{L L2:List (Nat×Nat)}{Q:Ex→St→Prop}(i:Nat)(ho:l[i]? =some o)(hg:o.guard=none)(hl:listed.setIfInBounds i true=listed')
 (hf:ou l i L=some L2) (hL:∀p∈L2,¬T p.2∧∃c ty,cY p.2 σ.ob=some (.cells c ty))
 (h:di P GL n0 (Pn.dr l) T o σ fun σ'=>bL P GL n0 Pn l fuel listed' L2 Q σ'):cU P GL n0 Pn l fuel listed L Q σ i:=
 yb i ho (fun B g a w hr=>by simp[Region.wanted,hg]) hl hf hL h
theorem A4{L L2:List (Nat×Nat)}{Q:Ex→St→Prop}(i:Nat)(ho:l[i]? =some o)(h:di P GL n0 (Pn.dr l) T o σ fun σ'=>bL P GL n0 Pn l fuel listed' L2 Q σ')(hg:o.guard=none:=by exact rfl)(hl:listed.setIfInBounds i true=listed':=by exact rfl)(hf:ou l i L=some L2:=by exact rfl)(hL:∀p∈L2,¬T p.2∧∃c ty,cY p.2 σ.ob=some (.cells c ty):=by first|exact Gg rfl|exact Gf rfl|exact Ge rfl):cU P GL n0 Pn l fuel listed L Q σ i:=Qr i ho hg hl hf hL h
theorem IE{L L2:List (Nat×Nat)}{Q:Ex→St→Prop}(i:Nat)(ho:l[i]? =some o)(hg:o.guard=some (j,want))(hj:gR l j=some d)(hlit:gK d sl=some (.d (.v (.bool want))))(hl:listed.setIfInBounds i true=listed')
 (hf:ou l i L=some L2) (hL:∀p∈L2,¬T p.2∧∃c ty,cY p.2 ob=some (.cells c ty))
 (h:di P GL n0 (Pn.dr l) T o ⟨n,sl,ob⟩ fun σ'=>bL P GL n0 Pn l fuel listed' L2 Q σ'):cU P GL n0 Pn l fuel listed L Q ⟨n,sl,ob⟩ i:=
 yb i ho (fun B g a w hr=>by rw[je hr hg hj hlit];simp) hl hf hL h
theorem A5{L L2:List (Nat×Nat)}{Q:Ex→St→Prop}(i:Nat)(ho:l[i]? =some o)(h:di P GL n0 (Pn.dr l) T o ⟨n,sl,ob⟩ fun σ'=>bL P GL n0 Pn l fuel listed' L2 Q σ')(hg:o.guard=some (j,want):=by exact rfl)(hj:gR l j=some d:=by exact rfl)(hlit:gK d sl=some (.d (.v (.bool want))):=by exact rfl)(hl:listed.setIfInBounds i true=listed':=by exact rfl)(hf:ou l i L=some L2:=by exact rfl)(hL:∀p∈L2,¬T p.2∧∃c ty,cY p.2 ob=some (.cells c ty):=by first|exact Gg rfl|exact Gf rfl|exact Ge rfl):cU P GL n0 Pn l fuel listed L Q ⟨n,sl,ob⟩ i:=IE i ho hg hj hlit hl hf hL h
theorem OD{L L2:List (Nat×Nat)}{Q:Ex→St→Prop}(i:Nat)(ho:l[i]? =some o)(hg:o.guard=none)(hrs:Region.ready .any l.toArray listed=[i])(hl:listed.setIfInBounds i true=listed')
 (hf:ou l i L=some L2) (hL:∀p∈L2,¬T p.2∧∃c ty,cY p.2 σ.ob=some (.cells c ty))
 (h:di P GL n0 (Pn.dr l) T o σ fun σ'=>bL P GL n0 Pn l fuel listed' L2 Q σ'):bL P GL n0 Pn l (fuel+1) listed L Q σ:=
 Ae i ho (fun B g a w hr=>by simp[Region.wanted,hg]) hrs hl hf hL h
theorem A2{L L2:List (Nat×Nat)}{Q:Ex→St→Prop}(i:Nat)(ho:l[i]? =some o)(h:di P GL n0 (Pn.dr l) T o σ fun σ'=>bL P GL n0 Pn l fuel listed' L2 Q σ')(hg:o.guard=none:=by exact rfl)(hrs:Region.ready .any l.toArray listed=[i]:=by kernel_rfl)(hl:listed.setIfInBounds i true=listed':=by exact rfl)(hf:ou l i L=some L2:=by exact rfl)(hL:∀p∈L2,¬T p.2∧∃c ty,cY p.2 σ.ob=some (.cells c ty):=by first|exact Gg rfl|exact Gf rfl|exact Ge rfl):bL P GL n0 Pn l (fuel+1) listed L Q σ:=OD i ho hg hrs hl hf hL h
theorem FD{L L2:List (Nat×Nat)}{Q:Ex→St→Prop}(i:Nat)(ho:l[i]? =some o)(hg:o.guard=some (j,want))(hj:gR l j=some d)(hlit:gK d sl=some (.d (.v (.bool want))))(hrs:Region.ready .any l.toArray listed=[i])(hl:listed.setIfInBounds i true=listed')
 (hf:ou l i L=some L2) (hL:∀p∈L2,¬T p.2∧∃c ty,cY p.2 ob=some (.cells c ty))
 (h:di P GL n0 (Pn.dr l) T o ⟨n,sl,ob⟩ fun σ'=>bL P GL n0 Pn l fuel listed' L2 Q σ'):bL P GL n0 Pn l (fuel+1) listed L Q ⟨n,sl,ob⟩:=
 Ae i ho (fun B g a w hr=>by rw[je hr hg hj hlit];simp) hrs hl hf hL h
theorem A3{L L2:List (Nat×Nat)}{Q:Ex→St→Prop}(i:Nat)(ho:l[i]? =some o)(h:di P GL n0 (Pn.dr l) T o ⟨n,sl,ob⟩ fun σ'=>bL P GL n0 Pn l fuel listed' L2 Q σ')(hg:o.guard=some (j,want):=by exact rfl)(hj:gR l j=some d:=by exact rfl)(hlit:gK d sl=some (.d (.v (.bool want))):=by exact rfl)(hrs:Region.ready .any l.toArray listed=[i]:=by kernel_rfl)(hl:listed.setIfInBounds i true=listed':=by exact rfl)(hf:ou l i L=some L2:=by exact rfl)(hL:∀p∈L2,¬T p.2∧∃c ty,cY p.2 ob=some (.cells c ty):=by first|exact Gg rfl|exact Gf rfl|exact Ge rfl):bL P GL n0 Pn l (fuel+1) listed L Q ⟨n,sl,ob⟩:=FD i ho hg hj hlit hrs hl hf hL h
theorem Mr{L:List (Nat×Nat)}{Q:Ex→St→Prop}(hrs:Region.ready .any l.toArray listed=[])(h:Q .normal σ):bL P GL n0 Pn l fuel listed L Q σ:=fun B hB g a w Hc hr hc hh=>by
 cases fuel with
 |zero=>exact⟨hrs,σ,⟨g,hr⟩,h⟩
 |succ n=>exact⟨fun _=>⟨σ,⟨g,hr⟩,h⟩,fun i hi=>by rw[hrs] at hi;cases hi⟩
theorem aZ{L:List (Nat×Nat)}{Q:Ex→St→Prop}(h:Q .normal σ)(hrs:Region.ready .any l.toArray listed=[]:=by kernel_rfl):bL P GL n0 Pn l fuel listed L Q σ:=Mr hrs h
end
end Go.Vd
namespace Go.Vd
open Go Go.RowKit
section
variable {P:Program} {GL:Nat→List D} {n0:Nat} {Pn:pG}
variable {ops rest:List Oper} {o:Oper} {Q:Ex→St→Prop} {n j d:Nat} {sl:List (Nat×SV)} {ob:List Ob} {want b:Bool}
theorem Cm(hg:o.guard=some (j,want))(hd:gR ops j=some d)(hb:gK d sl=some (.d (.v (.bool b))))(hbw:b=want)
 (h:bA P GL n0 Pn ops ({ o with guard:=none }::rest) Q ⟨n,sl,ob⟩):bA P GL n0 Pn ops (o::rest) Q ⟨n,sl,ob⟩:=by
 subst hbw;exact nJ hg hd hb h
theorem mn(h:bA P GL n0 Pn ops ({ o with guard:=none }::rest) Q ⟨n,sl,ob⟩)(hg:o.guard=some (j,want):=by exact rfl)(hd:gR ops j=some d:=by exact rfl)(hb:gK d sl=some (.d (.v (.bool b))):=by exact rfl)(hbw:b=want:=by omega):bA P GL n0 Pn ops (o::rest) Q ⟨n,sl,ob⟩:=Cm hg hd hb hbw h
variable {t:Nat}
theorem Lv(hg:o.guard=some (j,want))(hd:gR ops j=some d)(hb:gK d sl=some (.d (.v (.bool b))))(hbw:b= !want)(hdst:o.dst=some t)(ht:Nat.blt t n=true)
 (h:bA P GL n0 Pn ops rest Q ⟨n,(t,.d (.v undef))::sl,ob⟩):bA P GL n0 Pn ops (o::rest) Q ⟨n,sl,ob⟩:=by
 subst hbw;exact oR hg hd hb hdst ht h
theorem mi(h:bA P GL n0 Pn ops rest Q ⟨n,(t,.d (.v undef))::sl,ob⟩)(hg:o.guard=some (j,want):=by exact rfl)(hd:gR ops j=some d:=by exact rfl)(hdst:o.dst=some t:=by exact rfl)(hb:gK d sl=some (.d (.v (.bool b))):=by exact rfl)(ht:Nat.blt t n=true:=by exact rfl)(hbw:b= !want:=by omega):bA P GL n0 Pn ops (o::rest) Q ⟨n,sl,ob⟩:=Lv hg hd hb hbw hdst ht h
theorem mS{l:List Oper}(d:Nat)(v:Bool)(hb:gK d sl=some (.d (.v (.bool b))))(hv:b=v)
 (h:bA P GL n0 Pn ops l Q ⟨n,(d,.d (.v (.bool v)))::sl,ob⟩):bA P GL n0 Pn ops l Q ⟨n,sl,ob⟩:=by
 subst hv;cases b with
 |true=>exact zw d hb (fun _=>h) (fun e=>by cases e)
 |false=>exact zw d hb (fun e=>by cases e) (fun _=>h)
inductive Nk (ops:List Oper) (sl:List (Nat×SV)) (o:Oper):Prop
 |none (h:o.guard=none)
 |yes {j d:Nat} {want b:Bool} (hg:o.guard=some (j,want)) (hd:gR ops j=some d) (hb:gK d sl=some (.d (.v (.bool b)))) (hbw:b=want)
def J3(t:Nat):List (Nat×SV)→Bool
 |[]=>false
 |(k,_)::r=>cond (Nat.beq k t) true (J3 t r)
def nu:List (Nat×SV)→List (Nat×SV)→Bool
 |[],_=>true
 |(k,_)::r,sl=>cond (J3 k sl) false (nu r sl)
theorem C0{t:Nat}:∀{sl:List (Nat×SV)},J3 t sl=false→gK t sl=none
 |[],_=>rfl
 |(k,s)::r,h=>by
  simp only[J3] at h;show cond (Nat.beq k t) (some s) (gK t r)=none;cases hb:Nat.beq k t<;>rw[hb] at h
  ·exact C0 h
  ·cases h
theorem fY{t:Nat}{s:SV}:∀{nw sl:List (Nat×SV)},nu nw sl=true→gK t sl=some s→gK t (nw++sl)=some s
 |[],sl,_,h=>h
 |(k,x)::r,sl,hd,h=>by
  simp only[nu] at hd;cases hk:J3 k sl<;>rw[hk] at hd
  ·show cond (Nat.beq k t) (some x) (gK t (r++sl))=some s;cases hb:Nat.beq k t
   ·exact fY hd h
   ·have e:k=t:=by simpa using hb
    subst e;rw[C0 hk] at h;cases h
  ·cases hd
theorem Ar{t:Nat}:∀{sl:List (Nat×SV)},oK t sl=(gK t sl).getD .gG
 |[]=>rfl
 |(k,x)::r=>by
  show cond (Nat.beq k t) x (oK t r)=(cond (Nat.beq k t) (some x) (gK t r)).getD .gG;cases Nat.beq k t
  ·exact Ar
  ·rfl
theorem tn{t:Nat}{s:SV}:∀{nw sl:List (Nat×SV)},gK t nw=some s→gK t (nw++sl)=some s
 |[],sl,h=>by cases h
 |(k,x)::r,sl,h=>by
  change cond (Nat.beq k t) (some x) (gK t r)=some s at h
  show cond (Nat.beq k t) (some x) (gK t (r++sl))=some s;cases hb:Nat.beq k t<;>rw[hb] at h
  ·exact tn h
  ·exact h
variable {s:SV} {nw:List (Nat×SV)}
theorem qS{l:List Oper}(hd:nu nw sl=true)(h:bA P GL n0 Pn ops l Q ⟨n,(t,s)::sl,ob⟩):bA P GL n0 Pn ops l Q ⟨n,(t,s)::(nw++sl),ob⟩:=fun B hB a w ⟨g,hr⟩=>
 h B hB a w ⟨g,hr.defers,hr.size,fun u=>by
  have h1:=hr.da u;show(oK u ((t,s)::sl)).Den g _;rw[eM] at h1 ⊢;split
  ·rename_i e;rw[if_pos e] at h1;exact h1
  ·rename_i e;rw[if_neg e] at h1;rw[Ar] at h1 ⊢;cases hs:gK u sl with
   |none=>trivial
   |some x=>rw[fY hd hs] at h1;exact h1,hr.store,hr.fI⟩
theorem np(hg:Nk ops sl o)(hd:nu nw sl=true)(h:bA P GL n0 Pn ops ({ o with guard:=none }::rest) Q ⟨n,nw++sl,ob⟩):bA P GL n0 Pn ops (o::rest) Q ⟨n,nw++sl,ob⟩:=by
 cases hg with
 |none h1=>
  have:({ o with guard:=none }:Oper)=o:=by cases o;simp only at h1;subst h1;rfl
  rwa [this] at h
 |yes h1 h2 h3 h4=>exact Cm h1 h2 (fY hd h3) h4 h
variable {yt:Nat} {p:Bool}
theorem F6{l:List Oper}(k:Nat)(hl:gS k l=some (o::rest))(hb:gK d sl=some (.d (.v (.bool b))))(ho:o.op=.pick (.tmp d) (.tmp yt) (.const (.bool false)))(hg:Nk ops sl o)(hd:o.dst=some t)(ht:Nat.blt t n=true)
 (h1:b=true→(∀ nw,nu nw sl=true→gK yt nw=some (.d (.v (.bool p)))→bA P GL n0 Pn ops (o::rest) Q ⟨n,nw++sl,ob⟩)→bA P GL n0 Pn ops l Q ⟨n,sl,ob⟩)
 (h2:b=false→(∀ nw,nu nw sl=true→bA P GL n0 Pn ops (o::rest) Q ⟨n,nw++sl,ob⟩)→bA P GL n0 Pn ops l Q ⟨n,sl,ob⟩)
 (h:bA P GL n0 Pn ops rest Q ⟨n,(t,.d (.v (.bool (b&&p))))::sl,ob⟩):bA P GL n0 Pn ops l Q ⟨n,sl,ob⟩:=by
 cases hbb:b with
 |true=>
  subst hbb;refine h1 rfl fun nw hdj hy=>np hg hdj (nK rfl hd ht (oq ho (fY hdj hb) (tn hy) ?_))
  exact qS hdj (by simpa using h)
 |false=>
  subst hbb;refine h2 rfl fun nw hdj=>np hg hdj (nK rfl hd ht (ot ho (fY hdj hb) rfl ?_))
  exact qS hdj (by simpa using h)
theorem nI{l:List Oper}(k:Nat)(hl:gS k l=some (o::rest))(hb:gK d sl=some (.d (.v (.bool b))))(ho:o.op=.pick (.tmp d) (.const (.bool true)) (.tmp yt))(hg:Nk ops sl o)(hd:o.dst=some t)(ht:Nat.blt t n=true)
 (h1:b=false→(∀ nw,nu nw sl=true→gK yt nw=some (.d (.v (.bool p)))→bA P GL n0 Pn ops (o::rest) Q ⟨n,nw++sl,ob⟩)→bA P GL n0 Pn ops l Q ⟨n,sl,ob⟩)
 (h2:b=true→(∀ nw,nu nw sl=true→bA P GL n0 Pn ops (o::rest) Q ⟨n,nw++sl,ob⟩)→bA P GL n0 Pn ops l Q ⟨n,sl,ob⟩)
 (h:bA P GL n0 Pn ops rest Q ⟨n,(t,.d (.v (.bool (b||p))))::sl,ob⟩):bA P GL n0 Pn ops l Q ⟨n,sl,ob⟩:=by
 cases hbb:b with
 |false=>
  subst hbb;refine h1 rfl fun nw hdj hy=>np hg hdj (nK rfl hd ht (ot ho (fY hdj hb) (tn hy) ?_))
  exact qS hdj (by simpa using h)
 |true=>
  subst hbb;refine h2 rfl fun nw hdj=>np hg hdj (nK rfl hd ht (oq ho (fY hdj hb) rfl ?_))
  exact qS hdj (by simpa using h)
def vG(Q:D→Prop)(out:Out)(ob':List Ob):Prop:=ob'=[]∧∃d,out=.ret (.d d)∧Q d
def cD(P:Program)(GL:Nat→List D)(f:FuncId)(args:List D)(Q:D→Prop):Prop:=et P GL f [] (args.map .d) (vG Q)
variable {K:St→Prop} {f:FuncId} {args:Array Operand} {ts:Array TypeId} {svs:List SV}
theorem bJ{T:Nat→Prop}{argsc:List D}{Q:D→Prop}(hc:ai P f=true)(ho:o.op=.call { callee:=.value (.func f),args:=args,argTypes:=ts })
 (ha:De GL sl args.toList=some svs) (hdst:o.dst=some t) (htn:Nat.blt t n=true) (ht:cD P GL f argsc Q) (hfa:ic ob svs (argsc.map .d)) (hret:∀d,Q d→K ⟨n,(t,.d d)::sl,ob⟩):di P GL n0 Pn T o ⟨n,sl,ob⟩ K:=
 Hm (rW hc ho ha) hfa ht fun d hq=>⟨fun t' e=>by rw[hdst] at e;cases e;exact⟨htn,hret d hq⟩,fun e=>by rw[hdst] at e;cases e⟩
theorem aN{obc:List Ob}{argsc m:List SV}{Q:Out→List Ob→Prop}(hc:ai P f=true)(ho:o.op=.call { callee:=.value (.func f),args:=args,argTypes:=ts })
 (ha:De GL sl args.toList=some svs) (hdst:o.dst=some t) (htn:Nat.blt t n=true) (ht:et P GL f obc argsc Q) (ix:List Nat) (hfit:ch ob ix obc ix) (hnd:fA ix=true) (hno:fV obc=true) (hit:oT ix ob=true) (hra:ml ix argsc=some m) (hfa:ic ob svs m)
 (hret:∀s ob',Q (.ret s) ob'→∃obr ob1 obn sl1 s',nW (names ix ob.length (ob'.length-ix.length)) ob'=some obr∧rl ix ob=some ob1∧iO ix ob1 obr=some obn∧uE ix sl=some sl1∧s.ja (names ix ob.length (ob'.length-ix.length))=some s'∧K ⟨n,(t,s')::sl1,obn⟩)
 (hpan:∀s ob',Q (.pz s) ob'→∃obr ob1 obn sl1 s',nW (names ix ob.length (ob'.length-ix.length)) ob'=some obr∧rl ix ob=some ob1∧iO ix ob1 obr=some obn∧uE ix sl=some sl1∧s.ja (names ix ob.length (ob'.length-ix.length))=some s'∧Pn.pn s' sl1 obn):di P GL n0 Pn (· ∈ix) o ⟨n,sl,ob⟩ K:=
 wX ht ix (rW hc ho ha) hfit hnd hno (mZ hit) hra hfa (fun s ob' hq=>by
  obtain⟨obr,ob1,obn,sl1,s',e1,e2,e3,e4,e5,e6⟩:=hret s ob' hq;exact⟨obr,ob1,obn,sl1,s',e1,e2,e3,e4,e5,fun t' e=>by rw[hdst] at e;cases e;exact⟨htn,e6⟩,fun e=>by rw[hdst] at e;cases e⟩) hpan
variable {rs:List ResultVar} {σ:St} {l:List SV}
theorem iw{Q:Out→List Ob→Prop}(h:hJ GL P σ rs l)(ρ:List Nat)(s':SV)(ob':List Ob){t:SV}(hp:pre 0 n0 ρ=true)(hnd:fA ρ=true)(hno:fV ob'=true)(hob:ch σ.ob ρ ob' ρ)(hren:SV.ja ρ s'=some t)(hf:Fit σ.ob (pV l) t)(hq:Q (.ret s') ob'):Fin P GL n0 rs Q σ:=
 ⟨l,h,ρ,s',ob',t,hp,hnd,hno,hob,hren,hf,hq⟩
theorem jO{Q:Out→List Ob→Prop}{d:D}(h:hJ GL P σ rs l)(hd:(pV l).gW=some d)(ρ:List Nat)(ob':List Ob)(hp:pre 0 n0 ρ=true)(hnd:fA ρ=true)(hno:fV ob'=true)(hob:ch σ.ob ρ ob' ρ)(hq:Q (.ret (.d d)) ob'):Fin P GL n0 rs Q σ:=
 ⟨l,h,ρ,.d d,ob',.d d,hp,hnd,hno,hob,rfl,.gW hd,hq⟩
theorem nq{Q:Out→List Ob→Prop}{d:D}(h:hJ GL P σ rs l)(hd:(pV l).gW=some d)(d':D)(hl:DL d d')(ρ:List Nat)(ob':List Ob)(hp:pre 0 n0 ρ=true)(hnd:fA ρ=true)(hno:fV ob'=true)(hob:ch σ.ob ρ ob' ρ)(hq:Q (.ret (.d d')) ob'):Fin P GL n0 rs Q σ:=
 ⟨l,h,ρ,.d d',ob',.d d',hp,hnd,hno,hob,rfl,.Oh hd hl,hq⟩
variable {c:Code} {ob':List Ob}
theorem bz(e:TypeId)(k:Nat)(hob:ib ob [.bX e k]=some ob')(h:bu P GL n0 Pn c Q ⟨n,sl,ob'⟩):bu P GL n0 Pn c Q ⟨n,sl,ob⟩:=fun B hB a w ⟨g,hr⟩=>by
 rw[fj hob] at h;obtain⟨h1,_⟩:=hr.AK (w':=w) (Fr.refl _ w) (fP.refl _) (fun b o x h1 h2=>by rw[h2] at h1;cases h1) (o':=.bX e k) (pl:=.row none 0 0) rfl (fun b hb=>by simp[cP,dU] at hb) (fun i f dn cur e=>by cases e);exact h B hB a w ⟨_,h1⟩
def nG:Nat→List SV→Option (List (Nat×SV))
 |_,[]=>some []
 |k,s::r=>(nG (k+1) r).bind fun l=>some ((k,s)::l)
theorem nU:∀{k:Nat} {l:List SV} {r:List (Nat×SV)},nG k l=some r→da k l=r
 |k,[],r,h=>by simp[nG] at h;subst h;rfl
 |k,s::l,r,h=>by
  simp only[nG,Option.bind_eq_some_iff,Option.some.injEq] at h;obtain⟨r',h1,rfl⟩:=h;simp[da,nU h1]
variable {fn:Func}
theorem An{args:List SV}{Q:Out→List Ob→Prop}(hf:P.funcs[f]? =some fn)(hb:fn.body=some c)(hnt:fn.ntmps=n)(hrs:fn.results.toList=rs)
 (hn:Nat.ble args.length n=true) (hsl:nG 0 args=some sl) (k:Nat) (hk:ob.length=k) (h:bu P GL k (MH k Q) c (fin P GL k rs Q) ⟨n,sl,ob⟩):et P GL f ob args Q:=by
 subst hk;exact uZ hf hb hnt hrs (by simpa using hn) (by rw[nU hsl];exact h)
theorem Ao{args:List D}{Q:D→Prop}(hf:P.funcs[f]? =some fn)(hb:fn.body=some c)(hnt:fn.ntmps=n)(hrs:fn.results.toList=rs)
 (hn:Nat.ble args.length n=true) (hsl:nG 0 (args.map .d)=some sl) (h:bu P GL 0 ⟨fun _ _ _=>False,fun _ _ _ _=>False⟩ c (fin P GL 0 rs (vG Q)) ⟨n,sl,[]⟩):cD P GL f args Q:=by
 refine uZ hf hb hnt hrs (by simpa using hn) ?_;rw[nU hsl];refine fun B hB a w hr=>wp_mono (h B hB a w hr) fun e a w hl=>?_
 cases e with
 |panic c=>
  rcases hl with hl|⟨_,_,_,_,_,_,_,_,_,_,_,hf⟩
  ·exact hl.elim
  ·exact hf.elim
 |normal=>exact hl
 |exit id=>exact hl
 |goto l=>exact hl
 |ret=>exact hl
 |outgrown=>exact hl.elim
theorem MM{Q:D→Prop}{d:D}(h:hJ GL P σ rs l)(hd:(pV l).gW=some d)(hq:Q d):Fin P GL 0 rs (vG Q) σ:=
 ⟨l,h,[],.d d,[],.d d,rfl,rfl,rfl,.nil,rfl,.gW hd,rfl,d,rfl,hq⟩
theorem Kh{u:Nat}{Q:D→Prop}{s':SV}{d:D}(h:gK t σ.sl=some s)(h':gK u σ.sl=some s')(hd:(SV.bZ [s,s']).gW=some d)(hq:Q d):Fin P GL 0 [.tmp t,.tmp u] (vG Q) σ:=
 MM (l:=[s,s']) ⟨s,_,rfl,h,s',[],rfl,h',rfl⟩ hd hq
theorem Oc{Q:D→Prop}{d:D}(h:hJ GL P σ rs l)(hd:(pV l).gW=some d)(d':D)(hl:DL d d')(hq:Q d'):Fin P GL 0 rs (vG Q) σ:=
 ⟨l,h,[],.d d',[],.d d',rfl,rfl,rfl,.nil,rfl,.Oh hd hl,rfl,d',rfl,hq⟩
theorem dZ{x T:Nat}{i off:Nat}{l1 cs:List SV}{ty:TypeId}{ti:TI}(h1:gK x σ.sl=some (.cb i off))(h2:cY i σ.ob=some (.cells l ty))(h3:bl P T=ti)(h4:ti.ok=true)(h5:gS off l=some l1)(h6:nS ti.size l1=some cs)(h7:om ti.agg cs=some s):Gm GL P σ (.cell x T) s:=
 ⟨i,off,l,ty,l1,cs,ti,h1,h2,h3,h4,h5,h6,h7⟩
theorem ic.rfl{ob:List Ob}:∀l:List SV,ic ob l l
 |[]=>.nil
 |s::r=>.cons (.refl s) (ic.rfl r)
theorem Fit.of_eq{t:SV}(h:s=t):Fit ob s t:=h▸ .refl s
def QA:Nat→Nat→List Nat
 |_,0=>[]
 |k,n+1=>k::QA (k+1) n
variable {csl:List (Nat×SV)} {ι:Type}
theorem BP(ov:ι→List (Nat×SV))(cs:List Nat)(Inv:ι→Prop)(m:ι→Nat)(i0:ι)(hk:jb sl cs=some csl)(hI:Inv i0)
 (hm:pH n0 ⟨n,sl,ob⟩ ⟨n,ov i0++csl,ob⟩ (QA 0 ob.length))
 (h:∀i,Inv i→bu P GL n0 Pn c (Ex.seq (fun σ'=>sS n0 (fun i=>⟨n,ov i++csl,ob⟩) (fun j=>Inv j∧m j<m i) σ') Q) ⟨n,ov i++csl,ob⟩):bu P GL n0 Pn (.loop c) Q ⟨n,sl,ob⟩:=
 zj (fun i=>⟨n,ov i++csl,ob⟩) Inv m ⟨i0,_,hI,hm⟩ h
theorem BO(ov:ι→List (Nat×SV))(obi:ι→List Ob)(cs:List Nat)(Inv:ι→Prop)(m:ι→Nat)(i0:ι)(ρ:List Nat)(hk:jb sl cs=some csl)(hI:Inv i0)
 (hm:pH n0 ⟨n,sl,ob⟩ ⟨n,ov i0++csl,obi i0⟩ ρ)
 (h:∀i,Inv i→bu P GL n0 Pn c (Ex.seq (fun σ'=>sS n0 (fun i=>⟨n,ov i++csl,obi i⟩) (fun j=>Inv j∧m j<m i) σ') Q) ⟨n,ov i++csl,obi i⟩):bu P GL n0 Pn (.loop c) Q ⟨n,sl,ob⟩:=
 zj (fun i=>⟨n,ov i++csl,obi i⟩) Inv m ⟨i0,_,hI,hm⟩ h
theorem CD{sl':List (Nat×SV)}{ρ:List Nat}(hp:pre 0 n0 ρ=true)(hnd:fA ρ=true)(hno:fV ob'=true)(hob:ch ob ρ ob' ρ)(hsl:oD ob ρ sl sl'):pH n0 ⟨n,sl,ob⟩ ⟨n,sl',ob'⟩ ρ:=
 ⟨rfl,hp,hnd,fun j k f dn cur hj=>absurd hj (fe hno j k f dn cur),hob,hsl⟩
variable {c1 c2:Code}
theorem zl(S:ι→St)(Inv:ι→Prop)(h1:bu P GL n0 Pn c1 (Ex.seq (fun σ'=>sS n0 S Inv σ') Q) σ)(h2:∀i,Inv i→bu P GL n0 Pn c2 Q (S i)):bu P GL n0 Pn c1 (Ex.seq (fun σ'=>bu P GL n0 Pn c2 Q σ') Q) σ:=
 fun B hB a w hr=>wp_mono (h1 B hB a w hr) fun e a' w' hl=>by
  cases e with
  |normal=>
   obtain⟨σ',hr',j,ρ,hj,hj2⟩:=hl;exact⟨_,hj2.rel hB hr',h2 j hj⟩
  |exit id=>exact hl
  |goto l=>exact hl
  |ret=>exact hl
  |panic c=>exact hl
  |outgrown=>exact hl
theorem Eb(ov:ι→List (Nat×SV))(cs:List Nat)(Inv:ι→Prop)(hk:jb sl cs=some csl)
 (h1:bu P GL n0 Pn c1 (Ex.seq (fun σ'=>sS n0 (fun i=>⟨n,ov i++csl,ob⟩) Inv σ') Q) ⟨n,sl,ob⟩) (h2:∀i,Inv i→bu P GL n0 Pn c2 Q ⟨n,ov i++csl,ob⟩):bu P GL n0 Pn c1 (Ex.seq (fun σ'=>bu P GL n0 Pn c2 Q σ') Q) ⟨n,sl,ob⟩:=
 zl (fun i=>⟨n,ov i++csl,ob⟩) Inv h1 h2
theorem Ea(ov:ι→List (Nat×SV))(obi:ι→List Ob)(cs:List Nat)(Inv:ι→Prop)(hk:jb sl cs=some csl)
 (h1:bu P GL n0 Pn c1 (Ex.seq (fun σ'=>sS n0 (fun i=>⟨n,ov i++csl,obi i⟩) Inv σ') Q) ⟨n,sl,ob⟩) (h2:∀i,Inv i→bu P GL n0 Pn c2 Q ⟨n,ov i++csl,obi i⟩):bu P GL n0 Pn c1 (Ex.seq (fun σ'=>bu P GL n0 Pn c2 Q σ') Q) ⟨n,sl,ob⟩:=
 zl (fun i=>⟨n,ov i++csl,obi i⟩) Inv h1 h2
end
end Go.Vd
namespace Go.Vd
open Go Go.RowKit
section
variable {P:Program} {GL:Nat→List D} {o:Oper} {σ:St} {K:SV→List Nat→Prop}
variable {fn:Fn} {first caps:Array Operand} {m:List SV}
theorem LV{l:List SV}(ho:o.op=.makeFunc fn first caps)(h1:De GL σ.sl first.toList=some l)(h2:De GL σ.sl caps.toList=some m)(hK:K (.fn fn l m) []):ak P GL o σ K:=eg fun B g a w hr=>by
 refine⟨.fn fn l m,.func fn ⟨first.toList.map a.eval⟩ ⟨caps.toList.map a.eval⟩,fun w'=>?_,⟨_,_,rfl,q8 hr h1,q8 hr h2⟩,hK⟩;have e:∀x:Array Operand,x.map a.eval=⟨x.toList.map a.eval⟩:=fun x=>by apply Array.ext';simp
 simp only[execOp,ho,Instr.makeFunc,e,Sem.run_bind,Sem.run_pure,Result.andThen_ok]
theorem Be{l:List SV}(hK:K (.fn fn l m) [])(ho:o.op=.makeFunc fn first caps:=by exact rfl)(h1:De GL σ.sl first.toList=some l:=by exact rfl)(h2:De GL σ.sl caps.toList=some m:=by exact rfl):ak P GL o σ K:=LV ho h1 h2 hK
def rB(P:Program)(T:TypeId):Bool:=match P.underlying T with
 |some (.interface _)=>true
 |_=>false
variable {T:TypeId}
theorem JW(h:rB P T=true):∃ms,P.underlying T=some (.interface ms):=by
 unfold rB at h;split at h
 ·exact ⟨_,by assumption⟩
 ·cases h
variable {e:TypeId}
theorem BR(hp:P.underlying T=some (.pointer e))(p:Option Addr)(w:World):(Op.equal T (.pointer p) (.pointer none)).run P w=.ok p.isNone w:=by
 have h:∀d:Nat,(Op.equalIn (d+1) T (.pointer p) (.pointer none)).run P w=.ok p.isNone w:=fun d=>by
  cases p<;>simp[Op.equalIn,run_underlying hp]
 simp[Op.equal,Op.maxDepth,h 9999]
variable {T':TypeId} {x:Operand}
theorem tJ{op:BinOp}{s:SV}{b:Bool}{p:Option Addr→Prop}(ho:o.op=.binOp op T x (.const (.pointer none)) T')(hx:bT GL σ.sl x=some s)(hop:op=.eql∨op=.neq)(hs:∀g y,s.Den g y→∃q,y=.pointer q∧q.isNone=b)(hp:P.underlying T=some (.pointer e))(hK:K (.d (.v (.bool (if op=.eql then b else !b)))) []):ak P GL o σ K:=eg fun B g a w hr=>by
 obtain⟨q,hq,hb⟩:=hs _ _ (hr.fk hx);refine⟨.d (.v (.bool (if op=.eql then b else !b))),_,fun w'=>?_,rfl,hK⟩;have he:=BR hp q w';have hc:a.eval (.const (.pointer none))=.pointer none:=rfl;rcases hop with rfl|rfl
 ·simp only[execOp,ho,Sem.run_bind,hq,hc,gm (P:=P) (show(Value.pointer q).oneCell'=true from rfl) (show ¬(Value.pointer q=.nilIface∧Value.pointer none=.nilIface) by simp)];simp only[Result.andThen_ok,binOp,Sem.run_bind,he,Sem.run_pure,hb,if_true]
 ·simp only[execOp,ho,Sem.run_bind,hq,hc,gm (P:=P) (show(Value.pointer q).oneCell'=true from rfl) (show ¬(Value.pointer q=.nilIface∧Value.pointer none=.nilIface) by simp)];simp only[Result.andThen_ok,binOp,Sem.run_bind,he,Sem.run_pure,hb];rfl
theorem vw(hp:P.underlying T=some (.pointer e))(ho:o.op=.binOp .eql T x (.const (.pointer none)) T')(hx:bT GL σ.sl x=some (.d (.v (.pointer none))))(hK:K (.d (.v (.bool true))) []):ak P GL o σ K:=
 tJ (b:=true) (p:=fun _=>True) ho hx (.inl rfl) (fun g y hd=>⟨none,hd,rfl⟩) hp hK
theorem E6(hp:P.underlying T=some (.pointer e))(hK:K (.d (.v (.bool true))) [])(ho:o.op=.binOp .eql T x (.const (.pointer none)) T':=by exact rfl)(hx:bT GL σ.sl x=some (.d (.v (.pointer none))):=by exact rfl):ak P GL o σ K:=vw hp ho hx hK
variable {i off:Nat}
theorem C4(hp:P.underlying T=some (.pointer e))(ho:o.op=.binOp .eql T x (.const (.pointer none)) T')(hx:bT GL σ.sl x=some (.cb i off))(hK:K (.d (.v (.bool false))) []):ak P GL o σ K:=
 tJ (b:=false) (p:=fun _=>True) ho hx (.inl rfl) (fun g y hd=>by obtain⟨b,_,e⟩:=hd;exact⟨_,e,rfl⟩) hp hK
theorem xN(hp:P.underlying T=some (.pointer e))(hK:K (.d (.v (.bool false))) [])(ho:o.op=.binOp .eql T x (.const (.pointer none)) T':=by exact rfl)(hx:bT GL σ.sl x=some (.cb i off):=by exact rfl):ak P GL o σ K:=C4 hp ho hx hK
theorem C3(hp:P.underlying T=some (.pointer e))(ho:o.op=.binOp .neq T x (.const (.pointer none)) T')(hx:bT GL σ.sl x=some (.cb i off))(hK:K (.d (.v (.bool true))) []):ak P GL o σ K:=
 tJ (b:=false) (p:=fun _=>True) ho hx (.inr rfl) (fun g y hd=>by obtain⟨b,_,e⟩:=hd;exact⟨_,e,rfl⟩) hp hK
variable {l:List D}
theorem xJ(hp:P.underlying T=some (.pointer e))(ho:o.op=.binOp .eql T x (.const (.pointer none)) T')(hx:bT GL σ.sl x=some (.d (.cp l)))(hK:K (.d (.v (.bool false))) []):ak P GL o σ K:=
 tJ (b:=false) (p:=fun _=>True) ho hx (.inl rfl) (fun g y hd=>by obtain⟨b,off,e,_⟩:=hd;exact⟨_,e,rfl⟩) hp hK
theorem HV(hp:P.underlying T=some (.pointer e))(hK:K (.d (.v (.bool false))) [])(ho:o.op=.binOp .eql T x (.const (.pointer none)) T':=by exact rfl)(hx:bT GL σ.sl x=some (.d (.cp l)):=by exact rfl):ak P GL o σ K:=xJ hp ho hx hK
theorem xI(hp:P.underlying T=some (.pointer e))(ho:o.op=.binOp .neq T x (.const (.pointer none)) T')(hx:bT GL σ.sl x=some (.d (.cp l)))(hK:K (.d (.v (.bool true))) []):ak P GL o σ K:=
 tJ (b:=false) (p:=fun _=>True) ho hx (.inr rfl) (fun g y hd=>by obtain⟨b,off,e,_⟩:=hd;exact⟨_,e,rfl⟩) hp hK
end
section
variable {P:Program} {GL:Nat→List D} {n0:Nat} {Pn:pG}
variable {n t:Nat} {sl:List (Nat×SV)} {ob:List Ob}
theorem tx{o:Oper}{K:St→Prop}{T:Nat→Prop}(hd:o.dst=some t)(ht:Nat.blt t n=true)
 (h:∀B g a w,cE GL B ⟨n,sl,ob⟩ g a w→∃s y,(execOp a.eval o).run P w=.ok (.value y) w∧s.Den g y∧K ⟨n,(t,s)::sl,ob⟩):di P GL n0 Pn T o ⟨n,sl,ob⟩ K:=fun B hB g a w hr next Q hK hP=>by
 obtain⟨s,y,h1,h2,h3⟩:=h B g a w hr;unfold Oper.wp;rw[h1];show next (a.put o.dst y) w
 rw[hd];exact hK _ _ _ _ (hr.ri ht h2) (tU.refl _ _ _ _) h3
def Pw:Operand→Bool
 | .func _=>true
 |_=>false
variable {x:Operand}
theorem LI(h:Pw x=false):∀f,x≠ .func f:=fun f e=>by subst e;cases h
variable {m:List SV}
theorem wW{o:Oper}{K:St→Prop}{f:FuncId}{args:Array Operand}{ts:Array TypeId}{obc:List Ob}{argsc first caps svs svs1 svs2:List SV}{Q:Out→List Ob→Prop}(hc:ai P f=true)(hnf:Pw x=false)(ho:o.op=.call { callee:=.value x,args:=args,argTypes:=ts })
 (hx:bT GL sl x=some (.fn (.func f) first caps)) (ha:De GL sl args.toList=some svs) (h1:ib first svs=some svs1) (h2:ib svs1 caps=some svs2) (hdst:o.dst=some t) (htn:Nat.blt t n=true) (ht:et P GL f obc argsc Q) (ix:List Nat) (hfit:ch ob ix obc ix) (hnd:fA ix=true) (hno:fV obc=true) (hit:oT ix ob=true) (hra:ml ix argsc=some m) (hfa:ic ob svs2 m)
 (hret:∀s ob',Q (.ret s) ob'→∃obr ob1 obn sl1 s',nW (names ix ob.length (ob'.length-ix.length)) ob'=some obr∧rl ix ob=some ob1∧iO ix ob1 obr=some obn∧uE ix sl=some sl1∧s.ja (names ix ob.length (ob'.length-ix.length))=some s'∧K ⟨n,(t,s')::sl1,obn⟩)
 (hpan:∀s ob',Q (.pz s) ob'→∃obr ob1 obn sl1 s',nW (names ix ob.length (ob'.length-ix.length)) ob'=some obr∧rl ix ob=some ob1∧iO ix ob1 obr=some obn∧uE ix sl=some sl1∧s.ja (names ix ob.length (ob'.length-ix.length))=some s'∧Pn.pn s' sl1 obn):di P GL n0 Pn (· ∈ix) o ⟨n,sl,ob⟩ K:=
 wX ht ix (Ec hc (LI hnf) ho hx ha h1 h2) hfit hnd hno (mZ hit) hra hfa (fun s ob' hq=>by
  obtain⟨obr,ob1,obn,sl1,s',e1,e2,e3,e4,e5,e6⟩:=hret s ob' hq;exact⟨obr,ob1,obn,sl1,s',e1,e2,e3,e4,e5,fun t' e=>by rw[hdst] at e;cases e;exact⟨htn,e6⟩,fun e=>by rw[hdst] at e;cases e⟩) hpan
def nO(s:ByteArray):List (List D):=s.data.toList.map fun b=>[.v (.int .u8 b.toNat)]
theorem Fq(s:ByteArray):(nO s).length=s.size:=by simp[nO]
theorem Iy{s:ByteArray}(h:s≠ .empty):nO s≠[]:=fun e=>h (by
 have:=congrArg List.length e;rw[Fq] at this;apply ByteArray.ext;apply Array.ext';have h2:s.data.toList.length=0:=this;rw[List.eq_nil_of_length_eq_zero h2];rfl)
end
end Go.Vd
namespace Go.Vd
open Go Go.RowKit
mutual
def SV.fz(i:Nat)(q:Option (Nat×List (List D)))(ds:List D):SV→Option SV
 | .cb j off=>cond (Nat.beq j i) ((gS off ds).bind fun l=>some (.d (.cp l))) (some (.cb j off))
 | .agg l=>(LL i q ds l).bind fun l'=>some (.agg l')
 | .bZ l=>(LL i q ds l).bind fun l'=>some (.bZ l')
 | .fn f a b=>(LL i q ds a).bind fun a'=>(LL i q ds b).bind fun b'=>some (.fn f a' b')
 | .me T s=>(s.fz i q ds).bind fun s'=>some (.me T s')
 | .d x=>some (.d x)
 | .own j k ls=>some (.own j k ls)
 | .map j=>some (.map j)
 | .rp j=>some (.rp j)
 | .arr j n=>cond (Nat.beq j i) (q.bind fun r=>some (.d (.sl r.1 r.2))) (some (.arr j n))
 | .bp j off=>cond (Nat.beq j i) (some .gG) (some (.bp j off))
 | .yF k ls=>some (.yF k ls)
 | .gG=>some .gG
def LL(i:Nat)(q:Option (Nat×List (List D)))(ds:List D):List SV→Option (List SV)
 |[]=>some []
 |s::r=>(s.fz i q ds).bind fun s'=>(LL i q ds r).bind fun r'=>some (s'::r')
end
def sn(i:Nat)(q:Option (Nat×List (List D)))(ds:List D):List (Nat×SV)→Option (List (Nat×SV))
 |[]=>some []
 |(k,s)::r=>(s.fz i q ds).bind fun s'=>(sn i q ds r).bind fun r'=>some ((k,s')::r')
def Ob.fz(i:Nat)(q:Option (Nat×List (List D)))(ds:List D):Ob→Option Ob
 | .cells l ty=>(LL i q ds l).bind fun l'=>some (.cells l' ty)
 | .row e k=>some (.row e k)
 | .bX e k=>some (.bX e k)
 | .buf e k ls q=>some (.buf e k ls q)
 | .fK f=>some (.fK f)
 | .cV f=>some (.cV f)
 | .iI o k=>some (.iI o k)
 | .jM j f dn cur=>some (.jM j f dn cur)
 | .dead=>some .dead
def sH(i:Nat)(q:Option (Nat×List (List D)))(ds:List D):List Ob→Option (List Ob)
 |[]=>some []
 |o::r=>(o.fz i q ds).bind fun o'=>(sH i q ds r).bind fun r'=>some (o'::r')
structure Fz (i:Nat) (q:Option (Nat×List (List D))) (ds:List D) (g g':Gh):Prop where
 m:fP g.m g'.m
 gs:∀(j:Nat) q,g.gs[j]? =some q→g'.gs[j]? =some q
 cp:∀b,g.gs[i]? =some (.loc b)→eX g'.m b 0 ds
 ar:∀r n y,q=some r→(SV.arr i n).Den g y→(D.sl r.1 r.2).Den g'.m y
mutual
theorem SV.EU{i:Nat}{q:Option (Nat×List (List D))}{ds:List D}{g g':Gh}(h:Fz i q ds g g'):∀(s:SV) {s':SV} {y:Value},s.fz i q ds=some s'→s.Den g y→s'.Den g' y
 | .cb j off,s',y,hr,hd=>by
  obtain⟨b,hb,e⟩:=hd;simp only[SV.fz] at hr;cases hj:Nat.beq j i with
  |false=>
   rw[hj] at hr;simp only[cond_false,Option.some.injEq] at hr;subst hr;exact⟨b,h.gs _ _ hb,e⟩
  |true=>
   rw[hj] at hr;simp only[cond_true,Option.bind_eq_some_iff,Option.some.injEq] at hr;obtain⟨l,h1,rfl⟩:=hr;have hji:j=i:=by simpa using hj
   subst hji;refine⟨b,off,e,?_⟩;rw[← (lJ h1).1];have:=(h.cp b hb).drop off
   rwa [Nat.zero_add] at this
 | .agg l,s',y,hr,⟨vs,e,hd⟩=>by
  simp only[SV.fz,Option.bind_eq_some_iff,Option.some.injEq] at hr;obtain⟨l',h1,rfl⟩:=hr;exact⟨vs,e,qZ h l h1 hd⟩
 | .bZ l,s',y,hr,⟨vs,e,hd⟩=>by
  simp only[SV.fz,Option.bind_eq_some_iff,Option.some.injEq] at hr;obtain⟨l',h1,rfl⟩:=hr;exact⟨vs,e,qZ h l h1 hd⟩
 | .fn f a b,s',y,hr,⟨vs,us,e,d1,d2⟩=>by
  simp only[SV.fz,Option.bind_eq_some_iff,Option.some.injEq] at hr;obtain⟨a',h1,b',h2,rfl⟩:=hr;exact⟨vs,us,e,qZ h a h1 d1,qZ h b h2 d2⟩
 | .me T s,s',y,hr,⟨x,e,hd⟩=>by
  simp only[SV.fz,Option.bind_eq_some_iff,Option.some.injEq] at hr;obtain⟨t,h1,rfl⟩:=hr;exact⟨x,e,SV.EU h s h1 hd⟩
 | .d x,s',y,hr,hd=>by simp[SV.fz] at hr;subst hr;exact D.Den.mono h.m x hd
 | .own j k ls,s',y,hr,hd=>by simp[SV.fz] at hr;subst hr;exact SV.Den.mono ⟨h.m,h.gs⟩ _ hd
 | .map j,s',y,hr,hd=>by simp[SV.fz] at hr;subst hr;exact SV.Den.mono ⟨h.m,h.gs⟩ _ hd
 | .arr j n,s',y,hr,hd=>by
  simp only[SV.fz] at hr;cases hj:Nat.beq j i with
  |false=>
   rw[hj] at hr;simp only[cond_false,Option.some.injEq] at hr;subst hr;exact SV.Den.mono ⟨h.m,h.gs⟩ _ hd
  |true=>
   rw[hj] at hr;simp only[cond_true,Option.bind_eq_some_iff,Option.some.injEq] at hr;obtain⟨r,h1,rfl⟩:=hr;have hji:j=i:=by simpa using hj
   subst hji;exact h.ar r n y h1 hd
 | .bp j off,s',y,hr,hd=>by
  simp only[SV.fz] at hr;cases hj:Nat.beq j i with
  |false=>
   rw[hj] at hr;simp only[cond_false,Option.some.injEq] at hr;subst hr;exact SV.Den.mono ⟨h.m,h.gs⟩ _ hd
  |true=>
   rw[hj] at hr;simp only[cond_true,Option.some.injEq] at hr;subst hr;trivial
 | .rp j,s',y,hr,hd=>by simp[SV.fz] at hr;subst hr;exact SV.Den.mono ⟨h.m,h.gs⟩ _ hd
 | .yF k ls,s',y,hr,hd=>by simp[SV.fz] at hr;subst hr;exact SV.Den.mono ⟨h.m,h.gs⟩ _ hd
 | .gG,s',y,hr,hd=>by simp[SV.fz] at hr;subst hr;trivial
theorem qZ{i:Nat}{q:Option (Nat×List (List D))}{ds:List D}{g g':Gh}(h:Fz i q ds g g'):∀(l:List SV) {l':List SV} {vs:List Value},LL i q ds l=some l'→bC g l vs→bC g' l' vs
 |[],l',vs,hr,hd=>by simp[LL] at hr;subst hr;exact hd
 |s::r,l',vs,hr,⟨x,v',e,h1,h2⟩=>by
  simp only[LL,Option.bind_eq_some_iff,Option.some.injEq] at hr;obtain⟨s',hs,r',hr',rfl⟩:=hr;exact⟨x,v',e,SV.EU h s hs h1,qZ h r hr' h2⟩
end
theorem tG{i:Nat}{q:Option (Nat×List (List D))}{ds:List D}{g g':Gh}(h:Fz i q ds g g'):∀{l l':List (Nat×SV)},sn i q ds l=some l'→∀{t:Nat} {y:Value},(oK t l).Den g y→(oK t l').Den g' y
 |[],l',hr,t,y,hd=>by simp[sn] at hr;subst hr;trivial
 |(k,s)::r,l',hr,t,y,hd=>by
  simp only[sn,Option.bind_eq_some_iff,Option.some.injEq] at hr;obtain⟨s',hs,r',hr',rfl⟩:=hr;rw[eM] at hd ⊢;by_cases e:k=t
  ·rw [if_pos e] at hd ⊢;exact SV.EU h s hs hd
  ·rw [if_neg e] at hd ⊢;exact tG h hr' hd
theorem tH{i:Nat}{q:Option (Nat×List (List D))}{ds:List D}:∀{l l':List Ob},sH i q ds l=some l'→l'.length=l.length∧∀(j:Nat) o',l'[j]? =some o'→∃o,l[j]? =some o∧o.fz i q ds=some o'
 |[],l',h=>by simp[sH] at h;subst h;simp
 |o::r,l',h=>by
  simp only[sH,Option.bind_eq_some_iff,Option.some.injEq] at h;obtain⟨a',h1,b',h2,rfl⟩:=h;have ih:=tH h2;refine⟨by simp[ih.1],fun j o' hj=>?_⟩;cases j with
  |zero=>simp at hj;subst hj;exact⟨o,rfl,h1⟩
  |succ j=>simpa using ih.2 j o' (by simpa using hj)
variable {i:Nat} {ds:List D} {g:Gh}
theorem Ob.pF{q:Option (Nat×List (List D))}{g':Gh}(h:Fz i q ds g g'){o o':Ob}(hr:o.fz i q ds=some o'):iV g g' o o'∧(∀ j f dn cur,o'=.jM j f dn cur→o=o')∧(∀ f,o=.fK f→o'=.fK f):=by
 cases o<;>simp only[Ob.fz,Option.bind_eq_some_iff,Option.some.injEq] at hr
 case cells l ty=>
  obtain⟨l',h1,rfl⟩:=hr;exact⟨⟨rfl,fun vs hd=>qZ h l h1 hd⟩,(fun _ _ _ _ e=>by cases e),(fun _ e=>by cases e)⟩
 all_goals (subst hr;exact⟨iV.refl ⟨h.m,h.gs⟩ _,(fun _ _ _ _ _=>rfl),(fun _ e=>e)⟩)
section
variable {P:Program} {GL:Nat→List D} {n0:Nat} {Pn:pG}
variable {B:Bs} {n:Nat} {sl sl':List (Nat×SV)} {ob ob1:List Ob} {a:Act} {w:World} {cs:List SV} {ty:TypeId}
theorem cE.C1(h:cE GL B ⟨n,sl,ob⟩ g a w)(ho:ob[i]? =some (.cells cs ty))(hcs:ub cs=some ds)(hone:gO cs=true)
 (hsl:sn i none ds sl=some sl') (hob:sH i none ds ob=some ob1):∃m',fP g.m m'∧cE GL B ⟨n,sl',ob1.set i .dead⟩ ⟨m',g.gs⟩ a w:=by
 obtain⟨pl,hpl⟩:=h.store.place ho;have hok:=h.store.gX _ _ _ ho hpl;cases pl with
 |row b c k=>exact hok.elim
 |loc b=>
  obtain⟨vs,hh,hd,hmn⟩:=hok;have hdd:=bC.gW _ hd hcs;have hone':=jK hone hd;have hmle:fP g.m (eV g.m b vs):=fP.set fun o x hx=>by rw[hmn] at hx;cases hx
  have hF:Fz i none ds g ⟨eV g.m b vs,g.gs⟩:=⟨hmle,fun _ _ h=>h,fun c hc=>by
   rw[hpl] at hc;cases hc;refine eX.tA (dI.mono hmle _ hdd) fun j x hx=>?_
   show eV _ _ _ _ _=_;unfold eV;rw[if_pos rfl,Nat.zero_add];exact hx,fun r n y hq=>by cases hq⟩
  have hget:=tH hob;have hil:=(List.getElem?_eq_some_iff.1 ho).1;have hlen:=h.store.len;have hneb:∀(j:Nat) oj pj c,j≠i→ob[j]? =some oj→g.gs[j]? =some pj→cP oj pj c→c≠b:=fun j oj pj c hj h1 h2 h3 e=>by
   subst e;exact hj (h.store.oz j i oj _ pj _ c h1 ho h2 hpl h3 rfl)
  have hbl:b<w.heap.size:=(Array.getElem?_eq_some_iff.1 hh).1;refine⟨eV g.m b vs,hmle,h.defers,h.size,fun t=>tG hF hsl (h.da t),?_,?_⟩
  ·refine h.store.step (p:=fun j=>j=i) hmle (fun _ _ h=>h) (fun _ _ _ h=>h) (fun c off x hx=>?_) (by simp[hget.1,hlen]) (fun j o1 hj h1=>?_) (fun j k f dn cur h1=>?_) (fun j k f dn cur hj h1 hk=>?_)
    (fun j o1 q c hj h1 h2 h3=>⟨rfl,fun off hn=>?_⟩) (fun j o1 hj h1=>?_) (fun j o1 q c hj h1 h2 h3=>?_) (fun i j oi oj pi pj b hi hj _ _ _ _ _ _=>hi.trans hj.symm)
   ·simp only[eV] at hx;by_cases hcb:c=b
    ·subst hcb;rw[if_pos rfl] at hx;refine⟨?_,hone' x (List.mem_of_getElem? hx)⟩;simp only[World.cell?,hh]
     simpa using hx
    ·rw [if_neg hcb] at hx;exact h.store.sat c off x hx
   ·rw [List.getElem?_set_ne (Ne.symm hj)] at h1;obtain⟨o,e1,e2⟩:=hget.2 j o1 h1;exact⟨o,e1,(Ob.pF hF e2).1⟩
   ·by_cases hj:j=i
    ·subst hj;rw[List.getElem?_set_self (by rw[hget.1];exact hil)] at h1;cases h1
    ·rw [List.getElem?_set_ne (Ne.symm hj)] at h1;obtain⟨o,e1,e2⟩:=hget.2 j _ h1;have e3:=(Ob.pF hF e2).2.1 _ _ _ _ rfl;subst e3;have e4:=h.store.eD j k f dn cur e1;have hk:k≠i:=fun e=>by subst e;rw[ho] at e4;cases e4
     rw[List.getElem?_set_ne (Ne.symm hk)];have hkl:=(List.getElem?_eq_some_iff.1 e4).1;obtain⟨o5,e5,e6⟩:=hget.2 k ob1[k] (by simp[hget.1,hkl]);rw[e4] at e5;cases e5;rw[List.getElem?_eq_getElem (by rw[hget.1];exact hkl),(Ob.pF hF e6).2.2 f rfl]
   ·rw [List.getElem?_set_ne (Ne.symm hj)] at h1;obtain⟨o,e1,e2⟩:=hget.2 j _ h1;have e3:=(Ob.pF hF e2).2.1 _ _ _ _ rfl;subst e3 hk;have e4:=h.store.eD j k f dn cur e1;rw[ho] at e4;cases e4
   ·show eV _ _ _ _ _=_;unfold eV;rw[if_neg (hneb j o1 q c hj h1 h2 h3)];exact hn
   ·subst hj;rw[List.getElem?_set_self (by rw[hget.1];exact hil)] at h1;cases h1;exact⟨_,hpl,trivial⟩
   ·subst hj;rw[List.getElem?_set_self (by rw[hget.1];exact hil)] at h1;cases h1;simp[cP,dU] at h3
  ·refine h.fI.step (X:=fun c=>c=b) (Fr.refl _ w) (fun c e=>by subst e;exact h.fI.own i _ _ c ho hpl rfl) hmle (fun c off x hx hn=>?_) (fun j o1 p c h1 h2 h3=>?_) (fun _ _ h=>h)
   ·simp only[eV] at hx;by_cases hcb:c=b
    ·exact .inl hcb
    ·rw [if_neg hcb,hn] at hx;cases hx
   ·by_cases hj:j=i
    ·subst hj;rw[List.getElem?_set_self (by rw[hget.1];exact hil)] at h1;cases h1;simp[cP,dU] at h3
    ·rw [List.getElem?_set_ne (Ne.symm hj)] at h1;obtain⟨o,e1,e2⟩:=hget.2 j o1 h1;refine .inl (h.fI.own j o p c e1 h2 ?_);cases o<;>simp only[Ob.fz,Option.bind_eq_some_iff,Option.some.injEq] at e2
     case cells l ty=>obtain⟨l',_,rfl⟩:=e2;cases p<;>exact h3
     all_goals (subst e2;exact h3)
theorem cE.Gq(h:cE GL B ⟨n,sl,ob⟩ g a w)(ho:ob[i]? =some (.cells cs ty))(hcs:ub cs=some ds)(hone:gO cs=true)
 (hsl:sn i none ds sl=some sl') (hob:sH i none ds ob=some ob1):∃g',cE GL B ⟨n,sl',ob1.set i .dead⟩ g' a w:=by
 obtain⟨m',_,h2⟩:=h.C1 ho hcs hone hsl hob;exact⟨_,h2⟩
variable {Q:Ex→St→Prop} {ob':List Ob}
theorem Em{ops l:List Oper}(i:Nat)(ho:cY i ob=some (.cells cs ty))(hcs:ub cs=some ds)(hone:gO cs=true)(hsl:sn i none ds sl=some sl')(hob:sH i none ds ob=some ob1)(hob':gT i .dead ob1=some ob')
 (h:bA P GL n0 Pn ops l Q ⟨n,sl',ob'⟩):bA P GL n0 Pn ops l Q ⟨n,sl,ob⟩:=fun B hB a w ⟨g,hr⟩=>by
 obtain⟨g',hr'⟩:=hr.Gq (bR ho) hcs hone hsl hob;rw[← (eT hob').1] at hr';exact h B hB a w ⟨g',hr'⟩
theorem BQ{c:Code}(i:Nat)(ho:cY i ob=some (.cells cs ty))(hcs:ub cs=some ds)(hone:gO cs=true)(hsl:sn i none ds sl=some sl')(hob:sH i none ds ob=some ob1)(hob':gT i .dead ob1=some ob')
 (h:bu P GL n0 Pn c Q ⟨n,sl',ob'⟩):bu P GL n0 Pn c Q ⟨n,sl,ob⟩:=fun B hB a w ⟨g,hr⟩=>by
 obtain⟨g',hr'⟩:=hr.Gq (bR ho) hcs hone hsl hob;rw[← (eT hob').1] at hr';exact h B hB a w ⟨g',hr'⟩
def nN(P:Program)(T:TypeId):Bool:=match P.underlying T with
 |some (.interface _)=>false
 |some _=>true
 |none=>false
variable {T:TypeId}
theorem uo(h:nN P T=true)(x:Value)(w:World):(Instr.makeInterface T x).run P w=.ok (.iface T x) w:=by
 unfold nN at h;cases hu:P.underlying T with
 |none=>rw[hu] at h;cases h
 |some td=>
  rw[hu] at h;cases td<;>first
   |(cases h;done)
   |simp only[Instr.makeInterface,Sem.run_bind,run_underlying hu,Result.andThen_ok,Sem.run_pure]
variable {o:Oper} {σ:St} {K:SV→List Nat→Prop} {x:Operand} {d:D}
theorem E0(hc:nN P T=true)(ho:o.op=.makeInterface T x)(hx:bT GL σ.sl x=some (.d d))(hK:K (.d (.me T d)) []):ak P GL o σ K:=eg fun B g a w hr=>
 ⟨.d (.me T d),.iface T (a.eval x),fun w'=>by simp only[execOp,ho,Sem.run_bind,uo hc,Result.andThen_ok,Sem.run_pure],⟨_,rfl,hr.fk hx⟩,hK⟩
theorem HW(hK:K (.d (.me T d)) [])(ho:o.op=.makeInterface T x:=by exact rfl)(hx:bT GL σ.sl x=some (.d d):=by exact rfl)(hc:nN P T=true:=by kernel_rfl):ak P GL o σ K:=E0 hc ho hx hK
variable {s:SV}
theorem Ke(hc:nN P T=true)(ho:o.op=.makeInterface T x)(hx:bT GL σ.sl x=some s)(hK:K (.me T s) []):ak P GL o σ K:=eg fun B g a w hr=>
 ⟨.me T s,.iface T (a.eval x),fun w'=>by simp only[execOp,ho,Sem.run_bind,uo hc,Result.andThen_ok,Sem.run_pure],⟨_,rfl,hr.fk hx⟩,hK⟩
theorem L0(hK:K (.me T s) [])(ho:o.op=.makeInterface T x:=by exact rfl)(hx:bT GL σ.sl x=some s:=by exact rfl)(hc:nN P T=true:=by kernel_rfl):ak P GL o σ K:=Ke hc ho hx hK
theorem jA{Q:SV→List Ob→Prop}(ρ:List Nat)(ob':List Ob)(hp:pre 0 n0 ρ=true)(hnd:fA ρ=true)(hno:fV ob'=true)(hob:ch ob ρ ob' ρ)(hq:Q (.d d) ob'):KZ n0 Q (.d d) ob:=
 ⟨ρ,.d d,ob',.d d,hp,hnd,hno,hob,rfl,.refl _,hq⟩
variable {U:TypeId}
theorem JG{K:St→Prop}{T:Nat→Prop}(ho:o.op=.panic x)(hx:bT GL sl x=some (.d (.me U d)))(h:Pn.pn (.d (.me U d)) sl ob):di P GL n0 Pn T o ⟨n,sl,ob⟩ K:=fun B hB g a w hr next Q hK hP=>by
 have hd:=hr.fk hx;obtain⟨y,hy,hdy⟩:=hd;have hrun:(execOp a.eval o).run P w=.halt (.panic (.iface U y)) w:=by
  simp only[execOp,ho,hy,Instr.panic];rfl
 unfold Oper.wp;rw[hrun,Oper.upon_panic];refine hP _ _ ⟨g,sl,ob,.iface U y,.d (.me U d),rfl,hr.store,hr.fI,⟨y,rfl,hdy⟩,hr.da,h⟩
theorem Lz{K:St→Prop}{T:Nat→Prop}(h:Pn.pn (.d (.me U d)) sl ob)(ho:o.op=.panic x:=by exact rfl)(hx:bT GL sl x=some (.d (.me U d)):=by exact rfl):di P GL n0 Pn T o ⟨n,sl,ob⟩ K:=JG ho hx h
end
end Go.Vd
namespace Go.Vd
open Go Go.RowKit
inductive Um where
 |ret
 |pz (d:D) (r:Bool)
def Um.Den(m:Mem):Um→FrameMode→Prop
 | .ret,u=>u=.returning
 | .pz d r,u=> ∃v,d.Den m v∧u=.panicking [{ v:=v,recovered:=r }]
def Um.settle:Um→Um
 | .ret=>.ret
 | .pz _ true=>.ret
 | .pz d false=>.pz d false
variable {m:Mem} {U:Um} {u:FrameMode}
theorem Um.D7(h:U.Den m u):U.settle.Den m (Go.settle u):=by
 match U,h with
 | .ret,h=>cases h;rfl
 | .pz d true,⟨v,_,h2⟩=>subst h2;rfl
 | .pz d false,⟨v,h1,h2⟩=>subst h2;exact⟨v,h1,rfl⟩
theorem Um.Den.ne(h:U.Den m u):u≠ .run:=by
 match U,h with
 | .ret,h=>cases h;simp
 | .pz d r,⟨v,_,h2⟩=>subst h2;simp
theorem Um.Den.to{m':Mem}(hm:∀(d:D) v,d.Den m v→d.Den m' v)(h:U.Den m u):U.Den m' u:=by
 match U,h with
 | .ret,h=>exact h
 | .pz d r,⟨v,h1,h2⟩=>exact⟨v,hm _ _ h1,h2⟩
structure OF where
 f:FuncId
 args:List SV
def JC(k:Nat):SV→Bool
 | .d _=>true
 | .cb i _=>Nat.blt i k
 |_=>false
def Cd(k:Nat):List SV→Bool
 |[]=>true
 |s::r=>JC k s&&Cd k r
variable {s:SV}
theorem Hk{k:Nat}{g g':Gh}(hm:fP g.m g'.m)(hat:∀(i b:Nat),i<k→g.gs[i]? =some (.loc b)→g'.gs[i]? =some (.loc b)){y:Value}(hp:JC k s=true)(hd:s.Den g y):s.Den g' y:=by
 cases s<;>simp only[JC,Bool.false_eq_true] at hp
 case d x=>exact D.Den.mono hm x hd
 case cb i off=>
  obtain⟨b,hb,e⟩:=hd;exact⟨b,hat i b (by simpa using hp) hb,e⟩
theorem zv{k:Nat}{g g':Gh}(hm:fP g.m g'.m)(hat:∀(i b:Nat),i<k→g.gs[i]? =some (.loc b)→g'.gs[i]? =some (.loc b)):∀{l:List SV} {vs:List Value},Cd k l=true→bC g l vs→bC g' l vs
 |[],_,_,hd=>hd
 |s::r,_,hp,⟨x,l',e,h1,h2⟩=>by
  simp only[Cd,Bool.and_eq_true] at hp;exact⟨x,l',e,Hk hm hat hp.1 h1,zv hm hat hp.2 h2⟩
def Qv(P:Program)(k:Nat)(g:Gh)(s:OF)(d:Deferred):Prop:=
 ∃fv cap vs,d.target=.fn fv cap∧(∀ w,(invoke d.target d.args).run P w=.ok (.enter s.f ⟨vs⟩) w)∧bC g s.args vs∧Cd k s.args=true
def FM(P:Program)(k:Nat)(g:Gh):List OF→List Deferred→Prop
 |[],l=>l=[]
 |s::r,l=> ∃d l',l=d::l'∧Qv P k g s d∧FM P k g r l'
def Fb(GL:Nat→List D)(g:Gh)(w:World)(ob:List Ob)(Q:Um→List Ob→Prop)(e:Ending)(u':FrameMode)(w':World):Prop:=
 (∃ v,e=.returned v)∧∃g' ob' U',cX GL ob' g' w'∧Aj ⟨g,w,dk ob g,ob.length,[]⟩ ob' g' w'∧ob.length≤ob'.length∧fV ob'=true∧U'.Den g'.m u'∧Q U' ob'
def GQ(P:Program)(GL:Nat→List D)(f:FuncId)(ob:List Ob)(args:List SV)(U:Um)(Q:Um→List Ob→Prop):Prop:=
 ∀(g:Gh) (w:World) (vs:List Value) (u:FrameMode),cX GL ob g w→bC g args vs→U.Den g.m u→
  CallsD P f ⟨vs⟩ u w (Fb GL g w ob Q)
def tl(P:Program)(fn:Func)(R:Ending→World→Prop)(df:List Deferred):Exit→Act→World→Prop
 | .ret,a,w=> ∃ds,a.defers=ds++df∧Leaves P fn a.tmps R ds .returning w
 | .panic c,a,w=> ∃ds,a.defers=ds++df∧Leaves P fn a.tmps R ds (.panicking c) w
 |_,_,_=>False
def PH(P:Program)(GL:Nat→List D)(fn:Func)(Q:Out→List Ob→Prop):Bs→Exit→Act→World→Prop:=
 fun B e a w=>tl P fn (jU GL B Q) B.df e a w
def O0(P:Program)(GL:Nat→List D)(fn:Func)(n0 n1:Nat)(Qf:Out→List Ob→Prop)(dfs:List OF)(U:Um)(σ:St):Prop:=
 ∀B0 B1:Bs,B0.n0=n0→B1.n0=n1→(∀ ob g w,Aj ⟨B1.g,B1.w,B1.X,B1.n0,[]⟩ ob g w→Aj ⟨B0.g,B0.w,B0.X,B0.n0,[]⟩ ob g w)→
  ∀ds u g a w,FM P n1 B1.g dfs ds→U.Den g.m u→cE GL B1 σ g a w→Leaves P fn a.tmps (jU GL B0 Qf) ds u w
def GR(P:Program)(GL:Nat→List D)(fn:Func)(n0:Nat)(Qf:Out→List Ob→Prop)(dfs:List OF)(c:Code)(σ:St):Prop:=
 ∀B0:Bs,B0.n0=n0→∀ds g a w,FM P σ.ob.length g dfs ds→cE GL ⟨B0.g,B0.w,B0.X,B0.n0,ds++B0.df⟩ σ g a w→c.wp P (tl P fn (jU GL B0 Qf) B0.df) a w
section
variable {P:Program} {GL:Nat→List D} {n0 n1:Nat} {fn:Func} {Qf:Out→List Ob→Prop} {dfs:List OF}
variable {c:Code} {σ:St}
theorem Jr{Q:Ex→St→Prop}{pn:SV→List (Nat×SV)→List Ob→Prop}(h:GR P GL fn n0 Qf [] c σ):bu P GL n0 ⟨pn,PH P GL fn Qf⟩ c Q σ:=fun B hB a w ⟨g,hr⟩=>
 wp_mono (h B hB [] g a w rfl hr) fun e a w ht=>by
  cases e with
  |ret=>exact .inl ht
  |panic c=>exact .inl ht
  |normal=>exact ht.elim
  |exit j=>exact ht.elim
  |goto l=>exact ht.elim
  |outgrown=>exact ht.elim
theorem Br{c1 c2:Code}{R:Ending→World→Prop}{df:List Deferred}{a:Act}{w:World}{K:Act→World→Prop}(h1:∀Q:Exit→Act→World→Prop,(∀ a w,K a w→Q .normal a w)→c1.wp P Q a w)(h2:∀a w,K a w→c2.wp P (tl P fn R df) a w):(Code.seq c1 c2).wp P (tl P fn R df) a w:=
 wp_seq (h1 _ fun a w hk=>h2 a w hk)
variable {n id:Nat} {sl:List (Nat×SV)} {ob:List Ob} {o:Oper} {f:FuncId} {svs:List SV}
theorem Ef{args:Array Operand}{ts:Array TypeId}(hc:ai P f=true)(ho:o.op=.defer { callee:=.value (.func f),args:=args,argTypes:=ts })(hg:o.guard=none)(hdst:o.dst=none)
 (ha:De GL sl args.toList=some svs) (hp:Cd ob.length svs=true) (h:GR P GL fn n0 Qf (⟨f,svs⟩::dfs) c ⟨n,sl,ob⟩):GR P GL fn n0 Qf dfs (.seq (.region id [o].toArray false) c) ⟨n,sl,ob⟩:=fun B0 h0 ds g a w hds hr=>by
 let d:Deferred:={ target:=.fn (.func f) #[],args:= #[]++args.map a.eval }
 have hrun:(execOp a.eval o).run P w=.ok (.defer d) w:=by
  simp only[execOp,ho,resolve,Act.eval,Deferred.ofValue,Sem.run_bind,Sem.run_pure,Result.andThen_ok];rfl
 have hd:=q8 hr ha;refine Br (K:=fun a' w'=>a'={ a with defers:=d::a.defers }∧w'=w) (fun Q hQ=>wp_region_list ?_) ?_
 ·simp only;refine wpList_step fun K hK=>?_
  simp only[Region.wanted,hg,if_true];unfold Oper.wp;rw[hrun,Oper.upon_defer,hdst];exact hK _ _ (wpList_nil (hQ _ _ ⟨rfl,rfl⟩))
 ·rintro a' w' ⟨rfl,rfl⟩;refine h B0 h0 (d::ds) g _ w' ⟨d,ds,rfl,⟨.func f,#[],args.toList.map a.eval,rfl,fun w=>?_,hd,hp⟩,hds⟩ ⟨by simp[hr.defers],hr.size,hr.da,hr.store,⟨hr.fI.fr,hr.fI.mem,hr.fI.new,hr.fI.own,hr.fI.at'⟩⟩;have:(invoke d.target d.args).run P w=(callFunc f ⟨args.toList.map a.eval⟩).run P w:=by
   simp only[d,invoke]
   congr 2
   apply Array.ext';simp
  rw[this,oO hc]
abbrev RR(P:Program)(GL:Nat→List D)(fn:Func)(n0 n1:Nat)(Qf:Out→List Ob→Prop)(dfs:List OF):pG:=⟨fun s sl ob=> ∃d,s=.d d∧∀n,O0 P GL fn n0 n1 Qf dfs (.pz d false) ⟨n,sl,ob⟩,fun _ _ _ _=>False⟩
def PC(P:Program)(GL:Nat→List D)(fn:Func)(n0 n1:Nat)(Qf:Out→List Ob→Prop)(dfs:List OF):Ex→St→Prop
 | .ret,σ=>O0 P GL fn n0 n1 Qf dfs .ret σ
 |_,_=>False
theorem Ki(h:O0 P GL fn n0 n1 Qf dfs .ret σ):PC P GL fn n0 n1 Qf dfs .ret σ:=h
theorem Pp(n1:Nat)(hn1:ob.length=n1)(h:bu P GL n1 (RR P GL fn n0 n1 Qf dfs) c (PC P GL fn n0 n1 Qf dfs) ⟨n,sl,ob⟩):GR P GL fn n0 Qf dfs c ⟨n,sl,ob⟩:=fun B0 h0 ds g a w hds hr=>by
 have hr1:cE GL ⟨g,w,dk ob g,ob.length,ds++B0.df⟩ ⟨n,sl,ob⟩ g a w:=
  ⟨hr.defers,hr.size,hr.da,hr.store,⟨Fr.refl _ _,fP.refl _,fun b o x h1 h2=>(by simp only at h2;rw[h2] at h1;cases h1),fun i o p b h1 h2 h3=>.inl ⟨i,o,p,h1,h2,h3⟩,fun _ _ _ h=>h⟩⟩
 have hlen:=hr.store.len;simp only at hlen;have hcomp:∀ob' g' w',Aj ⟨g,w,dk ob g,ob.length,[]⟩ ob' g' w'→Aj ⟨B0.g,B0.w,B0.X,B0.n0,[]⟩ ob' g' w':=fun ob' g' w' hst=>by
  refine(hr.fI.forget []).step (X:=dk ob g) hst.fr (fun b ⟨i,o,p,h1,h2,h3⟩=>hr.fI.own i o p b h1 h2 h3) hst.mem (fun b o x hx hn=>hst.new b o x hx hn) (fun i o p b h1 h2 h3=>?_) (fun i b hb=>hst.at' i b ?_ hb)
  ·rcases hst.own i o p b h1 h2 h3 with⟨i',o',p',h4,h5,h6⟩|h4
   ·exact .inl (hr.fI.own i' o' p' b h4 h5 h6)
   ·exact .inr h4
  ·show i<ob.length;rw[hlen];exact(List.getElem?_eq_some_iff.1 hb).1
 refine wp_mono (h ⟨g,w,dk ob g,ob.length,ds++B0.df⟩ hn1 a w ⟨g,hr1⟩) fun e a' w' hl=>?_
 simp only[hn1] at hds;cases e with
 |ret=>
  rcases hl with hl|⟨σ',⟨g',hr'⟩,hk⟩
  ·exact hl.elim
  ·exact ⟨ds,hr'.defers,hk B0 _ h0 hn1 hcomp ds _ g' a' w' hds rfl hr'⟩
 |panic c=>
  rcases hl with hl|⟨hdf,g2,sl2,ob2,v,s,rfl,hs2,hst2,hd2,hsl,d,rfl,hlv⟩
  ·exact hl.elim
  ·exact ⟨ds,hdf,hlv _ B0 _ h0 hn1 hcomp ds _ g2 a' w' hds ⟨v,hd2,rfl⟩ ⟨hdf,rfl,hsl,hs2,hst2⟩⟩
 |normal=>obtain⟨_,_,h⟩:=hl;exact h.elim
 |exit j=>obtain⟨_,_,h⟩:=hl;exact h.elim
 |goto l=>obtain⟨_,_,h⟩:=hl;exact h.elim
 |outgrown=>exact hl.elim
variable {Q:Um→List Ob→Prop}
theorem F7{obc:List Ob}{argsc m:List SV}(ht:GQ P GL f obc argsc U Q)(ix:List Nat)(hfit:ch ob ix obc ix)(hnd:fA ix=true)(hno:fV obc=true)(hit:oT ix ob=true)(hra:ml ix argsc=some m)(hfa:ic ob svs m)
 (hret:∀U' ob',Q U' ob'→∃obr ob1 obn sl1,nW (names ix ob.length (ob'.length-ix.length)) ob'=some obr∧rl ix ob=some ob1∧iO ix ob1 obr=some obn∧uE ix sl=some sl1∧O0 P GL fn n0 n1 Qf dfs U'.settle ⟨n,sl1,obn⟩):O0 P GL fn n0 n1 Qf (⟨f,svs⟩::dfs) U ⟨n,sl,ob⟩:=by
 intro B0 B1 h0 h1 hcomp ds u g a w hds hu hr;obtain⟨d,l',rfl,⟨fv,cap,vs,htar,hinv,hden,hp⟩,hrest⟩:=hds;have hnd':=jo hnd;have hden':bC g svs vs:=zv hr.fI.mem (fun i b hi hb=>hr.fI.at' i b (by rw[h1];exact hi) hb) hp hden;have hsub:=hr.store.sub hfit hnd' (fun j i f dn cur hj=>absurd hj (fe hno j i f dn cur));have hd2:=gL hsub.2.1 _ hra (hfa.den hr.store hden');refine⟨hu.ne,fv,cap,f,⟨vs⟩,htar,hinv w,(ht _ w vs u hsub.1 hd2 hu).mono ?_⟩;rintro e u' w' ⟨⟨v,rfl⟩,g',ob',U',hs,hst,hle,hno',hu',hq⟩;obtain⟨obr,ob1,obn,sl1,e1,e2,e3,e4,hk⟩:=hret U' ob' hq;obtain⟨gn,hrel,hkeep,hdn⟩:=hr.after hfit hnd' hno (mZ hit) hs hst hle hno' e1 e2 e3 e4;exact hk B0 B1 h0 h1 hcomp l' _ gn a w' hrest (Um.D7 (hu'.to fun d v hd=>hdn (.d d) (.d d) v rfl hd)) hrel
variable {rs:List ResultVar}
theorem JM(hrs:fn.results.toList=rs)(h:Fin P GL n0 rs Qf σ):O0 P GL fn n0 n1 Qf [] .ret σ:=by
 subst hrs;intro B0 B1 h0 h1 hcomp ds u g a w hds hu hr;cases hds;cases hu;exact xK (B:=⟨B0.g,B0.w,B0.X,B0.n0,a.defers⟩) h0 ⟨g,⟨rfl,hr.size,hr.da,hr.store,(hcomp _ _ _ (hr.fI.forget [])).forget _⟩⟩ h
variable {args:List SV}
theorem ru{Q0:Out→List Ob→Prop}{U':Um}{t:Nat}(hf:P.funcs[f]? =some fn)(hb:fn.body=some (.seq (.region id [o].toArray false) c))(hnt:fn.ntmps=n)(hrs:fn.results.toList=rs)
 (hn:Nat.ble args.length n=true) (hsl:nG 0 args=some sl) (k:Nat) (hk:ob.length=k) (hop:∀ρ w,(execOp ρ o).run P w=.ok .recover w) (hg:o.guard=none) (hd:o.dst=some t) (ht:Nat.blt t n=true)
 (hU:(U=.ret∧s=.d (.v .nilIface)∧U'=.ret)∨(∃ d,U=.pz d false∧s=.d d∧U'=.pz d true)) (hQ:∀out ob',Q0 out ob'→(∃ s,out=.ret s)∧Q U' ob')
 (h:bu P GL k (MH k Q0) c (fin P GL k rs Q0) ⟨n,(t,s)::sl,ob⟩):GQ P GL f ob args U Q:=by
 subst hnt hk;rw[← nU hsl] at h;intro g w vs u hs hdv hu;refine callsD_of_wpS hf hb fun c₀ cs hc0=>?_
 have hr:=qP (n:=fn.ntmps) (by simpa using hn) hs hdv;have key:∀(v:Value) (u':FrameMode),s.Den g v→U'.Den g.m u'→∀cs',cs'={ c₀ with mode:=u' }::cs→
  wpOpsS P [o].toArray (Exit.thenS (c.wpS P (bodyPostS P fn c₀ cs (Fb GL g w ob Q))) (bodyPostS P fn c₀ cs (Fb GL g w ob Q))) [] (Act.put { tmps:=(⟨vs⟩:Array Value)++Array.replicate (fn.ntmps-(⟨vs⟩:Array Value).size) undef,defers:=[] } (some t) v) cs' w:=by
  intro v u' hv hu' cs' e;subst e;have hr1:=hr.put (t:=t) ht hv;refine wpS_of_wp (wp_mono (v8 (B:=⟨g,w,dk ob g,ob.length,[]⟩) rfl hrs h ⟨g,hr1⟩) fun e a' w' hl=>?_);have post:∀e,jU GL ⟨g,w,dk ob g,ob.length,[]⟩ Q0 e w'→(∃ v,e=.returned v)∧∃g' ob' U'',cX GL ob' g' w'∧Aj ⟨g,w,dk ob g,ob.length,[]⟩ ob' g' w'∧ob.length≤ob'.length∧fV ob'=true∧U''.Den g'.m u'∧Q U'' ob':=by
   rintro e ⟨g',ob',h1,h2,h3,h4,h5⟩;cases e with
   |returned v=>
    obtain⟨s,_,hq⟩:=h5;exact⟨⟨v,rfl⟩,g',ob',U',h1,h2,h3,h4,hu'.to fun d v hd=>D.Den.mono h2.mem d hd,(hQ _ _ hq).2⟩
   |panicked c=>
    obtain⟨v,s,_,_,hq⟩:=h5;obtain⟨⟨_,h6⟩,_⟩:=hQ _ _ hq;cases h6
   |outgrown=>exact h5.elim
  cases e with
  |normal=>obtain⟨h1,v,h2,h3⟩:=hl;exact⟨h1,u',rfl,v,h2,post _ h3⟩
  |ret=>obtain⟨h1,v,h2,h3⟩:=hl;exact⟨h1,u',rfl,v,h2,post _ h3⟩
  |panic c=>obtain⟨h1,h3⟩:=hl;obtain⟨⟨_,h6⟩,_⟩:=post _ h3;cases h6
  |exit j=>exact hl.elim
  |goto l=>exact hl.elim
  |outgrown=>obtain⟨_,_,_,_,_,_,h6⟩:=hl;exact h6.elim
 apply wpS_seq;apply wpS_region;have hrange:List.range [o].toArray.size=[0]:=rfl;rw[hrange];unfold wpOpsS;have ho:[o].toArray[0]? =some o:=rfl;simp only[ho,Region.wanted,hg,if_true,hop];rcases hU with⟨rfl,rfl,rfl⟩|⟨d,rfl,rfl,rfl⟩
 ·have hu0:u=.returning:=hu;subst hu0;have hrec:recoverD (c₀::cs)=none:=by simp[recoverD,hc0]
  rw[hrec,hd];exact key _ .returning rfl rfl _ (by cases c₀;simp only at hc0;subst hc0;rfl)
 ·obtain ⟨v,hv,rfl⟩:=hu;have hrec:recoverD (c₀::cs)=some (v,{ c₀ with mode:=.panicking [{ v:=v,recovered:=true }] }::cs):=by simp[recoverD,hc0]
  rw[hrec,hd];exact key v _ hv ⟨v,hv,rfl⟩ _ rfl
theorem yk{Q:Out→List Ob→Prop}(hf:P.funcs[f]? =some fn)(hb:fn.body=some c)(hnt:fn.ntmps=n)(hrs:fn.results.toList=rs)
 (hn:Nat.ble args.length n=true) (hsl:nG 0 args=some sl) (k:Nat) (hk:ob.length=k) (h:bu P GL k ⟨(MH k Q).pn,PH P GL fn Q⟩ c (fin P GL k rs Q) ⟨n,sl,ob⟩):et P GL f ob args Q:=by
 subst hnt hk hrs;rw[← nU hsl] at h;intro g w vs hs hd;refine calls_of_wp_defers hf hb ?_;refine wp_mono (h ⟨g,w,dk ob g,ob.length,[]⟩ rfl _ w ⟨g,qP (by simpa using hn) hs hd⟩) fun e a' w' hl=>?_
 have hfin:∀σ,Rel GL ⟨g,w,dk ob g,ob.length,[]⟩ σ a' w'→Fin P GL ob.length fn.results.toList Q σ→Leaves P fn a'.tmps (jU GL ⟨g,w,dk ob g,ob.length,[]⟩ Q) a'.defers .returning w':=fun σ hr hk=>by
  obtain⟨v,h1,h2⟩:=xK (B:=⟨g,w,dk ob g,ob.length,[]⟩) rfl hr hk;obtain⟨_,hr⟩:=hr;rw[hr.defers];exact⟨v,h1,h2⟩
 cases e with
 |normal=>obtain⟨σ,hr',hk⟩:=hl;exact hfin σ hr' hk
 |ret=>
  rcases hl with⟨ds,h1,h2⟩|⟨σ,hr',hk⟩
  ·show Leaves _ _ _ _ _ _ _;rw[h1,List.append_nil];exact h2
  ·exact hfin σ hr' hk
 |exit id=>obtain⟨σ,hr',hk⟩:=hl;exact hk.elim
 |goto l=>obtain⟨σ,hr',hk⟩:=hl;exact hk.elim
 |panic c=>
  rcases hl with⟨ds,h1,h2⟩|⟨h0,hp⟩
  ·show Leaves _ _ _ _ _ _ _;rw[h1,List.append_nil];exact h2
  ·show Leaves _ _ _ _ _ _ _;rw[h0];exact Cj (B:=⟨g,w,dk ob g,ob.length,[]⟩) hp
 |outgrown=>exact hl.elim
end
end Go.Vd
namespace Go.Vd
open Go Go.RowKit
section
variable {P:Program} {GL:Nat→List D} {o:Oper} {σ:St} {K:SV→List Nat→Prop}
variable {T:TypeId}
theorem BS(hp:rB P T=true)(x:Value)(b:Bool)(hx:(x=.nilIface∧b=true)∨(∃ U y,x=.iface U y∧b=false))(w:World):(Op.equal T x .nilIface).run P w=.ok b w:=by
 obtain⟨ms,hu⟩:=JW hp;have h:∀d:Nat,(Op.equalIn (d+1) T x .nilIface).run P w=.ok b w:=fun d=>by
  rcases hx with⟨rfl,rfl⟩|⟨U,y,rfl,rfl⟩<;>simp[Op.equalIn,run_underlying hu]
 simp[Op.equal,Op.maxDepth,h 9999]
variable {T':TypeId} {x:Operand}
theorem Gr{op:BinOp}{s:SV}{b:Bool}(ho:o.op=.binOp op T x (.const .nilIface) T')(hx:bT GL σ.sl x=some s)(hop:op=.eql∨op=.neq)(hs:∀g y,s.Den g y→(y=.nilIface∧b=true)∨(∃ U z,y=.iface U z∧b=false))(hp:rB P T=true)(hK:K (.d (.v (.bool (if op=.eql then b else !b)))) []):ak P GL o σ K:=eg fun B g a w hr=>by
 have hb:=hs _ _ (hr.fk hx);refine⟨.d (.v (.bool (if op=.eql then b else !b))),_,fun w'=>?_,rfl,hK⟩;have he:=BS hp _ b hb w';have hc:a.eval (.const .nilIface)=.nilIface:=rfl;have hgd:∀op,(eqGuard op T x (.const .nilIface) (a.eval x) .nilIface).run P w'=.ok () w':=fun op=>by
  unfold eqGuard;rcases hb with⟨e,_⟩|⟨U,z,e,_⟩<;>rw[e]<;>cases op<;>simp
 have hbo:∀op,op=.eql∨op=.neq→(binOp op T (a.eval x) .nilIface).run P w'=.ok (.bool (if op=.eql then b else !b)) w':=fun op hop=>by
  rcases hb with⟨e,_⟩|⟨U,z,e,_⟩<;>rw[e] at he ⊢ <;>rcases hop with rfl|rfl<;>
   simp only[binOp,Sem.run_bind,he,Sem.run_pure,Result.andThen_ok,if_true]<;>rfl
 simp only[execOp,ho,hc,Sem.run_bind,hgd op,Result.andThen_ok,hbo op hop,Sem.run_pure]
theorem C7(hp:rB P T=true)(ho:o.op=.binOp .eql T x (.const .nilIface) T')(hx:bT GL σ.sl x=some (.d (.v .nilIface)))(hK:K (.d (.v (.bool true))) []):ak P GL o σ K:=
 Gr (b:=true) ho hx (.inl rfl) (fun g y hd=>.inl ⟨hd,rfl⟩) hp hK
theorem xO(hp:rB P T=true)(hK:K (.d (.v (.bool true))) [])(ho:o.op=.binOp .eql T x (.const .nilIface) T':=by exact rfl)(hx:bT GL σ.sl x=some (.d (.v .nilIface)):=by exact rfl):ak P GL o σ K:=C7 hp ho hx hK
variable {U:TypeId} {d:D}
theorem HM(hp:rB P T=true)(ho:o.op=.binOp .eql T x (.const .nilIface) T')(hx:bT GL σ.sl x=some (.d (.me U d)))(hK:K (.d (.v (.bool false))) []):ak P GL o σ K:=
 Gr (b:=false) ho hx (.inl rfl) (fun g y hd=>by obtain⟨z,e,_⟩:=hd;exact .inr ⟨_,_,e,rfl⟩) hp hK
theorem Db(hp:rB P T=true)(hK:K (.d (.v (.bool false))) [])(ho:o.op=.binOp .eql T x (.const .nilIface) T':=by exact rfl)(hx:bT GL σ.sl x=some (.d (.me U d)):=by exact rfl):ak P GL o σ K:=HM hp ho hx hK
theorem vZ{y:Operand}{m n:Int}(ho:o.op=.binOp .add T x y T')(hx:bT GL σ.sl x=some (.d (.v (.int .i64 m))))(hy:bT GL σ.sl y=some (.d (.v (.int .i64 n))))(hK:K (.d (.v (.int .i64 (IntKind.i64.wrap (m+n))))) []):ak P GL o σ K:=
 gU ho hx hy rfl (by simp) (fun w=>by simp[binOp,Op.intArith]) hK
variable {X:TypeId}
theorem xH(hc:nN P U=true)(ho:o.op=.typeAssert x X U true)(hx:bT GL σ.sl x=some (.d (.me U d)))(hK:K (.d (.bZ [d,.v (.bool true)])) []):ak P GL o σ K:=eg fun B g a w hr=>by
 obtain⟨y,hy,hd⟩:=hr.fk hx;refine⟨.d (.bZ [d,.v (.bool true)]),.tuple #[y,.bool true],fun w'=>?_,⟨_,rfl,y,_,rfl,hd,_,_,rfl,rfl,rfl⟩,hK⟩;unfold nN at hc;cases hu:P.underlying U with
 |none=>rw[hu] at hc;cases hc
 |some td=>
  rw[hu] at hc;cases td<;>first
   |(cases hc;done)
   |simp only[execOp,ho,hy,Instr.typeAssert,Sem.run_bind,run_underlying hu,Result.andThen_ok,if_true,Sem.run_pure]
theorem yI(hK:K (.d (.bZ [d,.v (.bool true)])) [])(ho:o.op=.typeAssert x X U true:=by exact rfl)(hx:bT GL σ.sl x=some (.d (.me U d)):=by exact rfl)(hc:nN P U=true:=by kernel_rfl):ak P GL o σ K:=xH hc ho hx hK
end
end Go.Vd
