/-
  What is proved here: lemmas of part 1, for the theorem of the last part.
-/
import Derived.WalkKit
import Derived.Carry
import Derived.MapKept
import Derived.Laws.IdiomRangeMap
import Derived.Great.BuildSlice
import Derived.Laws.AppendOwn
import Derived.Still
import Derived.KernelRfl
import Derived.LaidEqlPtr
import Derived.Laws.Externs
import Derived.Lib.Builder
import Derived.Lib.UnsafeStr
import Derived.Defers
import Derived.Recover
import Derived.Lib.ConvBytes
import Derived.Laws.BytesString
import Derived.Laws.Cells
import Derived.Test.YtndbnldjidciiaaGreatDoorRows
set_option linter.unusedSimpArgs false
set_option linter.unusedVariables false
set_option linter.unusedSectionVars false
namespace Go
variable{first h p}
theorem O{p:Prop}(h:p:=by omega):p:=h
theorem Z{p:Prop}(h:p:=by decide):p:=h
theorem gN{p:Prop}(h:p:=by kernel_rfl):p:=h
theorem gO{p:Prop}(h:p:=by first|(rw[if_pos (by (try simp only[decide_eq_true_eq]);omega)];rfl)|(rw[if_neg (by (try simp only[decide_eq_true_eq]);omega)];rfl)):p:=h
theorem gP{p:Prop}(h:p:=by exact(.inl rfl)):p:=h
abbrev ae:=@Nat.le_refl
abbrev ai:=@Option.bind_eq_some_iff
abbrev aj:=@List.length_cons
abbrev ak:=@Nat.zero_le
abbrev an:=@Option.some.injEq
abbrev aH:=@List.length_nil
abbrev aJ:=@List.getElem?_eq_some_iff
abbrev aN:=@List.length_append
abbrev aO:=@List.mem_of_getElem?
abbrev aP:=@Int.le_refl
abbrev aQ:=@Nat.le_trans
abbrev aS:=@List.take_of_length_le
abbrev aZ:=@List.getElem?_eq_getElem
abbrev ba:=@List.getD_eq_getElem?_getD
abbrev bc:=@List.length_map
abbrev bd:=@Ne.symm
abbrev bf:=@List.map_append
abbrev bg:=@List.getElem?_set_ne
abbrev bh:=@List.mem_cons
abbrev bj:=@List.length_take
abbrev bl:=@List.getElem?_append_left
abbrev bn:=@List.mem_append
abbrev bo:=@List.take_add_one
abbrev bq:=@List.append_assoc
abbrev bt:=@List.getElem?_map
abbrev bu:=@Bool.false_eq_true
abbrev bz:=@List.getElem?_set_self
abbrev bA:=@List.getElem?_append_right
abbrev bB:=@List.mem_cons_of_mem
abbrev bC:=@List.mem_cons_self
abbrev bD:=@List.mem_map
abbrev bE:=@List.length_eq_zero_iff
abbrev bF:=@List.mem_singleton
abbrev bG:=@List.map_cons
abbrev bH:=@Option.map_some
abbrev bJ:=@List.mem_of_mem_take
abbrev bK:=@List.length_drop
abbrev bL:=@Nat.sub_self
abbrev bN:=@List.map_map
abbrev bO:=@Option.map_eq_some_iff
abbrev bQ:=@Nat.add_mul
abbrev bR:=@List.append_nil
abbrev bS:=@List.getElem_mem
abbrev bT:=@List.take_length
abbrev bU:=@Nat.zero_add
abbrev bV:=@Nat.lt_or_ge
abbrev bW:=@Prod.mk.injEq
abbrev bX:=@List.getElem?_drop
abbrev bY:=@Bool.and_eq_true
abbrev bZ:=@List.map_congr_left
abbrev b5:=@List.mem_range
abbrev b6:=@Nat.add_zero
abbrev b7:=@List.getElem?_of_mem
abbrev b8:=@Nat.min_eq_left
abbrev cb:=@Int.toNat_natCast
abbrev cf:=@List.nil_append
abbrev ch:=@List.eq_nil_of_length_eq_zero
abbrev cj:=@List.take_zero
abbrev cu:=@List.map_take
abbrev cw:=@Option.bind_some
abbrev cy:=@List.mem_iff_getElem?
abbrev cB:=@List.getElem?_take
abbrev cC:=@ByteArray.size_extract
abbrev cD:=@List.map_singleton
abbrev cE:=@List.take_left
abbrev cF:=@List.mem_of_mem_drop
abbrev cG:=@List.nodup_cons
abbrev cH:=@List.getElem?_append
abbrev cO:=@List.take_take
abbrev cQ:=@List.mem_append_left
abbrev cT:=@Nat.not_lt_zero
abbrev cU:=@Nat.eq_of_beq_eq_true
abbrev cV:=@Array.getElem?_eq_some_iff
abbrev cW:=@List.getElem?_eq_none
abbrev cX:=@Nat.eq_zero_or_pos
abbrev cY:=@Option.getD_some
abbrev cZ:=@List.take_append_of_le_length
abbrev c6:=@Int.natCast_nonneg
abbrev c7:=@Array.ext'
abbrev da:=@List.length_set
abbrev db:=@ByteArray.size_append
abbrev dc:=@Nat.succ.inj
abbrev de:=@List.map_nil
abbrev dg:=@List.mem_zipIdx_iff_getElem?
abbrev dh:=@List.size_toArray
abbrev di:=@List.take_append
abbrev dj:=@Classical.byContradiction
abbrev dk:=@List.drop_zero
abbrev dp:=@List.take_append_drop
abbrev dq:=@Option.toList_some
abbrev dt:=@List.nodup_append
abbrev du:=@List.take_succ_cons
abbrev dx:=@List.length_reverse
abbrev dy:=@Option.some.inj
abbrev dz:=@Array.getElem?_toList
abbrev dA:=@List.isEmpty_cons
abbrev dB:=@List.isEmpty_nil
abbrev dC:=@Bool.and_false
abbrev dD:=@Bool.and_true
abbrev dE:=@Int.zero_add
abbrev dF:=@Array.getElem?_modify
abbrev dG:=@List.getElem?_inj
abbrev dH:=@List.mem_iff_getElem
abbrev dI:=@Nat.lt_succ_self
abbrev dJ:=@Int.not_lt
abbrev dK:=@Option.map_none
abbrev dL:=@List.drop_eq_getElem_cons
abbrev dM:=@List.drop_eq_nil_of_le
abbrev dN:=@List.map_drop
abbrev dP:=@Nat.blt_eq
abbrev dQ:=@Array.getD_eq_getD_getElem?
abbrev dS:=@Option.isSome_iff_exists
abbrev dT:=@Nat.mul_le_mul_right
abbrev dU:=@Nat.not_le
abbrev dV:=@Nat.add_right_cancel_iff
abbrev dW:=@Int.add_zero
abbrev dX:=@List.mem_map_of_mem
abbrev dY:=@List.ext_getElem
abbrev dZ:=@List.getElem_map
abbrev eb:=@List.getElem_range
abbrev ec:=@List.drop_left
abbrev ed:=@List.map_toArray
abbrev ee:=@List.mem_filter
abbrev ef:=@Bool.or_eq_false_iff
abbrev eg:=@List.foldl_append
abbrev eh:=@List.drop_of_length_le
abbrev ei:=@List.isEmpty_iff
abbrev ej:=@Nat.lt_of_lt_of_le
abbrev et:=@Array.toList_push
abbrev eu:=@Array.mem_toList_iff
abbrev ew:=@Bool.or_eq_true
abbrev ey:=@List.flatMap_cons
abbrev eA:=@Nat.zero_mul
abbrev eB:=@Nat.sub_zero
abbrev eC:=@Array.getElem?_eq_none
abbrev eD:=@Array.toList_append
abbrev eE:=@List.length_singleton
abbrev eF:=@List.nodup_nil
abbrev eG:=@List.length_pos_iff
abbrev eH:=@ByteArray.ext
abbrev eI:=@Int.natCast_mul
abbrev eJ:=@List.mem_replicate
abbrev eK:=@List.range_succ
abbrev eL:=@List.filter_cons
abbrev eM:=@List.dropLast_concat_getLast
abbrev eN:=@List.cons_append
abbrev eP:=@List.getElem_take
abbrev eQ:=@List.drop_append
abbrev eR:=@Nat.add_assoc
abbrev eS:=@Array.mem_of_getElem?
abbrev eT:=@List.getElem?_eraseIdx
abbrev eU:=@Array.getElem?_eq_getElem
abbrev eV:=@Array.toList_map
abbrev eW:=@List.getElem?_cons_succ
abbrev eX:=@List.ext_getElem?
abbrev eY:=@Array.length_toList
abbrev eZ:=@List.flatten_cons
abbrev fb:=@List.getElem?_range
abbrev fc:=@List.map_replicate
abbrev fe:=@ByteArray.size_eq_zero_iff
abbrev ff:=@List.drop_succ_cons
abbrev fg:=@List.mem_append_right
abbrev fh:=@Nat.add_le_add_left
abbrev fj:=@List.length_range
abbrev fk:=@List.drop_append_of_le_length
abbrev fm:=@List.length_eq_one_iff
abbrev fo:=@Nat.succ_le_succ
abbrev fp:=@List.mem_reverse
abbrev ft:=@Array.eq_empty_of_size_eq_zero
abbrev fu:=@Array.getElem?_setIfInBounds_ne
abbrev fw:=@List.findIdx?_eq_some_iff_getElem
abbrev fA:=@Int.mul_le_mul_of_nonneg_right
abbrev fB:=ByteArray
noncomputable abbrev fC:=Proofs.Tryz.prog
end Go
namespace Go.Vd
variable{α ι ρ σ σ' B C F G GL H Hc I J K L M P Pn Q Q' Q0 Qf R S T T' U' V W X Y a args at' c cap cap' ds e es first fn fr fuel g g' h h' hi i ix j l l' l3 ls' m m' m3 m4 n n' n0 o o' ob ob' or p pl q q' q2 r rp rs s sl sl' sx t ti ts u us v vs w w' wD x y yt z}
section
open Go Go.RowKit
structure Fr (X:Nat->Prop) (w w':World):Prop where
 os:w'.os=w.os
 tape:w'.tape=w.tape
 output:w'.output=w.output
 size:w.heap.size<=w'.heap.size
 block:∀c,c<w.heap.size->¬X c->w'.heap[c]? =w.heap[c]?
theorem Fr.refl(X:Nat->Prop)(w):Fr X w w:=⟨rfl,rfl,rfl,ae _,λ_ _ _=>rfl⟩
theorem Fr.mono(h:Fr X a i)(e:∀c,c<a.heap.size->X c->Y c):Fr Y a i:=
 ⟨h.os,h.tape,h.output,h.size,λc k U=>h.block c k (λx=>U (e c k x))⟩
theorem Fr.then{b:World}(h:Fr X a b)(s:Fr Y b c)(q:∀i,Y i->X i\/a.heap.size<=i):Fr X a c:=
 ⟨s.os.trans h.os,s.tape.trans h.tape,s.output.trans h.output,aQ h.size s.size,λi U j=>
  (s.block i (ej U h.size) (λe=>(q i e).elim j (λr=>absurd U O))).trans (h.block i U j)⟩
theorem Fr.trans{X:Nat->Prop}{a b c:World}(h:Fr X a b)(k:Fr X b c):Fr X a c:=
 ⟨k.os.trans h.os,k.tape.trans h.tape,k.output.trans h.output,aQ h.size k.size,
  λi U e=>(k.block i (ej U h.size) e).trans (h.block i U e)⟩
theorem Fr.none{b:World}(h:Fr (λ_=>False) a b):Fr X a b:=h.mono λ_ _ x=>x.elim
theorem Fr.alloc{X:Nat->Prop}{a e:World}(h:Fr X a e)(o):Fr X a (e.alloc o):=
 h.trans ⟨rfl,rfl,rfl,by simp,λc k _=>Below.heap_alloc e o c k⟩
theorem Fr.drew{X:Nat->Prop}{a c:World}(h:Fr X a c):Fr X a c.drew:=⟨h.os,h.tape,h.output,h.size,h.block⟩
inductive D where
 |v (x:Value)
 |agg (l:List D)
 |jj (l:List D)
 |sl (k:Nat) (l:List (List D))
 |cp (l:List D)
 |uU (T:TypeId) (d:D)
abbrev Mem:=Nat->Nat->Option Value
mutual
def D.Den(m:Mem):D->Value->Prop
 | .v x,y=>y=x
 | .agg l,y=> ∃vs,y=.agg ⟨vs⟩/\nk m l vs
 | .jj l,y=> ∃vs,y=.tuple ⟨vs⟩/\nk m l vs
 | .sl k ls,y=> ∃a cap,y=.slice a ls.length cap/\ls.length<=cap/\(ls≠[]->∃b off,a=some ⟨b,off,none⟩/\nT m k b off ls)
 | .cp l,y=> ∃b off,y=.pointer (some ⟨b,off,none⟩)/\oU m b off l
 | .uU T d,y=> ∃x,y=.iface T x/\d.Den m x
def nk(m:Mem):List D->List Value->Prop
 |[],l=>l=[]
 |d::r,l=> ∃x l',l=x::l'/\d.Den m x/\nk m r l'
def oU(m:Mem)(b:Nat):Nat->List D->Prop
 |_,[]=>True
 |off,d::r=>(∃ x,m b off=some x/\d.Den m x)/\oU m b (off+1) r
def nT(m:Mem)(k:Nat)(b:Nat):Nat->List (List D)->Prop
 |_,[]=>True
 |off,e::r=>(e.length=k/\oU m b off e)/\nT m k b (off+k) r
end
def pV(m c:Mem):Prop:= ∀b o x,m b o=some x->c b o=some x
theorem pV.refl(m):pV m m:=λ_ _ _ h=>h
theorem pV.trans{b:Mem}(h:pV a b)(k:pV b c):pV a c:=λi o x U=>k i o x (h i o x U)
mutual
theorem D.Den.mono{m m':Mem}(hm:pV m m'):∀(d:D) {y:Value},d.Den m y->d.Den m' y
 | .v x,y,h=>h
 | .agg l,y,⟨vs,e,h⟩=>⟨vs,e,nk.mono hm l h⟩
 | .jj l,y,⟨vs,e,h⟩=>⟨vs,e,nk.mono hm l h⟩
 | .sl k ls,y,⟨a,cap,e,hc,h⟩=>⟨a,cap,e,hc,λhn=>by obtain⟨b,off,e2,h2⟩:=h hn;exact⟨b,off,e2,nT.mono hm ls h2⟩⟩
 | .cp l,y,⟨b,off,e,h⟩=>⟨b,off,e,oU.mono hm l h⟩
 | .uU T d,y,⟨x,e,h⟩=>⟨x,e,D.Den.mono hm d h⟩
theorem nk.mono{m m':Mem}(hm:pV m m'):∀(l:List D) {vs:List Value},nk m l vs->nk m' l vs
 |[],_,h=>h
 |d::r,_,⟨x,l',e,h1,h2⟩=>⟨x,l',e,D.Den.mono hm d h1,nk.mono hm r h2⟩
theorem oU.mono{m m':Mem}(hm:pV m m'):∀(l:List D) {b off:Nat},oU m b off l->oU m' b off l
 |[],_,_,_=>trivial
 |d::r,_,_,⟨⟨x,h1,h2⟩,h3⟩=>⟨⟨x,hm _ _ _ h1,D.Den.mono hm d h2⟩,oU.mono hm r h3⟩
theorem nT.mono{m m':Mem}(hm:pV m m'){k:Nat}:∀(l:List (List D)) {b off:Nat},nT m k b off l->nT m' k b off l
 |[],_,_,_=>trivial
 |e::r,_,_,⟨⟨h0,h1⟩,h2⟩=>⟨⟨h0,oU.mono hm e h1⟩,nT.mono hm r h2⟩
end
theorem nk.length{m:Mem}:∀{l:List D} {vs:List Value},nk m l vs->vs.length=l.length
 |[],_,h=>by cases h;rfl
 |d::r,_,⟨x,b,e,_,h⟩=>by subst e;simp[nk.length h]
theorem nk.get{m:Mem}:∀{l:List D} {b:List Value},nk m l b->∀{i:Nat} {d:D},l[i]? =some d->∃x,b[i]? =some x/\d.Den m x
 |[],_,_,i,d,h=>by simp at h
 |c::r,_,⟨x,j,e,k,U⟩,i,d,h=>by
  subst e;cases i with
  |zero=>simp at h;subst h;exact⟨x,by simp,k⟩
  |succ i=>simp at h;simpa using nk.get U h
theorem nk.append{m:Mem}:∀{l:List D} {U:List Value},nk m l U->∀{l2:List D} {b:List Value},nk m l2 b->nk m (l++l2) (U++b)
 |[],_,h,_,_,k=>by cases h;exact k
 |d::r,_,⟨x,c,e,i,j⟩,_,_,k=>by subst e;exact⟨x,c++_,rfl,i,nk.append j k⟩
theorem oU.drop{m:Mem}{b:Nat}:∀{l:List D} {off:Nat} (n:Nat),oU m b off l->oU m b (off+n) (l.drop n)
 |l,off,0,h=>by simpa using h
 |[],off,n+1,h=>by simp[oU]
 |c::r,off,n+1,⟨_,h⟩=>by
  have:=oU.drop n h
  rwa [show off+1+n=off+(n+1) by omega] at this
theorem oU.take{m:Mem}{b:Nat}:∀{l:List D} {off:Nat} (n:Nat),oU m b off l->oU m b off (l.take n)
 |l,off,0,h=>by simp[oU]
 |[],off,n+1,h=>by simp[oU]
 |c::r,off,n+1,⟨k,h⟩=>⟨k,oU.take n h⟩
theorem oU.R3{m:Mem}{z:Nat}:∀{l:List D} {off:Nat},oU m z off l->∃k,nk m l k/\∀i x,k[i]? =some x->m z (off+i)=some x
 |[],off,_=>⟨[],rfl,by simp⟩
 |c::r,off,⟨⟨x,e,h⟩,j⟩=>by
  obtain⟨k,q,s⟩:=oU.R3 j;refine⟨x::k,⟨x,k,rfl,h,q⟩,λi y U=>?_⟩;cases i with
  |zero=>simp at U;subst U;exact e
  |succ i=>simp at U;have:=s i y U;rwa [show off+1+i=off+(i+1) by omega] at this
theorem oU.BE{m:Mem}{s:Nat}:∀{l:List D} {k:List Value} {off:Nat},nk m l k->(∀ i x,k[i]? =some x->m s (off+i)=some x)->oU m s off l
 |[],_,_,_,_=>trivial
 |d::r,_,off,⟨x,q,e,U,c⟩,h=>by
  subst e;refine⟨⟨x,by simpa using h 0 x rfl,U⟩,oU.BE c λi y j=>?_⟩;have:=h (i+1) y (by simpa using j)
  rwa [show off+(i+1)=off+1+i by omega] at this
theorem nT.get{m:Mem}{q b:Nat}:∀{l:List (List D)} {off:Nat},nT m q b off l->∀{i:Nat} {e:List D},l[i]? =some e->e.length=q/\oU m b (off+i*q) e
 |[],_,_,i,e,h=>by simp at h
 |c::r,off,⟨U,j⟩,0,e,h=>by simp at h;subst h;simpa using U
 |c::r,off,⟨U,j⟩,i+1,e,h=>by
  have:=nT.get j (i:=i) (e:=e) (by simpa using h)
  rwa [show off+q+i*q=off+(i+1)*q by rw[bQ];omega] at this
theorem nT.drop{m:Mem}{k b:Nat}:∀{l:List (List D)} {off:Nat} (n:Nat),nT m k b off l->nT m k b (off+n*k) (l.drop n)
 |l,off,0,h=>by simpa using h
 |[],off,n+1,h=>by simp[nT]
 |c::r,off,n+1,⟨_,h⟩=>by
  have:=nT.drop n h
  rwa [show off+k+n*k=off+(n+1)*k by rw[bQ];omega] at this
theorem nT.take{m:Mem}{k b:Nat}:∀{l:List (List D)} {off:Nat} (n:Nat),nT m k b off l->nT m k b off (l.take n)
 |l,off,0,h=>by simp[nT]
 |[],off,n+1,h=>by simp[nT]
 |c::r,off,n+1,⟨U,h⟩=>⟨U,nT.take n h⟩
theorem nT.append{m:Mem}{i j:Nat}:∀{l:List (List D)} {off:Nat},nT m i j off l->∀{l2:List (List D)},nT m i j (off+l.length*i) l2->nT m i j off (l++l2)
 |[],off,_,l2,h=>by simpa using h
 |c::r,off,⟨U,e⟩,l2,h=>⟨U,nT.append e (by
  rwa [show off+i+r.length*i=off+(c::r).length*i by simp[bQ];omega])⟩
inductive Pl where
 |loc (b:Nat)
 |row (b:Option Nat) (cap n:Nat)
structure Gh where
 m:Mem
 gs:List Pl
inductive SV where
 |d (x:D)
 |jk (i off:Nat)
 |agg (l:List SV)
 |jj (l:List SV)
 |own (i k:Nat) (ls:List (List D))
 |fn (f:Fn) (first caps:List SV)
 |uU (T:TypeId) (s:SV)
 |map (i:Nat)
 |rp (i:Nat)
 |arr (i n:Nat)
 |bp (i off:Nat)
 |G3 (k:Nat) (ls:List (List D))
 |qe
mutual
def SV.Den(g:Gh):SV->Value->Prop
 | .d x,y=>x.Den g.m y
 | .jk i off,y=> ∃b,g.gs[i]? =some (.loc b)/\y=.pointer (some ⟨b,off,none⟩)
 | .agg l,y=> ∃vs,y=.agg ⟨vs⟩/\iN g l vs
 | .jj l,y=> ∃vs,y=.tuple ⟨vs⟩/\iN g l vs
 | .own i k ls,y=> ∃b cap,g.gs[i]? =some (.row b cap ls.length)/\y=.slice (b.map λb=>⟨b,0,none⟩) ls.length cap/\ls.length<=cap/\(ls≠[]->∃c,b=some c/\nT g.m k c 0 ls)
 | .fn f first caps,y=> ∃vs us,y=.func f ⟨vs⟩ ⟨us⟩/\iN g first vs/\iN g caps us
 | .uU T s,y=> ∃x,y=.iface T x/\s.Den g x
 | .map i,y=> ∃b,g.gs[i]? =some (.loc b)/\y=.map (some b)
 | .rp i,y=> ∃b cap n,g.gs[i]? =some (.row (some b) cap n)/\y=.pointer (some ⟨b,0,none⟩)
 | .arr i n,y=> ∃b cap,g.gs[i]? =some (.row b cap n)/\y=.slice (b.map λb=>⟨b,0,none⟩) n cap
 | .bp i off,y=> ∃b cap n,g.gs[i]? =some (.row (some b) cap n)/\y=.pointer (some ⟨b,off,none⟩)
 | .G3 k ls,y=> ∃a,y=.slice a ls.length ls.length/\(ls≠[]->∃b off,a=some ⟨b,off,none⟩/\nT g.m k b off ls)
 | .qe,_=>True
def iN(g:Gh):List SV->List Value->Prop
 |[],l=>l=[]
 |s::r,l=> ∃x l',l=x::l'/\s.Den g x/\iN g r l'
end
theorem iN.length{g:Gh}:∀{l:List SV} {vs:List Value},iN g l vs->vs.length=l.length
 |[],_,h=>by cases h;rfl
 |d::r,_,⟨x,b,e,_,h⟩=>by subst e;simp[iN.length h]
theorem iN.get{g:Gh}:∀{l:List SV} {b:List Value},iN g l b->∀{i:Nat} {d:SV},l[i]? =some d->∃x,b[i]? =some x/\d.Den g x
 |[],_,_,i,d,h=>by simp at h
 |c::r,_,⟨x,j,e,k,U⟩,i,d,h=>by
  subst e;cases i with
  |zero=>simp at h;subst h;exact⟨x,by simp,k⟩
  |succ i=>simp at h;simpa using iN.get U h
theorem iN.take{g:Gh}:∀{cs:List SV} {l:List Value},iN g cs l->∀n,iN g (cs.take n) (l.take n)
 |[],_,d,n=>by cases d;simp[iN]
 |c::r,_,⟨y,b,e,k,dl⟩,n=>by
  subst e;cases n with
  |zero=>simp[iN]
  |succ n=>exact⟨y,b.take n,by simp,k,iN.take dl n⟩
theorem iN.drop{g:Gh}:∀{cs:List SV} {l:List Value},iN g cs l->∀n,iN g (cs.drop n) (l.drop n)
 |[],_,d,n=>by cases d;simp[iN]
 |c::r,_,⟨y,b,e,k,dl⟩,n=>by
  subst e;cases n with
  |zero=>exact⟨y,b,rfl,k,dl⟩
  |succ n=>simpa using iN.drop dl n
theorem iN.append{g:Gh}:∀{cs:List SV} {l:List Value},iN g cs l->∀{b:List SV} {m:List Value},iN g b m->iN g (cs++b) (l++m)
 |[],_,d,b,m,dm=>by cases d;simpa using dm
 |c::r,_,⟨y,k,e,U,dl⟩,b,m,dm=>by subst e;exact⟨y,k++m,rfl,U,iN.append dl dm⟩
theorem iN.ofd{g:Gh}:∀{l:List D} {b:List Value},nk g.m l b->iN g (l.map SV.d) b
 |[],_,h=>h
 |d::r,_,⟨x,k,e,U,c⟩=>⟨x,k,e,U,iN.ofd c⟩
theorem iN.ofv{g:Gh}:∀(l:List Value),iN g (l.map λx=>SV.d (.v x)) l
 |[]=>rfl
 |x::r=>⟨x,r,rfl,rfl,iN.ofv r⟩
structure WR (g g':Gh):Prop where
 m:pV g.m g'.m
 gs:∀(i:Nat) p,g.gs[i]? =some p->g'.gs[i]? =some p
theorem WR.refl(g):WR g g:=⟨pV.refl _,λ_ _ h=>h⟩
mutual
theorem SV.Den.mono{g g':Gh}(h:WR g g'):∀(s:SV) {y:Value},s.Den g y->s.Den g' y
 | .d x,y,hd=>D.Den.mono h.m x hd
 | .jk i off,y,⟨b,hb,e⟩=>⟨b,h.gs _ _ hb,e⟩
 | .agg l,y,⟨vs,e,hd⟩=>⟨vs,e,iN.mono h l hd⟩
 | .jj l,y,⟨vs,e,hd⟩=>⟨vs,e,iN.mono h l hd⟩
 | .own i k ls,y,⟨b,cap,hb,e,hc,hd⟩=>⟨b,cap,h.gs _ _ hb,e,hc,λhn=>by obtain⟨c,e2,h2⟩:=hd hn;exact⟨c,e2,nT.mono h.m ls h2⟩⟩
 | .fn f first caps,y,⟨vs,us,e,h1,h2⟩=>⟨vs,us,e,iN.mono h first h1,iN.mono h caps h2⟩
 | .uU T s,y,⟨x,e,hd⟩=>⟨x,e,SV.Den.mono h s hd⟩
 | .map i,y,⟨b,hb,e⟩=>⟨b,h.gs _ _ hb,e⟩
 | .rp i,y,⟨b,cap,n,hb,e⟩=>⟨b,cap,n,h.gs _ _ hb,e⟩
 | .arr i n,y,⟨b,cap,hb,e⟩=>⟨b,cap,h.gs _ _ hb,e⟩
 | .bp i off,y,⟨b,cap,n,hb,e⟩=>⟨b,cap,n,h.gs _ _ hb,e⟩
 | .G3 k ls,y,⟨a,e,hd⟩=>⟨a,e,λhn=>by obtain⟨b,off,e2,h2⟩:=hd hn;exact⟨b,off,e2,nT.mono h.m ls h2⟩⟩
 | .qe,_,_=>trivial
theorem iN.mono{g g':Gh}(h:WR g g'):∀(l:List SV) {vs:List Value},iN g l vs->iN g' l vs
 |[],_,hd=>hd
 |s::r,_,⟨x,l',e,h1,h2⟩=>⟨x,l',e,SV.Den.mono h s h1,iN.mono h r h2⟩
end
theorem aa0(h:(SV.G3 i c).Den g y):(D.sl i c).Den g.m y:=by
 obtain⟨a,e,hd⟩:=h;exact⟨a,_,e,ae _,hd⟩
theorem Fx(h:(SV.own i z j).Den g y):(D.sl z j).Den g.m y:=by
 obtain⟨b,cap,x,e,U,hd⟩:=h;exact⟨_,cap,e,U,λq=>by obtain⟨c,r,s⟩:=hd q;subst r;exact⟨c,0,rfl,s⟩⟩
mutual
def SV.kill(p:Nat->Bool):SV->SV
 | .own i k ls=>cond (p i) (.d (.sl k ls)) (.own i k ls)
 | .agg l=>.agg (uy p l)
 | .jj l=>.jj (uy p l)
 | .fn f first caps=>.fn f (uy p first) (uy p caps)
 | .uU T s=>.uU T (s.kill p)
 | .d x=>.d x
 | .jk i off=>.jk i off
 | .map i=>.map i
 | .rp i=>cond (p i) .qe (.rp i)
 | .arr i n=>cond (p i) .qe (.arr i n)
 | .bp i off=>cond (p i) .qe (.bp i off)
 | .G3 k ls=>.G3 k ls
 | .qe=>.qe
def uy(p:Nat->Bool):List SV->List SV
 |[]=>[]
 |s::r=>s.kill p::uy p r
end
structure Zh (p:Nat->Bool) (g g':Gh):Prop where
 m:pV g.m g'.m
 gs:∀(i:Nat) q,g.gs[i]? =some q->p i=false->g'.gs[i]? =some q
 at':∀(i b:Nat),g.gs[i]? =some (.loc b)->g'.gs[i]? =some (.loc b)
mutual
theorem SV.Den.kill{p:Nat->Bool}{g g':Gh}(h:Zh p g g'):∀(s:SV) {y:Value},s.Den g y->(s.kill p).Den g' y
 | .d x,y,hd=>D.Den.mono h.m x hd
 | .jk i off,y,⟨b,hb,e⟩=>⟨b,h.at' _ _ hb,e⟩
 | .agg l,y,⟨vs,e,hd⟩=>⟨vs,e,iN.kill h l hd⟩
 | .jj l,y,⟨vs,e,hd⟩=>⟨vs,e,iN.kill h l hd⟩
 | .own i k ls,y,hd=>by
  unfold SV.kill;cases hp:p i with
  |true=>exact D.Den.mono h.m _ (Fx hd)
  |false=>
   obtain⟨b,cap,hb,e,hc,hd⟩:=hd;exact⟨b,cap,h.gs _ _ hb hp,e,hc,λhn=>by obtain⟨c,e2,h2⟩:=hd hn;exact⟨c,e2,nT.mono h.m ls h2⟩⟩
 | .fn f first caps,y,⟨vs,us,e,h1,h2⟩=>⟨vs,us,e,iN.kill h first h1,iN.kill h caps h2⟩
 | .uU T s,y,⟨x,e,hd⟩=>⟨x,e,SV.Den.kill h s hd⟩
 | .map i,y,⟨b,hb,e⟩=>⟨b,h.at' _ _ hb,e⟩
 | .rp i,y,hd=>by
  unfold SV.kill;cases hp:p i with
  |true=>trivial
  |false=>obtain⟨b,cap,n,hb,e⟩:=hd;exact⟨b,cap,n,h.gs _ _ hb hp,e⟩
 | .arr i n,y,hd=>by
  unfold SV.kill;cases hp:p i with
  |true=>trivial
  |false=>obtain⟨b,cap,hb,e⟩:=hd;exact⟨b,cap,h.gs _ _ hb hp,e⟩
 | .bp i off,y,hd=>by
  unfold SV.kill;cases hp:p i with
  |true=>trivial
  |false=>obtain⟨b,cap,n,hb,e⟩:=hd;exact⟨b,cap,n,h.gs _ _ hb hp,e⟩
 | .G3 k ls,y,⟨a,e,hd⟩=>⟨a,e,λhn=>by obtain⟨b,off,e2,h2⟩:=hd hn;exact⟨b,off,e2,nT.mono h.m ls h2⟩⟩
 | .qe,_,_=>trivial
theorem iN.kill{p:Nat->Bool}{g g':Gh}(h:Zh p g g'):∀(l:List SV) {vs:List Value},iN g l vs->iN g' (uy p l) vs
 |[],_,hd=>hd
 |s::r,_,⟨x,l',e,h1,h2⟩=>⟨x,l',e,SV.Den.kill h s h1,iN.kill h r h2⟩
end
mutual
def SV.p9:SV->Option D
 | .d x=>some x
 | .agg l=>(Am l).bind λl'=>some (.agg l')
 | .jj l=>(Am l).bind λl'=>some (.jj l')
 | .own _ k ls=>some (.sl k ls)
 | .G3 k ls=>some (.sl k ls)
 | .uU T s=>s.p9.bind λd=>some (.uU T d)
 |_=>none
def Am:List SV->Option (List D)
 |[]=>some []
 |s::r=>s.p9.bind λd=>(Am r).bind λl=>some (d::l)
end
mutual
theorem SV.Den.p9{g:Gh}:∀(s:SV) {y:Value} {x:D},s.Den g y->s.p9=some x->x.Den g.m y
 | .d x,y,x',hd,h=>by simp[SV.p9] at h;subst h;exact hd
 | .agg l,y,x,⟨vs,e,hd⟩,h=>by
  simp only[SV.p9,ai,an] at h;obtain⟨l',hl,rfl⟩:=h;exact⟨vs,e,iN.p9 l hd hl⟩
 | .jj l,y,x,⟨vs,e,hd⟩,h=>by
  simp only[SV.p9,ai,an] at h;obtain⟨l',hl,rfl⟩:=h;exact⟨vs,e,iN.p9 l hd hl⟩
 | .own i k ls,y,x,hd,h=>by simp[SV.p9] at h;subst h;exact Fx hd
 | .G3 k ls,y,x,hd,h=>by simp[SV.p9] at h;subst h;exact aa0 hd
 | .uU T s,y,x,⟨z,e,hd⟩,h=>by
  simp only[SV.p9,ai,an] at h;obtain⟨d,hd',rfl⟩:=h;exact⟨z,e,SV.Den.p9 s hd hd'⟩
 | .jk _ _,_,_,_,h=>by simp[SV.p9] at h
 | .fn _ _ _,_,_,_,h=>by simp[SV.p9] at h
 | .map _,_,_,_,h=>by simp[SV.p9] at h
 | .rp _,_,_,_,h=>by simp[SV.p9] at h
 | .arr _ _,_,_,_,h=>by simp[SV.p9] at h
 | .bp _ _,_,_,_,h=>by simp[SV.p9] at h
 | .qe,_,_,_,h=>by simp[SV.p9] at h
theorem iN.p9{g:Gh}:∀(l:List SV) {vs:List Value} {ds:List D},iN g l vs->Am l=some ds->nk g.m ds vs
 |[],vs,ds,hd,h=>by simp[Am] at h;subst h;exact hd
 |s::r,vs,ds,⟨x,l',e,h1,h2⟩,h=>by
  simp only[Am,ai,an] at h;obtain⟨d,hd,l2,hl2,rfl⟩:=h;exact⟨x,l',e,SV.Den.p9 s h1 hd,iN.p9 r h2 hl2⟩
end
inductive Ob where
 |cells (l:List SV) (ty:TypeId)
 |row (e:TypeId) (k:Nat)
 |jd (e:TypeId) (k:Nat)
 |buf (e:TypeId) (k:Nat) (ls:List (List D)) (q:Option (Option Nat×Nat))
 |jc (f:fB->Option Int)
 |jK (f:fB->Option D)
 |rU (own:Nat->Prop) (ok:Mem->World->Prop)
 |ru (i:Nat) (f:fB->Option Int) (dn:List (fB×Int)) (cur:Option (fB×Int))
 |dead
abbrev fD(i:Int):D:=.v (.int .i64 i)
abbrev fE(i:Int):SV:=.d (.v (.int .i64 i))
abbrev fF(i:Bool):D:=.v (.bool i)
abbrev fJ:D:=.v (.slice none 0 0)
abbrev fK:SV:=.d (.v (.slice none 0 0))
abbrev fH(i:Bool):SV:=.d (.v (.bool i))
abbrev fG(i:fB):D:=.v (.string i)
abbrev fI(i:fB):SV:=.d (.v (.string i))
end
section
open Go Go.RowKit Go.MapKept
def te(w:World)(c:Nat)(M:fB->Option Int):Prop:=
 ∃es clock,w.heap[c]? =some (.map es clock)/\Stamped es clock/\(∀ e∈es.toList,∃s n,e.key=.string s/\e.val=.int .i64 n)/\
  ∀s n,M s=some n↔ ∃e∈es.toList,e.key=.string s/\e.val=.int .i64 n
def pW(M:fB->Option Int)(s:fB)(n:Int):fB->Option Int:=λt=>if t=s then some n else M t
def PR(M:fB->Option Int)(s:fB):fB->Option Int:=λt=>if t=s then none else M t
theorem te.lt(h:te w c M):c<w.heap.size:=by
 obtain⟨es,clock,k,_⟩:=h;exact(cV.1 k).1
theorem te.Gc(h:te w e M)(k:c.heap[e]? =w.heap[e]?):te c e M:=by
 obtain⟨es,clock,U,r⟩:=h;exact⟨es,clock,k.trans U,r⟩
theorem te.made(w:World):te (w.alloc (.map #[] 0)) w.heap.size λ_=>none:=
 ⟨#[],0,(MapKept.heap_alloc w _).1,stamped_empty 0,by simp,by simp⟩
theorem OG(q:Stamped j e)(i:x∈j.toList)(c:y∈j.toList)(h:x.key=y.key):x=y:=by
 have b:=q.2.2;have key:∀l:List MapEntry,(l.map (·.key)).Nodup->x∈l->y∈l->x=y:=by
  intro l
  induction l with
  |nil=>intro _ h;cases h
  |cons a r k=>
   intro b i c;simp only[bG,cG] at b;cases i with
   |head=>
    cases c with
    |head=>rfl
    |tail _ c=>exact absurd (by rw[h];exact bD.2 ⟨y,c,rfl⟩) b.1
   |tail _ i=>
    cases c with
    |head=>exact absurd (by rw[<- h];exact bD.2 ⟨x,i,rfl⟩) b.1
    |tail _ c=>exact k b.2 i c
 exact key _ b i c
theorem JF(c:(P.info? e).bind (·.zero)=some (.int .i64 0)):(zeroValue e).run P w=.ok (.int .i64 0) w:=by
 cases b:P.info? e with
 |none=>simp[b] at c
 |some i=>
  rw[b] at c;simp only[cw] at c;simp[zeroValue,typeInfo,b,c,Result.andThen]
theorem te.lookup{P:Program}{w:World}{b:Nat}{M:fB->Option Int}{t k e:TypeId}(h:te w b M)(H:P.underlying t=some (.map k e))(y:P.underlying k=some .string)(V:(P.info? e).bind (·.zero)=some (.int .i64 0))(s c):
 (Instr.lookup t (.map (some b)) (.string s) c).run P w=.ok (if c then .tuple #[.int .i64 ((M s).getD 0),.bool (M s).isSome] else .int .i64 ((M s).getD 0)) w:=by
 obtain⟨es,clock,I,hs,i,J⟩:=h;have U:IsKey .string (.string s):=trivial;have q:∀x∈es.toList,IsKey .string x.key:=λx C=>by obtain⟨W,n,r,_⟩:=i x C;rw[r];trivial
 rcases findNow_spec U es.toList 0 q with⟨r,F⟩|⟨j,R,r,F,Y⟩
 .have:M s=none:=by
   cases z:M s with
   |none=>rfl
   |some n=>obtain⟨x,C,G,_⟩:=(J s n).1 z;exact absurd G (F x C)
  rw[this];cases c<;>simp[Instr.lookup,run_underlying H,MapKept.run_getObj_map I,run_checkKey y U,run_findKey y r,JF V,Result.andThen]
 .have z:=aO F;obtain⟨W,n,h4,S⟩:=i R z;have:M s=some n:=(J s n).2 ⟨R,z,Y,S⟩;rw[this];cases c<;>simp[Instr.lookup,run_underlying H,MapKept.run_getObj_map I,run_checkKey y U,run_findKey y r,S,Result.andThen]
theorem AM(h:X i):Fr X w { w with heap:=w.heap.setIfInBounds i o }:=
 ⟨rfl,rfl,rfl,by simp,λc _ k=>by simp[show ¬i=c from λe=>k (e▸h)]⟩
theorem te.update{b:Nat}{k:TypeId}(h:te w b M)(ht:P.underlying t=some (.map k e))(hk:P.underlying k=some .string)(s n):
 ∃w',(Instr.mapUpdate t (.map (some b)) (.string s) (.int .i64 n)).run P w=.ok () w'/\te w' b (pW M s n)/\Fr (λc=>c=b) w w':=by
 obtain⟨es,clock,J,hs,I,hM⟩:=h;have y:IsKey .string (.string s):=trivial;have V:∀x∈es.toList,IsKey .string x.key:=λx q=>by obtain⟨s',n,W,_⟩:=I x q;rw[W];trivial
 rcases findNow_spec y es.toList 0 V with⟨W,Y⟩|⟨j,e0,W,Y,h3⟩
 .refine ⟨{ w with heap:=w.heap.setIfInBounds b (.map (es.push { key:=.string s,val:=.int .i64 n,born:=clock }) (clock+1)) },?_,⟨_,_,(heap_set J).1,stamped_push hs Y,?_,?_⟩,AM rfl⟩
  .simp [Instr.mapUpdate,run_underlying ht,MapKept.run_getObj_map J,run_checkKey hk y,run_findKey hk W,MapKept.run_setObj_map _ J,Result.andThen]
  .intro x q;simp only[et,bn,bF] at q;rcases q with q|rfl
   .exact I x q
   .exact ⟨s,n,rfl,rfl⟩
  .intro s' n';simp only[et,bn,bF,pW];by_cases H:s'=s
   .subst H;rw[if_pos rfl];constructor
    .intro hh;cases hh;exact⟨_,.inr rfl,rfl,rfl⟩
    .rintro ⟨x,q|rfl,U,r⟩
     .exact absurd U (Y x q)
     .simp at r;rw[r]
   .rw [if_neg H,hM];constructor
    .rintro ⟨x,q,hr⟩;exact⟨x,.inl q,hr⟩
    .rintro ⟨x,q|rfl,U,r⟩
     .exact ⟨x,q,U,r⟩
     .simp at U;exact absurd U.symm H
 .have R:es[j]? =some e0:=by simpa using Y
  have hkk:∀S,es[j]? =some S->({ S with key:=.string s,val:=.int .i64 n }:MapEntry).key=S.key:=λS G=>by rw[R] at G;cases G;exact h3.symm
  have z:∀x,x∈(es.modify j λe=>{ e with key:=.string s,val:=.int .i64 n }).toList↔(x∈es.toList/\x.key≠ .string s)\/x={ e0 with key:=.string s,val:=.int .i64 n }:=by
   intro x;have hjl:j<es.size:=(cV.1 R).1;constructor
   .intro q;obtain⟨i,C⟩:=cy.1 q;rw[dz,dF] at C;by_cases F:j=i
    .subst F;rw[if_pos rfl,R] at C;simp at C;exact .inr C.symm
    .rw [if_neg F] at C;have hxm:x∈es.toList:=eu.2 (eS C);refine .inl ⟨hxm,λU=>F ?_⟩;have hnd:=hs.2.2;have e1:(es.toList.map (·.key))[j]? =some (.string s):=by simp[R,h3]
     have e2:(es.toList.map (·.key))[i]? =some (.string s):=by simp[C,U]
     exact(dG (by simpa using hjl) hnd).1 (e1.trans e2.symm)
   .rintro (⟨q,U⟩|rfl)
    .obtain ⟨i,C⟩:=cy.1 q;refine cy.2 ⟨i,?_⟩;rw[dz,dF];have F:¬j=i:=λe=>by subst e;rw[Y] at C;cases C;exact U h3
     rw[if_neg F];simpa using C
    .refine cy.2 ⟨j,?_⟩;rw[dz,dF,if_pos rfl,R];rfl
  refine⟨{ w with heap:=w.heap.setIfInBounds b (.map (es.modify j λe=>{ e with key:=.string s,val:=.int .i64 n }) clock) },?_,⟨_,_,(heap_set J).1,stamped_modify hs _ _ (λ_ _=>rfl) (λS _ G=>hkk S G),?_,?_⟩,AM rfl⟩
  .simp [Instr.mapUpdate,run_underlying ht,MapKept.run_getObj_map J,run_checkKey hk y,run_findKey hk W,R,h3,run_keyThatStays y,MapKept.run_setObj_map _ J,Result.andThen]
  .intro x q;rcases(z x).1 q with⟨h,_⟩|rfl
   .exact I x h
   .exact ⟨s,n,rfl,rfl⟩
  .intro s' n';simp only[pW];by_cases H:s'=s
   .subst H;rw[if_pos rfl];constructor
    .intro hh;cases hh;exact⟨_,(z _).2 (.inr rfl),rfl,rfl⟩
    .rintro ⟨x,q,U,r⟩;rcases(z x).1 q with⟨_,h⟩|rfl
     .exact absurd U h
     .simp at r;rw[r]
   .rw [if_neg H,hM];constructor
    .rintro ⟨x,q,U,r⟩;exact⟨x,(z x).2 (.inl ⟨q,by rw[U];simpa using H⟩),U,r⟩
    .rintro ⟨x,q,U,r⟩;rcases(z x).1 q with⟨h,_⟩|rfl
     .exact ⟨x,h,U,r⟩
     .simp at U;exact absurd U.symm H
theorem te.delete{b:Nat}{k:TypeId}{ty:TypeId}(h:te w b M)(ht:P.underlying t=some (.map k e))(Y:P.underlying k=some .string)(s):
 ∃w',(Builtin.delete_ #[t,k] ty #[.map (some b),.string s]).run P w=.ok (.tuple #[]) w'/\te w' b (PR M s)/\Fr (λc=>c=b) w w':=by
 obtain⟨es,clock,H,hs,C,hM⟩:=h;have r:IsKey .string (.string s):=trivial;have J:∀x∈es.toList,IsKey .string x.key:=λx q=>by obtain⟨s',n,R,_⟩:=C x q;rw[R];trivial
 rcases findNow_spec r es.toList 0 J with⟨R,S⟩|⟨j,e0,R,S,h3⟩
 .refine ⟨{ w with heap:=w.heap.setIfInBounds b (.map es clock) },?_,⟨_,_,(heap_set H).1,hs,C,?_⟩,AM rfl⟩
  .simp [Builtin.delete_,run_underlying ht,MapKept.run_getObj_map H,run_checkKey Y r,run_findKey Y R,MapKept.run_setObj_map _ H,Result.andThen]
  .intro s' n';simp only[PR];by_cases I:s'=s
   .subst I;rw[if_pos rfl];exact⟨λh=>(by cases h),λ⟨x,q,U,_⟩=>absurd U (S x q)⟩
   .rw [if_neg I,hM]
 .have hjl:j<es.toList.length:=(aJ.1 S).1;have F:j<es.size:=by simpa using hjl
  have V:(es.eraseIdxIfInBounds j).toList=es.toList.eraseIdx j:=by
   unfold Array.eraseIdxIfInBounds;rw[dif_pos F];simp
  have y:∀x,x∈(es.eraseIdxIfInBounds j).toList↔x∈es.toList/\x.key≠ .string s:=by
   intro x;rw[V];have W:=hs.2.2;constructor
   .intro q;refine⟨(List.eraseIdx_sublist _ _).subset q,λU=>?_⟩;obtain⟨i,z⟩:=cy.1 q;rw[eT] at z;have e1:(es.toList.map (·.key))[j]? =some (.string s):=by rw[bt,S];simp[h3]
    split at z
    .have e2:(es.toList.map (·.key))[i]? =some (.string s):=by rw[bt,z];simp[U]
     have:=(dG (by simpa using F) W).1 (e1.trans e2.symm);omega
    .have e2:(es.toList.map (·.key))[i+1]? =some (.string s):=by rw[bt,z];simp[U]
     have:=(dG (by simpa using F) W).1 (e1.trans e2.symm);omega
   .rintro ⟨q,U⟩;obtain⟨i,z⟩:=cy.1 q;have hij:i≠j:=λe=>by subst e;rw[S] at z;cases z;exact U h3
    rw[cy];by_cases hlt:i<j
    .exact ⟨i,by rw[eT,if_pos hlt];exact z⟩
    .exact ⟨i-1,by rw[eT,if_neg O,show i-1+1=i by omega];exact z⟩
  refine⟨{ w with heap:=w.heap.setIfInBounds b (.map (es.eraseIdxIfInBounds j) clock) },?_,⟨_,_,(heap_set H).1,stamped_erase hs j,?_,?_⟩,AM rfl⟩
  .simp [Builtin.delete_,run_underlying ht,MapKept.run_getObj_map H,run_checkKey Y r,run_findKey Y R,MapKept.run_setObj_map _ H,Result.andThen]
  .intro x q;exact C x ((y x).1 q).1
  .intro s' n';simp only[PR];by_cases I:s'=s
   .subst I;rw[if_pos rfl];exact⟨λh=>(by cases h),λ⟨x,q,U,_⟩=>absurd U ((y x).1 q).2⟩
   .rw [if_neg I,hM];constructor
    .rintro ⟨x,q,U,G⟩;exact⟨x,(y x).2 ⟨q,by rw[U];simpa using I⟩,U,G⟩
    .rintro ⟨x,q,U,G⟩;exact⟨x,((y x).1 q).1,U,G⟩
def GX(w:World)(c i:Nat)(M:fB->Option Int)(h:List (fB×Int))(j:Nat):Prop:=
 ∃es clock seen,w.heap[c]? =some (.mapIter (some i) clock seen clock)/\w.heap[i]? =some (.map es clock)/\Stamped es clock/\(∀ e∈es.toList,∃s n,e.key=.string s/\e.val=.int .i64 n)/\
  (∀ s n,M s=some n↔ ∃e∈es.toList,e.key=.string s/\e.val=.int .i64 n)/\(leftOf es seen).size=j/\
  ∀s n,(s,n)∈h↔ ∃e∈es.toList,e.key=.string s/\e.val=.int .i64 n/\seen.contains e.born=true
def YG(w:World)(c h:Nat)(s:fB)(n:Int):Prop:=
 ∃(es:Array MapEntry) (clock:Nat) (seen:Array Nat) (e:MapEntry),w.heap[c]? =some (.mapIter (some h) clock (seen.push e.born) clock)/\w.heap[h]? =some (.map es clock)/\Stamped es clock/\e∈es.toList/\e.key=.string s/\e.val=.int .i64 n
theorem GX.Gc{dn:List (fB×Int)}{k:Nat}(h:GX w e s M dn k)(j:i.heap[e]? =w.heap[e]?)(q:i.heap[s]? =w.heap[s]?):GX i e s M dn k:=by
 obtain⟨es,clock,seen,a,c,r⟩:=h;exact⟨es,clock,seen,j.trans a,q.trans c,r⟩
theorem GX.lt(h:GX w e j M i q):e<w.heap.size/\j<w.heap.size:=by
 obtain⟨es,clock,seen,a,c,r⟩:=h;exact⟨(cV.1 a).1,(cV.1 c).1⟩
theorem te.range{P:Program}{w:World}{b:Nat}{M:fB->Option Int}{t y e:TypeId}(h:te w b M)(q:P.underlying t=some (.map y e)):
 ∃U m,(Instr.range t (.map (some b))).run P w=.ok (.pointer (some ⟨w.heap.size,0,none⟩)) U/\GX U w.heap.size b M [] m/\Fr (λ_=>False) w U:=by
 have c:=h.lt;obtain⟨es,clock,j,r,i,x⟩:=h;refine⟨_,_,run_range_map w t y e b es clock q j,⟨es,clock,#[],(MapKept.heap_alloc w _).1,by rw[(MapKept.heap_alloc w _).2 b c];exact j,r,i,x,rfl,?_⟩,(Fr.refl _ w).alloc _⟩;intro s n;simp
theorem GX.next{P:Program}{w:World}{b:Nat}{M:fB->Option Int}{z:Nat}{dn:List (fB×Int)}{m:Nat}{ty:TypeId}(h:GX w z b M dn m):
 ((Instr.next (.pointer (some ⟨z,0,none⟩)) false ty).run P w=.ok (.tuple #[.bool false]) w/\∀s n,M s=some n->(s,n)∈dn)\/
 ∃s n m' w',(Instr.next (.pointer (some ⟨z,0,none⟩)) false ty).run P w=.ok (.tuple #[.bool true,.string s,.int .i64 n]) w'/\M s=some n/\(s,n)∉dn/\m'<m/\
  GX w' z b M ((s,n)::dn) m'/\YG w' z b s n/\Fr (λc=>c=z) w w':=by
 obtain⟨es,clock,seen,hit,hb,Y,hks,hM,hm,R⟩:=h;subst hm;simp only[Instr.next,getObj,Sem.run_bind,Sem.run,hit,hb,Result.andThen,next_test_false seen es clock clock Y.1 (ae _),bu,if_false];have C:∀x∈(leftOf es seen).toList,x.born<clock:=λx k=>Y.1 x (mem_left k).1
 have F:∀x∈(leftOf es seen).toList,x∈es.toList/\seen.contains x.born=false:=λx k=>mem_left k
 have G:∀x∈es.toList,seen.contains x.born=false->x∈(leftOf es seen).toList:=λx k hc=>by
  unfold leftOf;exact eu.2 (Array.mem_filter.2 ⟨eu.1 k,by rw[hc];rfl⟩)
 have V:∀x∈(leftOf es seen).toList,(leftOf es (seen.push x.born)).size<(leftOf es seen).size:=λx k=>left_shrinks es seen x k
 have efold:Array.filter (λe=> !seen.contains e.born) es=leftOf es seen:=rfl;rw[efold];generalize hL:leftOf es seen=L at C F G V ⊢;have e1:L.filter (λx=>decide (x.born<clock))=L:=Array.filter_eq_self.2 (λx k=>by simpa using C x (by simpa using k));have e2:L.filter (λx=>decide (x.born≥clock))= #[]:=by
  rw[Array.filter_eq_empty_iff];intro x k;have:=C x (by simpa using k);simp;omega
 simp only[e1,e2,Array.append_empty];by_cases h0:L.size=0
 .left;have:L= #[]:=ft h0;subst this;refine⟨?_,?_⟩
  .simp [choose,Sem.run,Question.forced]
  .intro s n hsn;obtain⟨x,k,U,q⟩:=(hM s n).1 hsn;refine(R s n).2 ⟨x,k,U,q,?_⟩;cases hc:seen.contains x.born with
   |true=>rfl
   |false=>exact absurd (G x k hc) (by simp)
 .right;have hne:L.isEmpty=false:=by simp[Array.isEmpty,h0]
  simp only[hne,bu,if_false,Array.empty_append,Array.size_map];have hch:∃(j:Nat) (H:World),j<L.size/\H.heap=w.heap/\Fr (λ_=>False) w H/\(choose (Question.mapNext L.size)).run P w=.ok j H:=by
   by_cases hf:L.size<=1
   .exact ⟨0,w,O,rfl,Fr.refl _ w,by simp[choose,Sem.run,Question.forced,hf]⟩
   .exact ⟨_,w.drew,Nat.mod_lt _ O,rfl,(Fr.refl _ w).drew,by
     simp only[choose,Sem.run,Question.forced,decide_eq_true_eq,hf,if_false,Question.cut];rfl⟩
  obtain⟨j,H,hj,I,hfr,hrun⟩:=hch;have hjm:L[j]∈L.toList:=by simp
  obtain⟨r,hjs⟩:=F _ hjm;obtain⟨s,n,y,J⟩:=hks _ r;have i:H.heap[z]? =some (.mapIter (some b) clock seen clock):=by rw[I];exact hit
  have S:H.heap[b]? =some (.map es clock):=by rw[I];exact hb
  have W:b≠z:=λe=>by rw[e,i] at S;cases S
  refine⟨s,n,_,{ H with heap:=H.heap.setIfInBounds z (.mapIter (some b) clock (seen.push L[j].born) clock) },?_,(hM s n).2 ⟨_,r,y,J⟩,?_,V _ hjm,
   ⟨es,clock,_,(heap_set i).1,by rw[(heap_set i).2 b W];exact S,Y,hks,hM,rfl,?_⟩,⟨es,clock,seen,L[j],(heap_set i).1,by rw[(heap_set i).2 b W];exact S,Y,r,y,J⟩,?_⟩
  .simp only[hrun,Array.getElem?_map,eU hj,bH,Sem.run_bind,setObj,Sem.run,i,Result.andThen,y,J];rfl
  .intro hd;obtain⟨x,k,U,q,hxs⟩:=(R s n).1 hd;have:=OG Y k r (U.trans y.symm);rw[this,hjs] at hxs;cases hxs
  .intro s' n';simp only[bh,bW,contains_push,ew,beq_iff_eq];constructor
   .rintro (⟨rfl,rfl⟩|hd)
    .exact ⟨_,r,y,J,.inr rfl⟩
    .obtain ⟨x,k,U,q,hxs⟩:=(R s' n').1 hd;exact⟨x,k,U,q,.inl hxs⟩
   .rintro ⟨x,k,U,q,hxs|hxs⟩
    .exact .inr ((R s' n').2 ⟨x,k,U,q,hxs⟩)
    .have h1:=find_born x es.toList Y.2.1 k;have h2:=find_born L[j] es.toList Y.2.1 r;rw[hxs] at h1;rw[h1] at h2;cases h2;rw[y] at U;rw[J] at q;simp at U q;exact .inl ⟨U.symm,q.symm⟩
  .have f2:Fr (λc=>c=z) H { H with heap:=H.heap.setIfInBounds z (.mapIter (some b) clock (seen.push L[j].born) clock) }:=AM rfl;exact hfr.none.trans f2
theorem YG.entry{P:Program}{w:World}{y:Nat}{c:Nat}{s:fB}{n:Int}(h:YG w c y s n):(Instr.entry (.pointer (some ⟨c,0,none⟩))).run P w=.ok (.tuple #[.string s,.int .i64 n]) w:=by
 obtain⟨es,clock,seen,e,k,U,i,j,q,r⟩:=h;have x:es.find? (·.born==e.born)=some e:=by rw[<- Array.find?_toList];exact find_born e es.toList i.2.1 j
 simp only[Instr.entry,getObj,Sem.run_bind,Sem.run,k,U,Result.andThen,Array.back?_push,bne_self_eq_false,bu,if_false,x,q,r];rfl
def wh(w:World)(c:Nat)(M:fB->Option Value):Prop:=
 ∃es clock,w.heap[c]? =some (.map es clock)/\Stamped es clock/\(∀ e∈es.toList,∃s,e.key=.string s)/\
  ∀s v,M s=some v↔ ∃e∈es.toList,e.key=.string s/\e.val=v
def TY(M:fB->Option Value)(s:fB)(v:Value):fB->Option Value:=λt=>if t=s then some v else M t
theorem wh.lt(h:wh w c M):c<w.heap.size:=by
 obtain⟨es,clock,k,_⟩:=h;exact(cV.1 k).1
theorem wh.Gc(h:wh w e M)(k:c.heap[e]? =w.heap[e]?):wh c e M:=by
 obtain⟨es,clock,U,r⟩:=h;exact⟨es,clock,k.trans U,r⟩
theorem wh.made(w:World):wh (w.alloc (.map #[] 0)) w.heap.size λ_=>none:=
 ⟨#[],0,(MapKept.heap_alloc w _).1,stamped_empty 0,by simp,by simp⟩
theorem JE(c:(P.info? e).bind (·.zero)=some z):(zeroValue e).run P w=.ok z w:=by
 cases b:P.info? e with
 |none=>simp[b] at c
 |some i=>
  rw[b] at c;simp only[cw] at c;simp[zeroValue,typeInfo,b,c,Result.andThen]
theorem wh.lookup{P:Program}{w:World}{b:Nat}{M:fB->Option Value}{t k e:TypeId}(h:wh w b M)(H:P.underlying t=some (.map k e))(q:P.underlying k=some .string){z:Value}(S:(P.info? e).bind (·.zero)=some z)(s):
 (Instr.lookup t (.map (some b)) (.string s) false).run P w=.ok ((M s).getD z) w:=by
 obtain⟨es,clock,I,W,r,J⟩:=h;have U:IsKey .string (.string s):=trivial;have c:∀x∈es.toList,IsKey .string x.key:=λx y=>by obtain⟨Y,i⟩:=r x y;rw[i];trivial
 rcases findNow_spec U es.toList 0 c with⟨i,C⟩|⟨j,R,i,C,V⟩
 .have:M s=none:=by
   cases F:M s with
   |none=>rfl
   |some n=>obtain⟨x,y,G,_⟩:=(J s n).1 F;exact absurd G (C x y)
  rw[this];simp[Instr.lookup,run_underlying H,MapKept.run_getObj_map I,run_checkKey q U,run_findKey q i,JE S,Result.andThen]
 .have F:=aO C;have:M s=some R.val:=(J s _).2 ⟨R,F,V,rfl⟩;rw[this];simp[Instr.lookup,run_underlying H,MapKept.run_getObj_map I,run_checkKey q U,run_findKey q i,Result.andThen]
theorem wh.update{b:Nat}{k:TypeId}(h:wh w b M)(ht:P.underlying t=some (.map k e))(hk:P.underlying k=some .string)(s v):
 ∃w',(Instr.mapUpdate t (.map (some b)) (.string s) v).run P w=.ok () w'/\wh w' b (TY M s v)/\Fr (λc=>c=b) w w':=by
 obtain⟨es,clock,J,hs,I,hM⟩:=h;have y:IsKey .string (.string s):=trivial;have V:∀x∈es.toList,IsKey .string x.key:=λx q=>by obtain⟨s',W⟩:=I x q;rw[W];trivial
 rcases findNow_spec y es.toList 0 V with⟨W,Y⟩|⟨j,e0,W,Y,h3⟩
 .refine ⟨{ w with heap:=w.heap.setIfInBounds b (.map (es.push { key:=.string s,val:=v,born:=clock }) (clock+1)) },?_,⟨_,_,(heap_set J).1,stamped_push hs Y,?_,?_⟩,AM rfl⟩
  .simp [Instr.mapUpdate,run_underlying ht,MapKept.run_getObj_map J,run_checkKey hk y,run_findKey hk W,MapKept.run_setObj_map _ J,Result.andThen]
  .intro x q;simp only[et,bn,bF] at q;rcases q with q|rfl
   .exact I x q
   .exact ⟨s,rfl⟩
  .intro s' n';simp only[et,bn,bF,TY];by_cases H:s'=s
   .subst H;rw[if_pos rfl];constructor
    .intro hh;cases hh;exact⟨_,.inr rfl,rfl,rfl⟩
    .rintro ⟨x,q|rfl,U,r⟩
     .exact absurd U (Y x q)
     .simp at r;rw[r]
   .rw [if_neg H,hM];constructor
    .rintro ⟨x,q,hr⟩;exact⟨x,.inl q,hr⟩
    .rintro ⟨x,q|rfl,U,r⟩
     .exact ⟨x,q,U,r⟩
     .simp at U;exact absurd U.symm H
 .have R:es[j]? =some e0:=by simpa using Y
  have hkk:∀S,es[j]? =some S->({ S with key:=.string s,val:=v }:MapEntry).key=S.key:=λS G=>by rw[R] at G;cases G;exact h3.symm
  have z:∀x,x∈(es.modify j λe=>{ e with key:=.string s,val:=v }).toList↔(x∈es.toList/\x.key≠ .string s)\/x={ e0 with key:=.string s,val:=v }:=by
   intro x;have hjl:j<es.size:=(cV.1 R).1;constructor
   .intro q;obtain⟨i,C⟩:=cy.1 q;rw[dz,dF] at C;by_cases F:j=i
    .subst F;rw[if_pos rfl,R] at C;simp at C;exact .inr C.symm
    .rw [if_neg F] at C;have hxm:x∈es.toList:=eu.2 (eS C);refine .inl ⟨hxm,λU=>F ?_⟩;have hnd:=hs.2.2;have e1:(es.toList.map (·.key))[j]? =some (.string s):=by simp[R,h3]
     have e2:(es.toList.map (·.key))[i]? =some (.string s):=by simp[C,U]
     exact(dG (by simpa using hjl) hnd).1 (e1.trans e2.symm)
   .rintro (⟨q,U⟩|rfl)
    .obtain ⟨i,C⟩:=cy.1 q;refine cy.2 ⟨i,?_⟩;rw[dz,dF];have F:¬j=i:=λe=>by subst e;rw[Y] at C;cases C;exact U h3
     rw[if_neg F];simpa using C
    .refine cy.2 ⟨j,?_⟩;rw[dz,dF,if_pos rfl,R];rfl
  refine⟨{ w with heap:=w.heap.setIfInBounds b (.map (es.modify j λe=>{ e with key:=.string s,val:=v }) clock) },?_,⟨_,_,(heap_set J).1,stamped_modify hs _ _ (λ_ _=>rfl) (λS _ G=>hkk S G),?_,?_⟩,AM rfl⟩
  .simp [Instr.mapUpdate,run_underlying ht,MapKept.run_getObj_map J,run_checkKey hk y,run_findKey hk W,R,h3,run_keyThatStays y,MapKept.run_setObj_map _ J,Result.andThen]
  .intro x q;rcases(z x).1 q with⟨h,_⟩|rfl
   .exact I x h
   .exact ⟨s,rfl⟩
  .intro s' n';simp only[TY];by_cases H:s'=s
   .subst H;rw[if_pos rfl];constructor
    .intro hh;cases hh;exact⟨_,(z _).2 (.inr rfl),rfl,rfl⟩
    .rintro ⟨x,q,U,r⟩;rcases(z x).1 q with⟨_,h⟩|rfl
     .exact absurd U h
     .simp at r;rw[r]
   .rw [if_neg H,hM];constructor
    .rintro ⟨x,q,U,r⟩;exact⟨x,(z x).2 (.inl ⟨q,by rw[U];simpa using H⟩),U,r⟩
    .rintro ⟨x,q,U,r⟩;rcases(z x).1 q with⟨h,_⟩|rfl
     .exact ⟨x,h,U,r⟩
     .simp at U;exact absurd U.symm H
end
section
open Go Go.RowKit
def np:Ob->Pl->Option Nat
 | .cells _ _,.loc b=>some b
 | .jc _,.loc b=>some b
 | .jK _,.loc b=>some b
 | .ru _ _ _ _,.loc b=>some b
 | .row _ _,.row b _ _=>b
 | .buf _ _ _ _,.row b _ _=>b
 |_,_=>none
def jP:Ob->Pl->Nat->Prop
 | .rU own _,_,b=>own b
 |o,p,b=>np o p=some b
theorem Sr:jP (.rU c e) p h↔c h:=by cases p<;>exact Iff.rfl
theorem oF(h:np o p=some c):jP o p c:=by
 cases o<;>first|exact h|(cases p<;>cases h)
theorem LB(h:np o p=some i)(e:jP o p c):c=i:=by
 cases o<;>first|(have k:np _ p=some c:=e;rw[h] at k;cases k;rfl)|(cases p<;>cases h)
theorem Xr(c:∀own ok,o≠ .rU own ok)(h:jP o p e):np o p=some e:=by
 cases o<;>first|exact h|exact absurd rfl (c _ _)
def GW(m:Mem)(c:fB->Option D)(M:fB->Option Value):Prop:= ∀s,match c s with
 |none=>M s=none
 |some d=> ∃v,M s=some v/\d.Den m v
theorem GW.mono{m c:Mem}{f:fB->Option D}{M:fB->Option Value}(e:pV m c)(h:GW m f M):GW c f M:=λs=>by
 have b:=h s;cases k:f s with
 |none=>rw[k] at b;exact b
 |some d=>rw[k] at b;obtain⟨v,U,i⟩:=b;exact⟨v,U,D.Den.mono e d i⟩
def oJ(g:Gh)(w:World):Ob->Pl->Prop
 | .cells l ty,.loc b=> ∃j,w.heap[b]? =some (.cells ⟨j⟩ ty (0,0))/\iN g l j/\∀o,g.m b o=none
 | .row e k,.row b cap n=>(∃ U,w.ownsRow 0 e k (.slice (b.map λc=>⟨c,0,none⟩) n cap) n U)/\∀c,b=some c->∀o,n*k<=o->g.m c o=none
 | .jd _ _,p=>p=.row none 0 0
 | .buf e k ls q,.row b cap n=>n=ls.length/\(∀ x∈ls,x.length=k)/\(∃ U,w.ownsRow 0 e k (.slice (b.map λc=>⟨c,0,none⟩) n cap) n U/\nk g.m ls.flatten U/\∀u∈U,u.oneCell'=true)/\(∀ c,b=some c->∀o,g.m c o=none)/\∀r,q=some r->r=(b,cap)
 | .jc f,.loc b=>te w b f/\∀o,g.m b o=none
 | .jK f,.loc b=>(∃ M,wh w b M/\GW g.m f M)/\∀o,g.m b o=none
 | .rU own ok,_=>ok g.m w/\(∀ b,own b->b<w.heap.size)/\∀m h w y,pV m h->(∀ b,own b->y.heap[b]? =w.heap[b]?)->(∀ b,own b->∀i,m b i=none->h b i=none)->ok m w->ok h y
 | .ru i f dn cur,.loc b=> ∃c,g.gs[i]? =some (.loc c)/\(∃ k,GX w b c f dn k)/\(∀ s n,cur=some (s,n)->YG w b c s n)/\∀o,g.m b o=none
 | .dead,_=>True
 |_,_=>False
def ac4(g:Gh)(o:Ob)(p:Pl)(c:Nat):Prop:=jP o p c\/∃i f dn cur,o=.ru i f dn cur/\g.gs[i]? =some (.loc c)
structure jX (GL:Nat->List D) (ob:List Ob) (g:Gh) (w:World):Prop where
 len:ob.length=g.gs.length
 qM:∀(i:Nat) o p,ob[i]? =some o->g.gs[i]? =some p->oJ g w o p
 th:∀(j i:Nat) f dn cur,ob[j]? =some (.ru i f dn cur)->ob[i]? =some (.jc f)
 xk:∀(i j:Nat) oi oj pi pj b,ob[i]? =some oi->ob[j]? =some oj->g.gs[i]? =some pi->g.gs[j]? =some pj->jP oi pi b->jP oj pj b->i=j
 sat:∀b o x,g.m b o=some x->w.cell? ⟨b,o,none⟩=some x/\x.oneCell'=true
 Pe:∀b,oU g.m b 0 (GL b)
theorem jX.place{c:List Ob}(h:jX e c g w){i:Nat}(j:c[i]? =some o):∃p,g.gs[i]? =some p:=by
 have b:=(aJ.1 j).1;rw[h.len] at b;exact⟨_,aZ b⟩
def tc(g c:Gh):Ob->Ob->Prop
 | .cells l ty,.cells l' ty'=>ty=ty'/\∀b,iN g l b->iN c l' b
 | .jd e k,.row e' k'=>e=e'/\k=k'
 | .dead,.dead=>True
 |_,.dead=>True
 | .row e k,.row e' k'=>e=e'/\k=k'
 | .jd e k,.jd e' k'=>e=e'/\k=k'
 | .buf e k ls q,.buf e' k' ls' q'=>e=e'/\k=k'/\ls=ls'/\q=q'/\∀b,nk g.m ls.flatten b->nk c.m ls.flatten b
 | .jc f,.jc f'=>f=f'
 | .jK f,.jK f'=>f=f'/\pV g.m c.m
 | .rU o k,.rU o' k'=>o=o'/\k=k'/\pV g.m c.m
 | .ru i f dn cur,.ru i' f' dn' cur'=>i=i'/\f=f'/\dn=dn'/\(cur=cur'\/cur'=none)
 |_,_=>False
theorem tc.jk{b:Nat}(h:tc g i o c)(j:jP c p b)(q:∀w,oJ g w o p->True):jP o p b\/∃e k,o=.jd e k:=by
 cases o<;>cases c<;>cases p<;>simp_all [tc,jP,np]
theorem oJ.lt{g:Gh}{w:World}{o:Ob}{p:Pl}{s:Nat}(h:oJ g w o p)(i:jP o p s):s<w.heap.size:=by
 by_cases U:∃own ok,o=.rU own ok
 .obtain ⟨own,ok,rfl⟩:=U;cases p<;>exact h.2.1 s i
 have i:=Xr (λown ok e=>U ⟨own,ok,e⟩) i;cases o<;>cases p<;>simp only[np,an,reduceCtorEq] at i
 case jK.loc=>subst i;obtain⟨⟨M,j,_⟩,_⟩:=h;exact j.lt
 case cells.loc=>subst i;obtain⟨r,h,_⟩:=h;exact(cV.1 h).1
 case jc.loc=>subst i;exact h.1.lt
 case ru.loc=>subst i;obtain⟨c,_,⟨k,h⟩,_⟩:=h;exact h.lt.1
 case row.row=>subst i;obtain⟨⟨q,h⟩,_⟩:=h;exact(h.lt s rfl).2
 case buf.row=>subst i;obtain⟨_,_,⟨q,h,_⟩,_⟩:=h;exact(h.lt s rfl).2
theorem oJ.Gc{g g':Gh}{w C:World}{o o':Ob}{p:Pl}(j:tc g g' o o')(hat:∀(i b:Nat),g.gs[i]? =some (.loc b)->g'.gs[i]? =some (.loc b))
 (G:∀b,ac4 g o p b->C.heap[b]? =w.heap[b]?) (J:∀b,jP o p b->∀i,g.m b i=none->g'.m b i=none) (h:oJ g w o p):oJ g' C o' p:=by
 cases o<;>cases o'<;>simp only[tc] at j<;>try (first|exact j.elim|trivial)
 case rU.rU o k o' k'=>
  obtain⟨rfl,rfl,R⟩:=j;have x:k g.m w/\(∀ b,o b->b<w.heap.size)/\∀m S w C,pV m S->(∀ b,o b->C.heap[b]? =w.heap[b]?)->(∀ b,o b->∀i,m b i=none->S b i=none)->k m w->k S C:=by cases p<;>exact h
  have y:k g'.m C/\(∀ b,o b->b<C.heap.size)/\∀m S w C,pV m S->(∀ b,o b->C.heap[b]? =w.heap[b]?)->(∀ b,o b->∀i,m b i=none->S b i=none)->k m w->k S C:=⟨x.2.2 _ _ _ _ R (λb U=>G b (.inl U)) (λb U=>J b U) x.1,λb U=>by
   have I:=G b (.inl U);have V:=x.2.1 b U;have W:w.heap[b]? =some w.heap[b]:=eU V;rw[W] at I;exact(cV.1 I).1,x.2.2⟩
  cases p<;>exact y
 case jK.jK f f'=>
  cases p with
  |loc b=>
   obtain⟨rfl,R⟩:=j;obtain⟨⟨M,z,x⟩,y⟩:=h;exact⟨⟨M,z.Gc (G b (.inl rfl)),x.mono R⟩,λi=>J b rfl i (y i)⟩
  |row b c n=>exact h.elim
 case cells.cells l ty l' ty'=>
  cases p with
  |loc b=>
   obtain⟨rfl,hl⟩:=j;obtain⟨vs,z,x,y⟩:=h;exact⟨vs,(G b (.inl rfl)).trans z,hl vs x,λi=>J b rfl i (y i)⟩
  |row b c n=>exact h.elim
 case row.row e k e' k'=>
  cases p with
  |loc b=>exact h.elim
  |row b c n=>
   obtain⟨rfl,rfl⟩:=j;obtain⟨⟨xs,z⟩,x⟩:=h;refine⟨⟨xs,z.1,?_⟩,λc F o ho=>J c F o (x c F o ho)⟩;rcases z.2 with y|⟨Y,cap,cur,H,y,I,W⟩
   .exact .inl y
   .refine .inr ⟨Y,cap,cur,H,y,?_,W⟩;rw[G Y (.inl ?_)];exact I;cases b with
    |none=>simp at H
    |some b=>simp at H;simp[jP,np,H.1]
 case buf.buf e k ls q e' k' ls' q'=>
  cases p with
  |loc b=>exact h.elim
  |row b c n=>
   obtain⟨rfl,rfl,rfl,rfl,hd⟩:=j;obtain⟨h0,z,⟨xs,x,y,I⟩,W,h9⟩:=h;refine⟨h0,z,⟨xs,⟨x.1,?_⟩,hd _ y,I⟩,λc F o=>J c F o (W c F o),h9⟩;rcases x.2 with V|⟨Y,cap,cur,H,V,h7,h8⟩
   .exact .inl V
   .refine .inr ⟨Y,cap,cur,H,V,?_,h8⟩;rw[G Y (.inl ?_)];exact h7;cases b with
    |none=>simp at H
    |some b=>simp at H;simp[jP,np,H.1]
 case jd.row e k e' k'=>
  obtain⟨rfl,rfl⟩:=j;simp only[oJ] at h;subst h;exact⟨⟨[],by simp,.inl ⟨rfl,rfl⟩⟩,λc F=>by cases F⟩
 case jc.jc f f'=>
  cases p with
  |loc b=>subst j;exact⟨h.1.Gc (G b (.inl rfl)),λi=>J b rfl i (h.2 i)⟩
  |row b c n=>exact h.elim
 case ru.ru i f dn cur i' f' dn' cur'=>
  cases p with
  |loc b=>
   obtain⟨rfl,rfl,rfl,hcur⟩:=j;obtain⟨c,z,⟨k,x⟩,y,I⟩:=h;have F:=G c (.inr ⟨_,_,_,_,rfl,z⟩);have U:=G b (.inl rfl);refine⟨c,hat _ _ z,⟨k,x.Gc U F⟩,λs n e=>?_,λi=>J b rfl i (I i)⟩;rcases hcur with rfl|rfl
   .obtain ⟨es,clock,seen,en,a1,a2,r⟩:=y s n e;exact⟨es,clock,seen,en,U.trans a1,F.trans a2,r⟩
   .cases e
  |row b c n=>exact h.elim
theorem jX.step{ob c:List Ob}(h:jX GL ob g w)(p:Nat->Prop)(hmm:pV g.m C.m)(hat:∀(i b:Nat),g.gs[i]? =some (.loc b)->C.gs[i]? =some (.loc b))
 (hpl:∀(i:Nat) q,¬p i->g.gs[i]? =some q->C.gs[i]? =some q)
 (hsat:∀b o x,C.m b o=some x->w'.cell? ⟨b,o,none⟩=some x/\x.oneCell'=true) (hlen:c.length=C.gs.length)
 (I:∀(j:Nat) U,¬p j->c[j]? =some U->∃o,ob[j]? =some o/\tc g C o U)
 (hits:∀(j i:Nat) f dn J,c[j]? =some (.ru i f dn J)->c[i]? =some (.jc f))
 (hitp:∀(j i:Nat) f dn J,¬p j->c[j]? =some (.ru i f dn J)->¬p i)
 (F:∀(j:Nat) o q b,¬p j->ob[j]? =some o->g.gs[j]? =some q->jP o q b->w'.heap[b]? =w.heap[b]? /\∀i,g.m b i=none->C.m b i=none)
 (htou:∀(j:Nat) U,p j->c[j]? =some U->∃q',C.gs[j]? =some q'/\oJ C w' U q')
 (hblo:∀(j:Nat) U q' b,p j->c[j]? =some U->C.gs[j]? =some q'->jP U q' b->(∃ i o q,p i/\ob[i]? =some o/\g.gs[i]? =some q/\jP o q b)\/w.heap.size<=b)
 (hdis:∀(i j:Nat) oi oj pi V b,p i->p j->c[i]? =some oi->c[j]? =some oj->C.gs[i]? =some pi->C.gs[j]? =some V->jP oi pi b->jP oj V b->i=j):
 jX GL c C w':=by
 have old:∀(j:Nat) U q' b,¬p j->c[j]? =some U->C.gs[j]? =some q'->jP U q' b->∃o,ob[j]? =some o/\tc g C o U/\g.gs[j]? =some q'/\jP o q' b:=by
  intro j U q' b W M Y G;obtain⟨o,z,s⟩:=I j U W M;obtain⟨q,r⟩:=h.place z;have R:=hpl j q W r;rw[Y] at R;cases R;have y:=h.qM j o q' z r;refine⟨o,z,s,r,?_⟩;rcases s.jk G (λ_ _=>trivial) with h1|⟨e,k,rfl⟩
  .exact h1
  .simp only[oJ] at y;subst y;cases U<;>first|exact False.elim s|(simp[jP,np] at G)
 refine⟨hlen,λj U q' M Y=>?_,hits,λi j oi oj pi V b h1 h2 h3 h4 h5 h6=>?_,hsat,λb=>oU.mono hmm _ (h.Pe b)⟩
 .by_cases W:p j
  .obtain ⟨q,r,y⟩:=htou j U W M;rw[Y] at r;cases r;exact y
  .obtain ⟨o,z,s⟩:=I j U W M;obtain⟨q,r⟩:=h.place z;have R:=hpl j q W r;rw[Y] at R;cases R;by_cases S:U=.dead
   .subst S;cases q'<;>trivial
   refine(h.qM j o q' z r).Gc s hat (λb G=>?_) (λb G=>(F j o q' b W z r G).2);rcases G with G|⟨i,f,dn,J,rfl,hi⟩
   .exact (F j o q' b W z r G).1
   .have hm:=h.th j i f dn J z;cases U<;>simp only[tc] at s<;>try (exact s.elim)
    case dead=>exact absurd rfl S
    obtain⟨rfl,rfl,rfl,_⟩:=s;exact(F i _ _ b (hitp j _ _ _ _ W M) hm hi rfl).1
 .by_cases hpi:p i
  .by_cases H:p j
   .exact hdis i j oi oj pi V b hpi H h1 h2 h3 h4 h5 h6
   .obtain ⟨o,z,_,r,G⟩:=old j oj V b H h2 h4 h6;rcases hblo i oi pi b hpi h1 h3 h5 with⟨k,ok,qk,hpk,y,hqk,hbk⟩|hge
    .have:=h.xk k j ok o qk V b y z hqk r hbk G;subst this;exact absurd hpk H
    .have:=(h.qM j o V z r).lt G;omega
  .obtain ⟨o,z,_,r,G⟩:=old i oi pi b hpi h1 h3 h5;by_cases H:p j
   .rcases hblo j oj V b H h2 h4 h6 with⟨k,ok,qk,hpk,y,hqk,hbk⟩|hge
    .have:=h.xk k i ok o qk pi b y z hqk r hbk G;subst this;exact absurd hpk hpi
    .have:=(h.qM i o pi z r).lt G;omega
   .obtain ⟨o2,ho2,_,hq2,hb2⟩:=old j oj V b H h2 h4 h6;exact h.xk i j o o2 pi V b z ho2 r hq2 G hb2
structure St where
 n:Nat
 sl:List (Nat×SV)
 ob:List Ob
def vO(t:Nat):List (Nat×SV)->SV
 |[]=>.qe
 |(k,s)::r=>cond (Nat.beq k t) s (vO t r)
def evS(c:Nat->List D)(e:List (Nat×SV)):Operand->SV
 | .tmp t=>vO t e
 | .const v=>.d (.v v)
 | .global b=>.d (.cp (c b))
 | .func f=>.d (.v (.func (.func f) #[] #[]))
structure Bs where
 g:Gh
 w:World
 X:Nat->Prop
 n0:Nat
 df:List Deferred
structure Ji (B:Bs) (ob:List Ob) (g:Gh) (w:World):Prop where
 fr:Fr B.X B.w w
 mem:pV B.g.m g.m
 new:∀b o x,g.m b o=some x->B.g.m b o=none->B.X b\/B.w.heap.size<=b
 own:∀(i:Nat) o p b,ob[i]? =some o->g.gs[i]? =some p->jP o p b->B.X b\/B.w.heap.size<=b
 at':∀(i b:Nat),i<B.n0->B.g.gs[i]? =some (.loc b)->g.gs[i]? =some (.loc b)
structure jE (GL:Nat->List D) (B:Bs) (σ:St) (g:Gh) (a:Act) (w:World):Prop where
 defers:a.defers=B.df
 size:a.tmps.size=σ.n
 j9:∀t,(vO t σ.sl).Den g (a.tmps.getD t undef)
 store:jX GL σ.ob g w
 pG:Ji B σ.ob g w
def Rel(c:Nat->List D)(B:Bs)(σ:St)(a:Act)(w:World):Prop:= ∃g,jE c B σ g a w
theorem jE.ev(h:jE c B σ g a w)(x):(evS c σ.sl x).Den g (a.eval x):=by
 cases x with
 |tmp t=>exact h.j9 t
 |const v=>rfl
 |global b=>exact⟨b,0,rfl,h.store.Pe b⟩
 |func f=>rfl
theorem n5(t c s r):vO t ((c,s)::r)=if c=t then s else vO t r:=by
 show cond (Nat.beq c t) s (vO t r)=_;by_cases h:c=t
 .subst h;simp
 .have:Nat.beq c t=false:=by rw[<- Bool.not_eq_true,Nat.beq_eq];exact h
  rw[this,if_neg h];rfl
theorem jE.put{c:Nat->List D}{B:Bs}{σ:St}{g:Gh}{a:Act}{w:World}(h:jE c B σ g a w){t:Nat}(e:Nat.blt t σ.n=true){s:SV}{x:Value}(i:s.Den g x):jE c B ⟨σ.n,(t,s)::σ.sl,σ.ob⟩ g (a.put (some t) x) w:=by
 have k:t<σ.n:=by simpa[dP] using e
 refine⟨h.defers,by simp[Act.put,h.size],λu=>?_,h.store,h.pG⟩;show(vO u ((t,s)::σ.sl)).Den g ((a.tmps.setIfInBounds t x).getD u undef);rw[n5];by_cases b:t=u
 .subst b;rw[if_pos rfl];have:(a.tmps.setIfInBounds t x).getD t undef=x:=by
   have U:t<a.tmps.size:=by rw[h.size];exact k
   simp[U]
  rw[this];exact i
 .rw [if_neg b];have:(a.tmps.setIfInBounds t x).getD u undef=a.tmps.getD u undef:=by
   simp only[dQ];rw[fu b]
  rw[this];exact h.j9 u
theorem jE.known(h:jE c B σ g a w)(i:s.Den g (a.tmps.getD t undef)):jE c B ⟨σ.n,(t,s)::σ.sl,σ.ob⟩ g a w:=by
 refine⟨h.defers,h.size,λu=>?_,h.store,h.pG⟩;show(vO u ((t,s)::σ.sl)).Den g _;rw[n5];split
 .rename_i e;subst e;exact i
 .exact h.j9 u
inductive Sh where
 |int (k:IntKind)|bool|str|slice|ptr|map|any
structure TI where
 ok:Bool
 size:Nat
 agg:Bool
 wD:List (Nat×Nat×Bool)
 fok:Bool
 zero:List Value
 TP:Bool
 elem:TypeId
 jj:Option (List TypeId)
 sh:List Sh
def ZC(P:Program):Nat->TypeId->List Sh
 |0,_=>[]
 |n+1,T=>match P.underlying T with
  |some (.int k)=>[.int k]
  |some .bool=>[.bool]
  |some .string=>[.str]
  |some (.slice _)=>[.slice]
  |some (.pointer _)=>[.ptr]
  |some (.map _ _)=>[.map]
  |some (.struct b)=>b.toList.flatMap λf=>ZC P n f.type
  |some (.array k e)=>(List.replicate k (ZC P n e)).flatten
  |some _=>[.any]
  |none=>[]
def AH:Option TypeDesc->Bool
 |some (.struct _)=>true
 |some (.array _ _)=>true
 |_=>false
def iH(P:Program)(T:TypeId):TI where
 ok:=(P.info? T).isSome&&(P.underlying T).isSome
 size:=((P.info? T).map (·.size)).getD 0
 agg:=AH (P.underlying T)
 wD:=match P.underlying T with
  |some (.struct b)=>b.toList.map λf=>(f.offset,((P.info? f.type).map (·.size)).getD 0,AH (P.underlying f.type))
  |_=>[]
 fok:=match P.underlying T with
  |some (.struct b)=>b.toList.all λf=>(P.info? f.type).isSome
  |_=>false
 zero:=(((P.info? T).bind (·.zero)).map (·.cells.toList)).getD []
 TP:=((P.info? T).bind (·.zero)).isSome
 elem:=match P.underlying T with
  |some (.slice e)=>e
  |some (.pointer e)=>e
  |some (.array _ e)=>e
  |_=>0
 jj:=match P.underlying T with
  |some (.tuple k)=>some k.toList
  |_=>none
 sh:=ZC P 6 T
theorem Be(h:(iH P T).ok=true):∃i d,P.info? T=some i/\P.underlying T=some d/\(iH P T).size=i.size/\(iH P T).agg=AH (some d):=by
 simp only[iH,bY,dS] at h;obtain⟨⟨i,b⟩,d,hd⟩:=h;exact⟨i,d,b,hd,by simp[iH,b],by simp[iH,hd]⟩
theorem Sj(h:P.underlying T=some c)(w):(isAgg T).run P w=.ok (AH (some c)) w:=by
 cases c<;>simp[isAgg,run_underlying h,AH]
theorem Value.IY{x:Value}(h:x.oneCell'=true):x.cells= #[x]:=by cases x<;>simp_all [Value.cells,Value.oneCell']
theorem pU(e c i):(⟨e,c,none⟩:Addr).add i=⟨e,c+i,none⟩:=by
 unfold Addr.add;split
 .subst_vars;rfl
 .rfl
theorem r5(r:(iH P T).ok=true){b off:Nat}(s:e.length=(iH P T).size)
 (h:∀j x,e[j]? =some x->w.cell? ⟨b,off+j,none⟩=some x) (y:(iH P T).agg=false->∃x,e=[x]):
 (loadVar T ⟨b,off,none⟩).run P w=.ok (if (iH P T).agg then .agg ⟨e⟩ else e.headD undef) w:=by
 obtain⟨i,d,z,hd,C,ha⟩:=Be r;have k:=Sj hd w;rw[<- ha] at k;cases U:(iH P T).agg with
 |true=>
  rw[U] at k;have c:=run_loadCells_list (P:=P) w ⟨b,off,none⟩ e (λj x F=>by rw[pU];exact h j x F);rw[s,C] at c;simp[loadVar,k,sizeOf,typeInfo,z,c]
 |false=>
  rw[U] at k;obtain⟨x,rfl⟩:=y U;have q:=h 0 x rfl;simp at q;simp[loadVar,k,q]
def CH(c:List (Addr×Value))(w:World):Prop:= ∀p∈c,w.cell? p.1=some p.2
def abj(g:Gh)(L:List Nat)(c:List (Addr×Value)):Prop:=
 ∀p∈c,p.1.spot=none/\(g.m p.1.block p.1.off=some p.2\/∃i b,i∈L/\g.gs[i]? =some (.loc b)/\p.1.block=b)
def oV(t:Nat):List (Nat×SV)->Option SV
 |[]=>none
 |(k,s)::r=>cond (Nat.beq k t) (some s) (oV t r)
theorem ou{t:Nat}{s:SV}:∀{l:List (Nat×SV)},oV t l=some s->vO t l=s
 |[],h=>by cases h
 |(k,x)::r,h=>by
  change cond (Nat.beq k t) (some x) (oV t r)=some s at h
  show cond (Nat.beq k t) x (vO t r)=s;cases b:Nat.beq k t with
  |true=>rw[b] at h;simpa using h
  |false=>rw[b] at h;exact ou h
def jb(c:Nat->List D)(e:List (Nat×SV)):Operand->Option SV
 | .tmp t=>oV t e
 | .const v=>some (.d (.v v))
 | .global b=>some (.d (.cp (c b)))
 | .func f=>some (.d (.v (.func (.func f) #[] #[])))
theorem X7(h:jb c e x=some s):evS c e x=s:=by
 cases x with
 |tmp t=>exact ou h
 |const v=>simpa[jb,evS] using h
 |global b=>simpa[jb,evS] using h
 |func f=>simpa[jb,evS] using h
theorem jE.oe(h:jE c B σ g a w)(e:jb c σ.sl x=some s):s.Den g (a.eval x):=by
 have:=h.ev x;rwa [X7 e] at this
def ik(P:Program)(c:Nat->List D)(o:Oper)(σ:St)(K:SV->List Nat->Prop):Prop:=
 ∀B g a w,jE c B σ g a w->∃b s y L,(∀ k,CH b k->(execOp a.eval o).run P k=.ok (.value y) k)/\CH b w/\abj g L b/\s.Den g y/\K s L
theorem nG(h:∀B g a w,jE c B σ g a w->∃s y,(∀ b,(execOp a.eval o).run P b=.ok (.value y) b)/\s.Den g y/\K s []):ik P c o σ K:=λB g a w U=>by
 obtain⟨s,y,e,i,j⟩:=h B g a w U;exact⟨[],s,y,[],λb _=>e b,(λp k=>by cases k),(λp k=>by cases k),i,j⟩
theorem XY(e:o.op=.move x)(h:jb c σ.sl x=some s)(i:K s []):ik P c o σ K:=nG λB g a w b=>⟨s,a.eval x,λk=>by simp[execOp,e],b.oe h,i⟩
theorem mv(e:K s [])(h:o.op=.move x:=by exact rfl)(i:jb c σ.sl x=some s:=by exact rfl):ik P c o σ K:=XY h i e
theorem S1(e:o.op=.assign x)(h:jb c σ.sl x=some s)(i:K s []):ik P c o σ K:=nG λB g a w b=>⟨s,a.eval x,λk=>by simp[execOp,e],b.oe h,i⟩
theorem Wl(e:K s [])(h:o.op=.assign x:=by exact rfl)(i:jb c σ.sl x=some s:=by exact rfl):ik P c o σ K:=S1 h i e
theorem uV(h:o.op=.pick c x y)(i:jb e σ.sl c=some (fH true))(j:jb e σ.sl x=some s)(q:K s []):ik P e o σ K:=nG λB g a w b=>by
 have k:a.eval c=.bool true:=b.oe i;exact⟨s,a.eval x,λU=>by simp[execOp,h,k,asBool],b.oe j,q⟩
theorem oH(h:K s [])(i:o.op=.pick c x y:=by exact rfl)(j:jb e σ.sl c=some (fH true):=by exact rfl)(q:jb e σ.sl x=some s:=by exact rfl):ik P e o σ K:=uV i j q h
theorem uW(h:o.op=.pick c x y)(i:jb e σ.sl c=some (fH false))(j:jb e σ.sl y=some s)(q:K s []):ik P e o σ K:=nG λB g a w b=>by
 have k:a.eval c=.bool false:=b.oe i;exact⟨s,a.eval y,λU=>by simp[execOp,h,k,asBool],b.oe j,q⟩
theorem sP(h:K s [])(i:o.op=.pick c x y:=by exact rfl)(j:jb e σ.sl c=some (fH false):=by exact rfl)(q:jb e σ.sl y=some s:=by exact rfl):ik P e o σ K:=uW i j q h
theorem Pm(j:o.op=.nilCheck x)(q:jb h σ.sl x=some (.jk i c))(r:K (.jk i c) []):ik P h o σ K:=nG λB g a w k=>by
 have U:=k.oe q;obtain⟨b,s,e⟩:=U;exact⟨.jk i c,a.eval x,λy=>by simp only[execOp,j,e];rfl,⟨b,s,e⟩,r⟩
theorem ncb(h:K (.jk i c) [])(j:o.op=.nilCheck x:=by exact rfl)(q:jb e σ.sl x=some (.jk i c):=by exact rfl):ik P e o σ K:=Pm j q h
theorem S0(h:o.op=.nilCheck x)(i:jb c σ.sl x=some (.d (.cp l)))(j:K (.d (.cp l)) []):ik P c o σ K:=nG λB g a w k=>by
 have U:=k.oe i;obtain⟨b,off,e,q⟩:=U;exact⟨.d (.cp l),a.eval x,λr=>by simp only[execOp,h,e];rfl,⟨b,off,e,q⟩,j⟩
theorem XB(e:K (.d (.cp l)) [])(h:o.op=.nilCheck x:=by exact rfl)(i:jb c σ.sl x=some (.d (.cp l)):=by exact rfl):ik P c o σ K:=S0 h i e
theorem toList_inj{a c:fB}(h:a.toList=c.toList):a=c:=by
 rw[ByteArray.toList_eq,ByteArray.toList_eq] at h;have:=Array.toList_inj.1 h;cases a;cases c;simp_all
theorem QF(a c:fB):(a.toList==c.toList)=decide (a=c):=by
 rw[Bool.eq_iff_iff];simp only[beq_iff_eq,decide_eq_true_eq];exact⟨toList_inj,λh=>by rw[h]⟩
theorem qz(e:a.oneCell'=true)(h:¬(a=.nilIface/\i=.nilIface))(w):
 (eqGuard c T x y a i).run P w=.ok () w:=by
 unfold eqGuard;cases a<;>cases i<;>first
  |(exfalso;exact h ⟨rfl,rfl⟩)
  |(exfalso;simp[Value.oneCell'] at e;done)
  |(cases c<;>rfl)
theorem rj(s:o.op=.binOp j T x y q)(z:jb i σ.sl x=some (.d (.v c)))(C:jb i σ.sl y=some (.d (.v h)))(F:c.oneCell'=true)(G:¬(c=.nilIface/\h=.nilIface))
 (e:∀w,(binOp j T c h).run P w=.ok r w) (H:K (.d (.v r)) []):ik P i o σ K:=nG λB g a w b=>by
 have k:a.eval x=c:=b.oe z;have U:a.eval y=h:=b.oe C;exact⟨.d (.v r),r,λI=>by simp only[execOp,s,k,U,Sem.run_bind,qz F G,e,Result.andThen_ok];rfl,rfl,H⟩
theorem aa6(h:o.op=.binOp .lss T x y e)(i:jb c σ.sl x=some (.d (.v (.int r m))))(j:jb c σ.sl y=some (.d (.v (.int r n))))(q:K (fH (decide (m<n))) []):ik P c o σ K:=
 rj h i j rfl (by simp) (λw=>by simp[binOp,Op.intCmp]) q
theorem ilt (e : K (fH (decide (m < n))) [])(h : o.op = .binOp .lss T x y T' := by exact rfl)(i : jb c σ.sl x = some (.d (.v (.int q m))) := by exact rfl)(j : jb c σ.sl y = some (.d (.v (.int q n))) := by exact rfl) : ik P c o σ K := aa6 h i j e
theorem aa7(h:o.op=.binOp .leq T x y e)(i:jb c σ.sl x=some (.d (.v (.int r m))))(j:jb c σ.sl y=some (.d (.v (.int r n))))(q:K (fH (decide (m<=n))) []):ik P c o σ K:=
 rj h i j rfl (by simp) (λw=>by simp[binOp,Op.intCmp]) q
theorem ile (e : K (fH (decide (m <= n))) [])(h : o.op = .binOp .leq T x y T' := by exact rfl)(i : jb c σ.sl x = some (.d (.v (.int q m))) := by exact rfl)(j : jb c σ.sl y = some (.d (.v (.int q n))) := by exact rfl) : ik P c o σ K := aa7 h i j e
theorem aa9(h:o.op=.binOp .gtr T x y e)(i:jb c σ.sl x=some (.d (.v (.int r m))))(j:jb c σ.sl y=some (.d (.v (.int r n))))(q:K (fH (decide (n<m))) []):ik P c o σ K:=
 rj h i j rfl (by simp) (λw=>by simp[binOp,Op.intCmp]) q
theorem igt (e : K (fH (decide (n < m))) [])(h : o.op = .binOp .gtr T x y T' := by exact rfl)(i : jb c σ.sl x = some (.d (.v (.int q m))) := by exact rfl)(j : jb c σ.sl y = some (.d (.v (.int q n))) := by exact rfl) : ik P c o σ K := aa9 h i j e
theorem aaa(h:o.op=.binOp .geq T x y e)(i:jb c σ.sl x=some (.d (.v (.int r m))))(j:jb c σ.sl y=some (.d (.v (.int r n))))(q:K (fH (decide (n<=m))) []):ik P c o σ K:=
 rj h i j rfl (by simp) (λw=>by simp[binOp,Op.intCmp]) q
theorem ige (e : K (fH (decide (n <= m))) [])(h : o.op = .binOp .geq T x y T' := by exact rfl)(i : jb c σ.sl x = some (.d (.v (.int q m))) := by exact rfl)(j : jb c σ.sl y = some (.d (.v (.int q n))) := by exact rfl) : ik P c o σ K := aaa h i j e
theorem aab(i:o.op=.binOp .eql T x y e)(j:jb c σ.sl x=some (.d (.v (.int s m))))(q:jb c σ.sl y=some (.d (.v (.int s n))))(r:K (fH (decide (m=n))) []):ik P c o σ K:=
 rj i j q rfl (by simp) (λw=>by simp[binOp,Op.intCmp];by_cases h:m=n<;>simp[h]) r
theorem ieq (e : K (fH (decide (m = n))) [])(h : o.op = .binOp .eql T x y T' := by exact rfl)(i : jb c σ.sl x = some (.d (.v (.int q m))) := by exact rfl)(j : jb c σ.sl y = some (.d (.v (.int q n))) := by exact rfl) : ik P c o σ K := aab h i j e
theorem aa5(i:o.op=.binOp .neq T x y e)(j:jb c σ.sl x=some (.d (.v (.int s m))))(q:jb c σ.sl y=some (.d (.v (.int s n))))(r:K (fH (!decide (m=n))) []):ik P c o σ K:=
 rj i j q rfl (by simp) (λw=>by simp[binOp,Op.intCmp,bne];by_cases h:m=n<;>simp[h]) r
theorem ine (e : K (fH (!decide (m = n))) [])(h : o.op = .binOp .neq T x y T' := by exact rfl)(i : jb c σ.sl x = some (.d (.v (.int q m))) := by exact rfl)(j : jb c σ.sl y = some (.d (.v (.int q n))) := by exact rfl) : ik P c o σ K := aa5 h i j e
theorem KL(c: -9223372036854775808<=x)(e:x<=9223372036854775807):IntKind.i64.wrap x=x:=by
 have:=IntWalk.i64_in x;exact this O
theorem Pt(i:o.op=.binOp .add T x y h)(j:jb c σ.sl x=some (fE m))(q:jb c σ.sl y=some (fE n))(e: -9223372036854775808<=m+n/\m+n<=9223372036854775807)(r:K (fE (m+n)) []):ik P c o σ K:=
 rj i j q rfl (by simp) (λw=>by simp[binOp,Op.intArith,KL e.1 e.2]) r
theorem Mm (h : K (fE (m + n)) [])(i : o.op = .binOp .add T x y e := by exact rfl)(j : jb c σ.sl x = some (fE m) := by exact rfl)(q : jb c σ.sl y = some (fE n) := by exact rfl)(r : -9223372036854775808 <= m + n /\ m + n <= 9223372036854775807 := by omega) : ik P c o σ K := Pt i j q r h
theorem Pj(i:o.op=.binOp .sub T x y h)(j:jb c σ.sl x=some (fE m))(q:jb c σ.sl y=some (fE n))(e: -9223372036854775808<=m-n/\m-n<=9223372036854775807)(r:K (fE (m-n)) []):ik P c o σ K:=
 rj i j q rfl (by simp) (λw=>by simp[binOp,Op.intArith,KL e.1 e.2]) r
theorem isu (h : K (fE (m - n)) [])(i : o.op = .binOp .sub T x y e := by exact rfl)(j : jb c σ.sl x = some (fE m) := by exact rfl)(q : jb c σ.sl y = some (fE n) := by exact rfl)(r : -9223372036854775808 <= m - n /\ m - n <= 9223372036854775807 := by omega) : ik P c o σ K := Pj i j q r h
theorem Gt(i:o.op=.binOp .mul T x y h)(j:jb c σ.sl x=some (fE m))(q:jb c σ.sl y=some (fE n))(e: -9223372036854775808<=m*n/\m*n<=9223372036854775807)(r:K (fE (m*n)) []):ik P c o σ K:=
 rj i j q rfl (by simp) (λw=>by simp[binOp,Op.intArith,KL e.1 e.2]) r
theorem aa3(h:o.op=.binOp .rem T x y e)(i:jb c σ.sl x=some (fE m))(j:jb c σ.sl y=some (fE n))(q:0<=m/\0<n)(r:K (fE (m%n)) []):ik P c o σ K:=
 rj h i j rfl (by simp) (λw=>by
  have b:m.tmod n=m%n:=Int.tmod_eq_emod_of_nonneg q.1;have k:¬n=0:=O;simp only[binOp,Op.intDiv,if_neg k,b];rfl) r
theorem Y3 (h : K (fE (m % n)) [])(i : o.op = .binOp .rem T x y e := by exact rfl)(j : jb c σ.sl x = some (fE m) := by exact rfl)(q : jb c σ.sl y = some (fE n) := by exact rfl)(r : 0 <= m /\ 0 < n := by omega) : ik P c o σ K := aa3 i j q r h
theorem VK(h:o.op=.binOp .quo T x y e)(i:jb c σ.sl x=some (fE m))(j:jb c σ.sl y=some (fE n))(hb:0<=m/\0<n/\m<=9223372036854775807)(r:K (fE (m/n)) []):ik P c o σ K:=
 rj h i j rfl (by simp) (λw=>by
  have b:m.tdiv n=m/n:=Int.tdiv_eq_ediv_of_nonneg hb.1;have k:¬n=0:=O;have U:0<=m/n:=Int.ediv_nonneg hb.1 O;have s:m/n<=m:=Int.ediv_le_self _ hb.1;have z:IntKind.i64.wrap (m/n)=m/n:=by generalize m/n=q at U s ⊢;exact KL O O
  simp only[binOp,Op.intDiv,if_neg k,b,z];rfl) r
theorem XX(h:o.op=.binOp .eql T x y e)(i:jb c σ.sl x=some (fI s))(j:jb c σ.sl y=some (fI t))(q:K (fH (decide (s=t))) []):ik P c o σ K:=
 rj h i j rfl (by simp) (λw=>by simp only[binOp,Op.stringOp,QF];rfl) q
theorem seq1 (e : K (fH (decide (s = t))) [])(h : o.op = .binOp .eql T x y T' := by exact rfl)(i : jb c σ.sl x = some (fI s) := by exact rfl)(j : jb c σ.sl y = some (fI t) := by exact rfl) : ik P c o σ K := XX h i j e
theorem XW(h:o.op=.binOp .neq T x y e)(i:jb c σ.sl x=some (fI s))(j:jb c σ.sl y=some (fI t))(q:K (fH (!decide (s=t))) []):ik P c o σ K:=
 rj h i j rfl (by simp) (λw=>by simp only[binOp,Op.stringOp,QF];rfl) q
theorem sne (e : K (fH (!decide (s = t))) [])(h : o.op = .binOp .neq T x y T' := by exact rfl)(i : jb c σ.sl x = some (fI s) := by exact rfl)(j : jb c σ.sl y = some (fI t) := by exact rfl) : ik P c o σ K := XW h i j e
theorem Re(h:o.op=.binOp .add T x y e)(i:jb c σ.sl x=some (fI s))(j:jb c σ.sl y=some (fI t))(r:((s.size+t.size:Nat):Int)<=9223372036854775807)(q:K (fI (s++t)) []):ik P c o σ K:=
 rj h i j rfl (by simp) (λw=>by
  have b:¬(((s.size+t.size:Nat):Int)>IntKind.i64.max):=by show ¬(9223372036854775807<((s.size+t.size:Nat):Int));omega
  simp only[binOp,Op.stringOp,b,if_false];rfl) q
theorem Dd (h : K (fI (s ++ t)) [])(i : o.op = .binOp .add T x y e := by exact rfl)(j : jb c σ.sl x = some (fI s) := by exact rfl)(q : jb c σ.sl y = some (fI t) := by exact rfl)(hb : ((s.size + t.size : Nat) : Int) <= 9223372036854775807 := by omega) : ik P c o σ K := Re i j q hb h
theorem aa4(e:o.op=.unOp .not T x)(h:jb c σ.sl x=some (fH q))(i:K (fH (!q)) []):ik P c o σ K:=nG λB g a w k=>by
 have U:a.eval x=.bool q:=k.oe h;exact⟨fH (!q),_,λj=>by simp only[execOp,e,U,Op.unary];rfl,rfl,i⟩
theorem ada(e:K (fH (!j)) [])(h:o.op=.unOp .not T x:=by exact rfl)(i:jb c σ.sl x=some (fH j):=by exact rfl):ik P c o σ K:=aa4 h i e
theorem Rf(h:P.underlying F=some (.int c))(i:(P.underlying s).isSome=true)(j:o.op=.convert s F x)(q:jb e σ.sl x=some (.d (.v (.int G n))))(r:K (.d (.v (.int c (c.wrap n)))) []):ik P e o σ K:=nG λB g a w U=>by
 have y:a.eval x=.int G n:=U.oe q;obtain⟨z,b⟩:=dS.1 i;exact⟨.d (.v (.int c (c.wrap n))),.int c (c.wrap n),λC=>by simp[execOp,j,y,convert,run_underlying b,run_underlying h,Conv.intToInt],rfl,r⟩
theorem VI{j o e:Nat}{i:Bool}(h:(iH P T).wD[j]? =some (o,e,i)):∃k b,P.underlying T=some (.struct k)/\k[j]? =some b/\b.offset=o/\
 ((P.info? b.type).map (·.size)).getD 0=e/\AH (P.underlying b.type)=i:=by
 unfold iH at h;simp only at h;split at h
 .rename_i k U;rw[bt] at h;cases c:k.toList[j]? with
  |none=>rw[c] at h;cases h
  |some b=>
   rw[c] at h;simp only[bH,an,bW] at h;exact⟨k,b,U,by simpa using c,h.1,h.2.1,h.2.2⟩
 .simp at h
theorem yI{F o s:Nat}{y:Bool}(h:(iH P T).wD[F]? =some (o,s,y))(j:s≠0)(G c w):
 (Instr.fieldAt T (.pointer (some ⟨G,c,none⟩)) F).run P w=.ok (.pointer (some ⟨G,c+o,none⟩)) w:=by
 obtain⟨C,x,z,q,rfl,U,_⟩:=VI h;have k:∃i,P.info? x.type=some i/\i.size≠0:=by
  cases e:P.info? x.type with
  |none=>rw[e] at U;simp at U;exact absurd U.symm j
  |some i=>rw[e] at U;simp at U;exact⟨i,rfl,O⟩
 obtain⟨i,e,r⟩:=k;simp[Instr.fieldAt,run_underlying z,q,Instr.sureAddr,fieldPlace,sizeOf,typeInfo,e,r,pU]
def nW{α:Type}:Nat->List α->Option (List α)
 |0,l=>some l
 |n+1,[]=>none
 |n+1,_::r=>nW n r
theorem sQ{α:Type}:∀{n:Nat} {l r:List α},nW n l=some r->l.drop n=r/\n<=l.length
 |0,l,r,h=>by simp[nW] at h;subst h;simp
 |n+1,[],r,h=>by cases h
 |n+1,x::l,r,h=>by have:=sQ (n:=n) (l:=l) h;exact⟨by simpa using this.1,by simp;exact this.2⟩
def rJ{α:Type}:Nat->List α->Option (List α)
 |0,_=>some []
 |n+1,[]=>none
 |n+1,x::r=>(rJ n r).bind λl=>some (x::l)
theorem yx{α:Type}:∀{n:Nat} {l r:List α},rJ n l=some r->l.take n=r/\n<=l.length
 |0,l,r,h=>by simp[rJ] at h;subst h;simp
 |n+1,[],r,h=>by cases h
 |n+1,x::l,r,h=>by
  simp only[rJ,ai,an] at h;obtain⟨k,b,rfl⟩:=h;have:=yx (n:=n) (l:=l) b;exact⟨by simpa using this.1,by simp;exact this.2⟩
theorem Ko(C:iH P T=y)(F:nW V y.wD=some ((j,q,z)::r))(e:Nat.beq q 0=false)(G:o.op=.fieldAddr T x V)(H:jb s σ.sl x=some (.jk i c))(I:K (.jk i (c+j)) []):ik P s o σ K:=nG λB g a w U=>by
 have k:(iH P T).wD[V]? =some (j,q,z):=by
  have:=sQ F;rw[C];have J:=congrArg List.head? this.1
  simpa using J
 obtain⟨b,M,R⟩:=U.oe H;exact⟨.jk i (c+j),_,λS=>by simp only[execOp,G,R,Sem.run_bind,yI k (by intro h;rw[h] at e;cases e),Result.andThen_ok];rfl,⟨b,M,rfl⟩,I⟩
theorem fdb{f:Nat}(z:iH P T=j)(C:K (.jk i (c+q)) [])(F:o.op=.fieldAddr T x f:=by exact rfl)(G:jb h σ.sl x=some (.jk i c):=by exact rfl)(H:nW f j.wD=some ((q,s,y)::r):=by exact rfl)(e:Nat.beq s 0=false:=by exact rfl):ik P h o σ K:=Ko z H e F G C
theorem MD(z:iH P T=s)(C:nW S s.wD=some ((e,j,y)::r))(c:Nat.beq j 0=false)(F:o.op=.fieldAddr T x S)(G:jb q σ.sl x=some (.d (.cp l)))(H:nW e l=some i)(I:K (.d (.cp i)) []):ik P q o σ K:=nG λB g a w U=>by
 have k:(iH P T).wD[S]? =some (e,j,y):=by
  have:=sQ C;rw[z];have J:=congrArg List.head? this.1
  simpa using J
 obtain⟨b,off,M,hd⟩:=U.oe G;refine⟨.d (.cp i),_,λR=>by simp only[execOp,F,M,Sem.run_bind,yI k (by intro h;rw[h] at c;cases c),Result.andThen_ok];rfl,⟨b,off+e,rfl,?_⟩,I⟩;rw[<- (sQ H).1];exact hd.drop _
theorem WL{f:Nat}(y:iH P T=i)(z:K (.d (.cp h)) [])(C:o.op=.fieldAddr T x f:=by exact rfl)(F:jb e σ.sl x=some (.d (.cp l)):=by exact rfl)(G:nW f i.wD=some ((j,q,s)::r):=by exact rfl)(c:Nat.beq q 0=false:=by exact rfl)(H:nW j l=some h:=by exact rfl):ik P e o σ K:=MD y G c C F H z
theorem DX{k:Nat}(M:P.underlying T=some (.slice (iH P T).elem))(J:iH P (iH P T).elem=y)(q:y.ok=true)(R:y.size=k)(S:o.op=.indexAddr T x i)
 (r:jb s σ.sl x=some (.d (.sl k c))\/∃i,jb s σ.sl x=some (.own i k c)) (V:jb s σ.sl i=some (.d (.v (.int I j)))) (W:0<=j) (z:c[j.toNat]? =some e) (Y:K (.d (.cp e)) []):ik P s o σ K:=nG λB g a w C=>by
 have F:(D.sl k c).Den g.m (a.eval x):=by
  rcases r with r|⟨i,r⟩
  .exact C.oe r
  .exact Fx (C.oe r)
 obtain⟨ad,cap,h1,hc,hd⟩:=F;have hj:=(aJ.1 z).1;obtain⟨b,off,rfl,G⟩:=hd (by intro h;subst h;simp at z);have h2:a.eval i=.int I j:=C.oe V;rw[<- J] at q;obtain⟨inf,d,H,hd',U,_⟩:=Be q;refine⟨.d (.cp e),.pointer (some ⟨b,off+j.toNat*k,none⟩),λw'=>?_,⟨b,_,rfl,(G.get z).2⟩,Y⟩;have h3:j<(c.length:Int):=O;rw[J,R] at U;simp[execOp,S,h1,h2,Instr.indexAt,run_underlying M,asIntOf,W,h3,sizeOf,typeInfo,H,<-U,pU]
theorem BW(y:P.underlying T=some (.slice (iH P T).elem))(z:iH P (iH P T).elem=h)(q:h.ok=true)(C:h.size=R)(F:o.op=.indexAddr T x i)(G:jb c σ.sl x=some (.d (.sl R r)))(H:jb c σ.sl i=some (.d (.v (.int s j))))(I:0<=j)(J:r[j.toNat]? =some e)(M:K (.d (.cp e)) []):ik P c o σ K:=
 DX y z q C F (.inl G) H I J M
theorem ixs(y:P.underlying T=some (.slice (iH P T).elem))(z:iH P (iH P T).elem=h)(C:K (.d (.cp e)) [])(F:o.op=.indexAddr T x i:=by exact rfl)(G:jb c σ.sl x=some (.d (.sl M r)):=by exact rfl)(H:jb c σ.sl i=some (.d (.v (.int s j))):=by exact rfl)(q:h.ok=true:=by exact rfl)(I:h.size=M:=by exact rfl)(J:0<=j:=by omega)(he:r[j.toNat]? =some e:=by omega):ik P c o σ K:=BW y z q I F G H J he C
theorem BV(y:P.underlying T=some (.slice (iH P T).elem))(z:iH P (iH P T).elem=h)(q:h.ok=true)(C:h.size=R)(F:o.op=.indexAddr T x i)(G:jb c σ.sl x=some (.own n R r))(H:jb c σ.sl i=some (.d (.v (.int s j))))(I:0<=j)(J:r[j.toNat]? =some e)(M:K (.d (.cp e)) []):ik P c o σ K:=
 DX y z q C F (.inr ⟨n,G⟩) H I J M
theorem Q4(y:P.underlying T=some (.slice (iH P T).elem))(z:iH P (iH P T).elem=h)(C:K (.d (.cp e)) [])(F:o.op=.indexAddr T x i:=by exact rfl)(G:jb c σ.sl x=some (.own n M r):=by exact rfl)(H:jb c σ.sl i=some (.d (.v (.int s j))):=by exact rfl)(q:h.ok=true:=by exact rfl)(I:h.size=M:=by exact rfl)(J:0<=j:=by omega)(he:r[j.toNat]? =some e:=by omega):ik P c o σ K:=BV y z q I F G H J he C
def iM(s:fB)(i:Nat):Int:=(s.data.getD i 0).toNat
theorem X0(q:P.underlying T=some .string)(r:o.op=.index T x i)(y:jb c σ.sl x=some (fI s))(z:jb c σ.sl i=some (.d (.v (.int e j))))(h:0<=j/\j<s.size)(C:K (.d (.v (.int .u8 (iM s j.toNat)))) []):ik P c o σ K:=nG λB g a w b=>by
 obtain⟨k,U⟩:=h;have F:a.eval x=.string s:=b.oe y;have G:a.eval i=.int e j:=b.oe z;refine⟨.d (.v (.int .u8 (iM s j.toNat))),.int .u8 (iM s j.toNat),λH=>?_,rfl,C⟩;have hd:j.toNat<s.data.size:=by have:s.data.size=s.size:=rfl;omega
 simp only[execOp,r,F,G,Sem.run_bind,run_index_string H T s e j q,dif_pos (And.intro k U),Result.andThen_ok,iM,Array.getD,hd,dite_true];rfl
theorem P3(h:P.underlying T=some .string)(q:K (.d (.v (.int .u8 (iM s j.toNat)))) [])(r:o.op=.index T x i:=by exact rfl)(y:jb c σ.sl x=some (fI s):=by exact rfl)(z:jb c σ.sl i=some (.d (.v (.int e j))):=by exact rfl)(h01:0<=j/\j<s.size:=by omega):ik P c o σ K:=X0 h r y z h01 q
theorem tw{kd:IntKind}{i:Int}{y:Nat}(e:0<=i)(h:i<=y)(w):(Instr.sliceBound (.int kd i) y c).run P w=.ok i.toNat w:=by
 simp[Instr.sliceBound,asIntOf,e,h]
theorem SY(z:P.underlying T=some .string)(C:o.op=.slice T x (some e) (some j) none)(F:jb c σ.sl x=some (fI s))(G:jb c σ.sl e=some (.d (.v (.int q l))))(H:jb c σ.sl j=some (.d (.v (.int r h))))(I:0<=l/\l<=h/\h<=s.size)
 (J:K (fI (s.extract l.toNat h.toNat)) []):ik P c o σ K:=nG λB g a w b=>by
 obtain⟨S,V,k⟩:=I;have U:a.eval x=.string s:=b.oe F;have M:a.eval e=.int q l:=b.oe G;have R:a.eval j=.int r h:=b.oe H;refine⟨fI (s.extract l.toNat h.toNat),_,λW=>?_,rfl,J⟩;simp[execOp,C,U,M,R,Instr.sliceAt,Instr.slice,run_underlying z,Instr.sliceBounds,tw (P:=P) (i:=_) (y:=_) (by omega:(0:Int)<=_) k];rw[tw O O];simp
theorem y7(r:P.underlying T=some .string)(y:K (fI (s.extract l.toNat h.toNat)) [])(z:o.op=.slice T x (some e) (some i) none:=by exact rfl)(C:jb c σ.sl x=some (fI s):=by exact rfl)(F:jb c σ.sl e=some (.d (.v (.int j l))):=by exact rfl)(G:jb c σ.sl i=some (.d (.v (.int q h))):=by exact rfl)(hb:0<=l/\l<=h/\h<=s.size:=by omega):ik P c o σ K:=SY r z C F G hb y
theorem VJ(i:P.underlying T=some .string)(j:o.op=.slice T x (some e) none none)(q:jb c σ.sl x=some (fI s))(r:jb c σ.sl e=some (.d (.v (.int h l))))(y:0<=l/\l<=s.size)
 (z:K (fI (s.extract l.toNat s.size)) []):ik P c o σ K:=nG λB g a w b=>by
 obtain⟨C,h1⟩:=y;have k:a.eval x=.string s:=b.oe q;have U:a.eval e=.int h l:=b.oe r;refine⟨fI (s.extract l.toNat s.size),_,λF=>?_,rfl,z⟩;simp[execOp,j,k,U,Instr.sliceAt,Instr.slice,run_underlying i,Instr.sliceBounds];rw[tw O O];simp
def jo{α:Type}:Nat->List α->Option α
 |_,[]=>none
 |0,x::_=>some x
 |n+1,_::r=>jo n r
theorem iS{α:Type}:∀{n:Nat} {l:List α} {x:α},jo n l=some x->l[n]? =some x
 |0,[],_,h=>by cases h
 |_+1,[],_,h=>by cases h
 |0,y::l,x,h=>by simpa[jo] using h
 |n+1,y::l,x,h=>by simpa using iS (n:=n) (l:=l) h
theorem Ps(e:o.op=.extract x i)(h:jb c σ.sl x=some (.jj l))(j:jo i l=some s)(q:K s []):ik P c o σ K:=nG λB g a w k=>by
 obtain⟨z,U,hd⟩:=k.oe h;obtain⟨y,r,b⟩:=hd.get (iS j);exact⟨s,y,λC=>by simp[execOp,e,U,Instr.extract,r],b,q⟩
theorem ex1(e:K s [])(h:o.op=.extract x i:=by exact rfl)(j:jb c σ.sl x=some (.jj l):=by exact rfl)(q:jo i l=some s:=by exact rfl):ik P c o σ K:=Ps h j q e
theorem Kp(e:o.op=.extract x i)(h:jb c σ.sl x=some (.d (.jj l)))(j:jo i l=some s)(q:K (.d s) []):ik P c o σ K:=nG λB g a w k=>by
 obtain⟨z,U,hd⟩:=k.oe h;obtain⟨y,r,b⟩:=hd.get (iS j);exact⟨.d s,y,λC=>by simp[execOp,e,U,Instr.extract,r],b,q⟩
theorem ex2(e:K (.d s) [])(h:o.op=.extract x i:=by exact rfl)(j:jb c σ.sl x=some (.d (.jj l)):=by exact rfl)(q:jo i l=some s:=by exact rfl):ik P c o σ K:=Kp h j q e
theorem IJ{ty:Array TypeId}(j:P.underlying T=some (.slice (iH P T).elem))(q:o.op=.call { callee:=.builtin .len,args:= #[x],argTypes:= #[T] })
 (e:jb h σ.sl x=some (.d (.sl C c))\/∃i,jb h σ.sl x=some (.own i C c)) (r:K (fE c.length) []):ik P h o σ K:=nG λB g a w U=>by
 have b:(D.sl C c).Den g.m (a.eval x):=by
  rcases e with e|⟨i,e⟩
  .exact U.oe e
  .exact Fx (U.oe e)
 obtain⟨ad,cap,s,y,hd⟩:=b;exact⟨fE c.length,.int .i64 c.length,λz=>by simp[execOp,q,s,resolve,invoke,builtin,Builtin.len_,run_underlying j,goInt],rfl,r⟩
theorem aa8(h:P.underlying T=some (.slice (iH P T).elem))(i:o.op=.call { callee:=.builtin .len,args:= #[x],argTypes:= #[T] })
 (j:jb c σ.sl x=some (.d (.sl r e))) (q:K (fE e.length) []):ik P c o σ K:=IJ (ty:= #[]) h i (.inl j) q
theorem le1(h:P.underlying T=some (.slice (iH P T).elem))(i:K (fE e.length) [])(j:o.op=.call { callee:=.builtin .len,args:= #[x],argTypes:= #[T] }:=by exact rfl)(q:jb c σ.sl x=some (.d (.sl r e)):=by exact rfl):ik P c o σ K:=aa8 h j q i
theorem Pp(h:P.underlying T=some (.slice (iH P T).elem))(j:o.op=.call { callee:=.builtin .len,args:= #[x],argTypes:= #[T] })
 (q:jb c σ.sl x=some (.own i s e)) (r:K (fE e.length) []):ik P c o σ K:=IJ (ty:= #[]) h j (.inr ⟨i,q⟩) r
theorem le2(h:P.underlying T=some (.slice (iH P T).elem))(j:K (fE e.length) [])(q:o.op=.call { callee:=.builtin .len,args:= #[x],argTypes:= #[T] }:=by exact rfl)(r:jb c σ.sl x=some (.own i s e):=by exact rfl):ik P c o σ K:=Pp h q r j
theorem VM(e:P.underlying T=some .string)(h:o.op=.call { callee:=.builtin .len,args:= #[x],argTypes:= #[T] })
 (i:jb c σ.sl x=some (fI s)) (j:K (fE s.size) []):ik P c o σ K:=nG λB g a w b=>by
 have k:a.eval x=.string s:=b.oe i;exact⟨fE s.size,.int .i64 s.size,λU=>by simp[execOp,h,k,resolve,invoke,builtin,Builtin.len_,run_underlying e,goInt],rfl,j⟩
theorem le3(e:P.underlying T=some .string)(h:K (fE s.size) [])(i:o.op=.call { callee:=.builtin .len,args:= #[x],argTypes:= #[T] }:=by exact rfl)(j:jb c σ.sl x=some (fI s):=by exact rfl):ik P c o σ K:=VM e i j h
theorem Gu(h:P.underlying T=some (.slice (iH P T).elem))(i:o.op=.call { callee:=.builtin .len,args:= #[x],argTypes:= #[T] })
 (j:jb e σ.sl x=some (.d (.v (.slice none n c)))) (q:K (fE n) []):ik P e o σ K:=nG λB g a w b=>by
 have k:a.eval x=.slice none n c:=b.oe j;exact⟨fE n,.int .i64 n,λU=>by simp[execOp,i,k,resolve,invoke,builtin,Builtin.len_,run_underlying h,goInt],rfl,q⟩
theorem le4(h:P.underlying T=some (.slice (iH P T).elem))(i:K (fE n) [])(j:o.op=.call { callee:=.builtin .len,args:= #[x],argTypes:= #[T] }:=by exact rfl)(q:jb e σ.sl x=some (.d (.v (.slice none n c))):=by exact rfl):ik P e o σ K:=Gu h j q i
theorem VL(h:o.op=.call { callee:=.builtin .max,args:= #[x,y],argTypes:=e })(i:jb c σ.sl x=some (fE m))(j:jb c σ.sl y=some (fE n))(q:K (fE (max m n)) []):ik P c o σ K:=nG λB g a w b=>by
 have k:a.eval x=.int .i64 m:=b.oe i;have U:a.eval y=.int .i64 n:=b.oe j;have r:(if n>m then n else m)=max m n:=by split<;>omega
 exact⟨fE (max m n),.int .i64 (max m n),λs=>by
  simp only[execOp,h,resolve,invoke,builtin,Builtin.max_,Builtin.max2,Sem.run_bind,Sem.run_pure,Result.andThen_ok,ed,bG,de,k,U,List.foldlM_cons,List.foldlM_nil,r],rfl,q⟩
theorem Y4(h:K (fE (max m n)) [])(i:o.op=.call { callee:=.builtin .max,args:= #[x,y],argTypes:=e }:=by exact rfl)(j:jb c σ.sl x=some (fE m):=by exact rfl)(q:jb c σ.sl y=some (fE n):=by exact rfl):ik P c o σ K:=VL i j q h
def Xw:D->Bool
 | .v (.agg _)=>false
 | .v (.tuple _)=>false
 | .agg _=>false
 | .jj _=>false
 |_=>true
def LK:SV->Bool
 | .d x=>Xw x
 | .agg _=>false
 | .jj _=>false
 | .qe=>false
 |_=>true
theorem LL(h:Xw i=true)(e:i.Den m x):x.oneCell'=true:=by
 cases i with
 |v y=>simp only[D.Den] at e;subst e;cases x<;>first|rfl|cases h
 |agg l=>cases h
 |jj l=>cases h
 |sl k l=>obtain⟨a,c,rfl,_⟩:=e;rfl
 |cp l=>obtain⟨b,off,rfl,_⟩:=e;rfl
 |uU T i=>obtain⟨y,rfl,_⟩:=e;rfl
theorem Im(h:LK s=true)(e:s.Den g x):x.oneCell'=true:=by
 cases s with
 |d y=>exact LL h e
 |jk i off=>obtain⟨b,_,rfl⟩:=e;rfl
 |agg l=>cases h
 |jj l=>cases h
 |own i k ls=>obtain⟨b,c,_,rfl,_⟩:=e;rfl
 |fn f a b=>obtain⟨U,us,rfl,_⟩:=e;rfl
 |uU T s=>obtain⟨y,rfl,_⟩:=e;rfl
 |map i=>obtain⟨b,_,rfl⟩:=e;rfl
 |rp i=>obtain⟨b,cap,n,_,rfl⟩:=e;rfl
 |arr i n=>obtain⟨b,cap,_,rfl⟩:=e;rfl
 |bp i off=>obtain⟨b,cap,n,_,rfl⟩:=e;rfl
 |G3 k ls=>obtain⟨a,rfl,_⟩:=e;rfl
 |qe=>cases h
def pH:List SV->Bool
 |[]=>true
 |s::r=>cond (LK s) (pH r) false
theorem uk{g:Gh}:∀{l:List SV} {U:List Value},pH l=true->iN g l U->∀x∈U,x.oneCell'=true
 |[],_,_,h,x,b=>by cases h;cases b
 |s::r,_,h,⟨y,j,e,c,i⟩,x,b=>by
  subst e;unfold pH at h;cases k:LK s with
  |false=>rw[k] at h;cases h
  |true=>
   rw[k] at h;cases b with
   |head=>exact Im k c
   |tail _ b=>exact uk h i x b
def L1:List D->Option (List SV)
 |[]=>some []
 |d::r=>(L1 r).bind λl=>some (.d d::l)
theorem J3:∀{l:List D} {r:List SV},L1 l=some r->r=l.map SV.d
 |[],r,h=>by simp[L1] at h;simp[h]
 |d::l,r,h=>by
  simp only[L1,ai,an] at h;obtain⟨k,b,rfl⟩:=h;simp[J3 b]
def wY:List Value->Option (List SV)
 |[]=>some []
 |d::r=>(wY r).bind λl=>some (.d (.v d)::l)
theorem BI:∀{l:List Value} {r:List SV},wY l=some r->r=l.map λx=>SV.d (.v x)
 |[],r,h=>by simp[wY] at h;simp[h]
 |d::l,r,h=>by
  simp only[wY,ai,an] at h;obtain⟨k,b,rfl⟩:=h;simp[BI b]
def rk(c:Bool)(s:SV):Option (List SV):=
 cond c (match s with| .agg cs=>some cs| .d (.agg b)=>L1 b| .d (.v (.agg arr))=>wY arr.toList|_=>none) (cond (LK s) (some [s]) none)
theorem tN{g:Gh}{c:Bool}{s:SV}{x:Value}{cs:List SV}(h:rk c s=some cs)(e:s.Den g x):iN g cs x.cells.toList:=by
 unfold rk at h;cases c with
 |false=>
  simp only[cond_false] at h;cases b:LK s with
  |false=>rw[b] at h;cases h
  |true=>
   rw[b] at h;simp only[cond_true,an] at h;subst h;rw[Value.IY (Im b e)];exact⟨x,[],rfl,e,rfl⟩
 |true=>
  simp only[cond_true] at h;split at h
  .simp only[an] at h;subst h;obtain⟨l,rfl,hd⟩:=e;exact hd
  .rw [J3 h];obtain⟨l,rfl,hd⟩:=e;exact iN.ofd hd
  .rw [BI h];cases e;exact iN.ofv _
  .cases h
def CE:Nat->List SV->List SV->Option (List SV)
 |0,[],l=>some l
 |0,_::_,[]=>none
 |0,s::r,_::l=>(CE 0 r l).bind λb=>some (s::b)
 |n+1,cs,[]=>none
 |n+1,cs,x::l=>(CE n cs l).bind λb=>some (x::b)
theorem Bm:∀{n:Nat} {cs l r:List SV},CE n cs l=some r->n+cs.length<=l.length/\r=l.take n++cs++l.drop (n+cs.length)
 |0,[],l,r,h=>by simp[CE] at h;subst h;simp
 |0,s::cs,[],r,h=>by cases h
 |0,s::cs,x::l,r,h=>by
  simp only[CE,ai,an] at h;obtain⟨k,b,rfl⟩:=h;have:=Bm b;simp at this ⊢;exact⟨O,this.2⟩
 |n+1,cs,[],r,h=>by cases h
 |n+1,cs,x::l,r,h=>by
  simp only[CE,ai,an] at h;obtain⟨k,b,rfl⟩:=h;have:=Bm b;refine⟨by simp;omega,?_⟩;rw[this.2,show n+1+cs.length=(n+cs.length)+1 by omega];simp
theorem K7(h:CE n i l=some r)(j:iN g l c)(q:iN g i e):iN g r (c.take n++e++c.drop (n+e.length)):=by
 obtain⟨b,rfl⟩:=Bm h;rw[q.length];exact((j.take n).append q).append (j.drop _)
def xh(e:Bool)(c:List SV):Option SV:=cond e (some (.agg c)) (match c with|[s]=>some s|_=>none)
theorem C8(h:xh e i=some s)(j:iN g i c):s.Den g (if e then .agg ⟨c⟩ else c.headD undef):=by
 unfold xh at h;cases e with
 |true=>simp only[cond_true,an] at h;subst h;exact⟨c,rfl,j⟩
 |false=>
  simp only[cond_false] at h;split at h
  .simp only[an] at h;subst h;obtain⟨x,k,rfl,b,_⟩:=j;exact b
  .cases h
theorem tW{b off:Nat}{xs:List Value}(c:(iH P T).ok=true)(h:xs.length=(iH P T).size)(i:(iH P T).agg=false->xs.length=1)
 (q:∀(j:Nat) x,xs[j]? =some x->((⟨b,off+j,none⟩:Addr),x)∈Hc) (w) (r:CH Hc w):
 (Instr.loadAt T (.pointer (some ⟨b,off,none⟩))).run P w=.ok (if (iH P T).agg then .agg ⟨xs⟩ else xs.headD undef) w:=by
 have:=r5 c (w:=w) (b:=b) (off:=off) h (λj x U=>r _ (q j x U)) (λk=>by
  have e:=i k
  match xs,e with
  |[y],_=>exact⟨y,rfl⟩)
 simpa[Instr.loadAt,Instr.sureAddr] using this
theorem J2(e:Value×Nat->α){c:List Value}{j:Nat}(h:c[j]? =some x):e (x,j)∈c.zipIdx.map e:=by
 refine bD.2 ⟨(x,j),?_,rfl⟩;rw[dg];exact h
theorem C7(h:xh false c=some s):c.length=1:=by
 unfold xh at h;simp only[cond_false] at h;split at h
 .rfl
 .cases h
theorem MA{i c:Nat}{l:List SV}{R r:List SV}(Y:iH P T=q)(z:q.ok=true)(ho:o.op=.load T x)(hx:jb M σ.sl x=some (.jk i c))(hi:jo i σ.ob=some (.cells l W))
 (hl:nW c l=some R) (hc:rJ q.size R=some r) (C:xh q.agg r=some s) (hK:K s [i]):ik P M o σ K:=λB g a w S=>by
 subst Y;obtain⟨b,V,h1⟩:=S.oe hx;obtain⟨F,hh,hd,hm⟩:=S.store.qM i _ _ (iS hi) V;have G:=sQ hl;have e:=yx hc;have k:iN g r ((F.drop c).take (iH P T).size):=by rw[<- e.1,<-G.1];exact(hd.drop c).take _
 have h:((F.drop c).take (iH P T).size).length=(iH P T).size:=by rw[k.length,<-e.1];simp;omega
 refine⟨((F.drop c).take (iH P T).size).zipIdx.map λp=>(⟨b,c+p.2,none⟩,p.1),s,_,[i],λw' H=>?_,λp I=>?_,λp I=>?_,C8 C k,hK⟩
 .have:=tW (P:=P) z h (λJ=>by rw[J] at C;have:=C7 C;rw[k.length,this]) (b:=b) (off:=c) (λj y hj=>J2 (λp=>((⟨b,c+p.2,none⟩:Addr),p.1)) hj) w' H;simp only[execOp,ho,h1,Sem.run_bind,this,Result.andThen_ok,Sem.run_pure]
 .obtain ⟨⟨y,j⟩,U,rfl⟩:=bD.1 I;rw[dg] at U;rw[cB] at U;split at U
  .rw [bX] at U;simp only[World.cell?,hh]
   simpa using U
  .cases U
 .obtain ⟨⟨y,j⟩,U,rfl⟩:=bD.1 I;exact⟨rfl,.inr ⟨i,b,by simp,V,rfl⟩⟩
theorem Hg(z:iH P T=e)(C:K s [i])(F:o.op=.load T x:=by exact rfl)(G:jb j σ.sl x=some (.jk i c):=by exact rfl)(H:jo i σ.ob=some (.cells l y):=by exact rfl)(h:e.ok=true:=by exact rfl)(I:nW c l=some q:=by exact rfl)(J:rJ e.size q=some r:=by exact rfl)(M:xh e.agg r=some s:=by exact rfl):ik P j o σ K:=MA z h F G H I J M C
theorem Po{l M:List D}{r:List SV}(V:iH P T=q)(z:q.ok=true)(W:o.op=.load T x)(Y:jb J σ.sl x=some (.d (.cp l)))
 (hc:rJ q.size l=some M) (hm:L1 M=some r) (C:xh q.agg r=some s) (hK:K s []):ik P J o σ K:=λB g a w R=>by
 subst V;obtain⟨b,off,h1,hd⟩:=R.oe Y;have U:=yx hc;have c:=hd.take (iH P T).size;rw[U.1] at c;obtain⟨F,S,k⟩:=c.R3;have e:F.length=(iH P T).size:=by rw[S.length,<-U.1];simp;omega
 have h:iN g r F:=by rw[J3 hm];exact iN.ofd S
 refine⟨F.zipIdx.map λp=>(⟨b,off+p.2,none⟩,p.1),s,_,[],λw' G=>?_,λp H=>?_,λp H=>?_,C8 C h,hK⟩
 .have:=tW (P:=P) z e (λI=>by rw[I] at C;have:=C7 C;rw[h.length,this]) (b:=b) (off:=off) (λj y hj=>J2 (λp=>((⟨b,off+p.2,none⟩:Addr),p.1)) hj) w' G;simp only[execOp,W,h1,Sem.run_bind,this,Result.andThen_ok,Sem.run_pure]
 .obtain ⟨⟨y,j⟩,i,rfl⟩:=bD.1 H;rw[dg] at i;exact(R.store.sat _ _ _ (k j y i)).1
 .obtain ⟨⟨y,j⟩,i,rfl⟩:=bD.1 H;rw[dg] at i;exact⟨rfl,.inl (k j y i)⟩
theorem Vi(q:iH P T=c)(r:K s [])(y:o.op=.load T x:=by exact rfl)(z:jb h σ.sl x=some (.d (.cp l)):=by exact rfl)(e:c.ok=true:=by exact rfl)(C:rJ c.size l=some i:=by exact rfl)(F:L1 i=some j:=by exact rfl)(G:xh c.agg j=some s:=by exact rfl):ik P h o σ K:=Po q e y z C F G r
theorem MB{l:List D}(I:iH P T=q)(s:q.ok=true)(e:q.agg=true)(J:o.op=.load T x)(M:jb F σ.sl x=some (.d (.cp l)))(h:l.length=q.size)(R:K (.d (.agg l)) []):ik P F o σ K:=λB g a w G=>by
 subst I;obtain⟨b,off,S,hd⟩:=G.oe M;obtain⟨r,H,k⟩:=hd.R3;have c:r.length=(iH P T).size:=by rw[H.length,h]
 refine⟨r.zipIdx.map λp=>(⟨b,off+p.2,none⟩,p.1),.d (.agg l),.agg ⟨r⟩,[],λV z=>?_,λp C=>?_,λp C=>?_,⟨r,rfl,H⟩,R⟩
 .have:=tW (P:=P) s c (λU=>by rw[e] at U;cases U) (b:=b) (off:=off) (λj y W=>J2 (λp=>((⟨b,off+p.2,none⟩:Addr),p.1)) W) V z;rw[e] at this;simp only[execOp,J,S,Sem.run_bind,this,Result.andThen_ok,Sem.run_pure];rfl
 .obtain ⟨⟨y,j⟩,i,rfl⟩:=bD.1 C;rw[dg] at i;exact(G.store.sat _ _ _ (k j y i)).1
 .obtain ⟨⟨y,j⟩,i,rfl⟩:=bD.1 C;rw[dg] at i;exact⟨rfl,.inl (k j y i)⟩
theorem lda(j:iH P T=c)(q:K (.d (.agg l)) [])(r:o.op=.load T x:=by exact rfl)(s:jb i σ.sl x=some (.d (.cp l)):=by exact rfl)(e:c.ok=true:=by exact rfl)(h:c.agg=true:=by exact rfl)(hlen:l.length=c.size:=by omega):ik P i o σ K:=MB j e h r s hlen q
def PC(c:Nat->List D)(e:List (Nat×SV)):List (Nat×Operand)->Option (List (Nat×SV))
 |[]=>some []
 |(i,x)::r=>(jb c e x).bind λs=>(PC c e r).bind λl=>some ((i,s)::l)
def Gz(c:List (Nat×Nat×Bool)):List SV->List (Nat×SV)->Option (List SV)
 |cells,[]=>some cells
 |cells,(i,s)::r=>(jo i c).bind λf=>(rk f.2.2 s).bind λcs=>cond (Nat.beq cs.length f.2.1) ((CE f.1 cs cells).bind λb=>Gz c b r) none
theorem VR{place:Nat->Option (Nat×Nat)}(hp:∀(i:Nat) o sz G,wD[i]? =some (o,sz,G)->place i=some (o,sz))(ρ:Operand->Value)(hρ:∀x s,jb GL sl x=some s->s.Den g (ρ x)):
 ∀{ps:List (Nat×Operand)} {es:List (Nat×SV)} {cs:List SV} {l:List Value} {out:List SV},iN g cs l->PC GL sl ps=some es->Gz wD cs es=some out->
  ∃F,Instr.fill place ⟨l⟩ (ps.map λp=>(p.1,ρ p.2))=some ⟨F⟩/\iN g out F:=by
 intro ps
 induction ps with
 |nil=>
  intro es cs l out hd h b;simp only[PC,an] at h;subst h;simp only[Gz,an] at b;subst b;exact⟨l,rfl,hd⟩
 |cons p r ih=>
  intro es cs l out hd h b;obtain⟨i,x⟩:=p;simp only[PC,ai,an] at h;obtain⟨s,hs,es',H,rfl⟩:=h;simp only[Gz,ai] at b;obtain⟨⟨o,sz,G⟩,I,j,J,b⟩:=b;cases M:Nat.beq j.length sz with
  |false=>simp only[M,cond_false] at b;cases b
  |true=>
   simp only[M,cond_true,ai] at b;obtain⟨c',U,b⟩:=b;have q:=tN J (hρ x s hs);have hcl:=q.length;have hll:=hd.length;have hsz:j.length=sz:=by simpa using M
   have h1:(ρ x).cells.size=sz:=by
    have:(ρ x).cells.toList.length=sz:=O
    simpa using this
   have R:=Bm U;simp only[bG,Instr.fill,hp i o sz G (iS I)];have h3:(decide ((ρ x).cells.size≠sz)||decide (o+(ρ x).cells.size>(⟨l⟩:Array Value).size))=false:=by simp;omega
   rw[h3];simp only[bu,if_false];have c:((ρ x).cells.zipIdx.foldl (λ(cs:Array Value) (y:Value×Nat)=>cs.setIfInBounds (o+y.2) y.1) ⟨l⟩)=⟨l.take o++(ρ x).cells.toList++l.drop (o+(ρ x).cells.toList.length)⟩:=by
    have key:∀(e:List Value) (k:Nat) (l:List Value),o+k+e.length<=l.length->(e.zipIdx k).foldl (λ(cs:Array Value) (y:Value×Nat)=>cs.setIfInBounds (o+y.2) y.1) ⟨l⟩=⟨l.take (o+k)++e++l.drop (o+k+e.length)⟩:=by
     intro e
     induction e with
     |nil=>intro k l hl;simp
     |cons v r S=>
      intro k l hl;simp only[aj] at hl;have e1:(⟨l⟩:Array Value).setIfInBounds (o+k) v=⟨l.set (o+k) v⟩:=by apply c7;simp
      simp only[List.zipIdx_cons,List.foldl_cons,e1];rw[S (k+1) _ (by simp;omega)]
      congr 1
      rw[List.take_set,List.drop_set];simp only[aj];rw[show o+(k+1)=o+k+1 by omega];rw[if_pos O];rw[bo];have V:o+k<l.length:=O;rw[List.set_append];have C:min (o+k) l.length=o+k:=O;simp[V,C];rw[show o+k+1+r.length=o+k+(r.length+1) by omega]
    rw[<- Array.foldl_toList,Array.toList_zipIdx];exact key _ 0 l O
   obtain⟨F,W,Y⟩:=ih (K7 U hd q) H b;refine⟨F,?_,Y⟩;rw[<- W];exact congrArg (λz=>Instr.fill place z (r.map λp=>(p.1,ρ p.2))) c
theorem VO(hT:iH P T=y)(hz:y.TP=true)(hfk:y.fok=true)(c:y.fok=true)(ho:o.op=.build T F)(he:PC GL σ.sl F.toList=some es)
 (hm:wY y.zero=some H) (e:Gz y.wD H es=some I) (hK:K (.agg I) []):ik P GL o σ K:=nG λB g a w hr=>by
 subst hT;have J:∃i z,P.info? T=some i/\i.zero=some z/\(iH P T).zero=z.cells.toList:=by
  simp only[iH,dS,ai] at hz;obtain⟨z,i,C,U⟩:=hz;exact⟨i,z,C,U,by simp[iH,C,U]⟩
 obtain⟨i,z,C,U,M⟩:=J;have R:∃k,P.underlying T=some (.struct k)/\k.toList.all (λf=>(P.info? f.type).isSome)=true:=by
  unfold iH at c;simp only at c;split at c
  .rename_i k h;exact⟨k,h,c⟩
  .cases c
 obtain⟨k,h,b⟩:=R;have S:k.toList.mapM (λf=>(P.info? f.type).map λi=>(f.offset,i.size))=some (k.toList.map λf=>(f.offset,((P.info? f.type).map (·.size)).getD 0)):=by
  generalize k.toList=l at b
  induction l with
  |nil=>rfl
  |cons f r ih=>
   simp only[List.all_cons,bY] at b;obtain⟨i,C⟩:=dS.1 b.1;simp[List.mapM_cons,C,ih b.2]
 have j:(iH P T).wD=k.toList.map λf=>(f.offset,((P.info? f.type).map (·.size)).getD 0,AH (P.underlying f.type)):=by simp[iH,h]
 have V:iN g H z.cells.toList:=by rw[BI hm,M];exact iN.ofv _
 obtain⟨G,W,Y⟩:=VR (g:=g) (wD:=(iH P T).wD) (place:=((k.toList.map λf=>(f.offset,((P.info? f.type).map (·.size)).getD 0)).toArray[·]?)) (λi o sz ag e=>by
  rw[j,bt] at e;cases q:k.toList[i]? with
  |none=>rw[q] at e;cases e
  |some fd=>
   rw[q] at e;simp only[bH,an,bW] at e;simp only[List.getElem?_toArray,bt,q,bH];rw[e.1,e.2.1]) a.eval (λx s hx=>hr.oe hx) V he e
 have hb:P.built T (F.map λp=>(p.1,a.eval p.2)).toList=some ⟨G⟩:=by
  unfold Program.built;simp only[C,h,U,S,eV];exact W
 refine⟨.agg I,.agg ⟨G⟩,λw'=>?_,⟨G,rfl,Y⟩,hK⟩;have:=run_build w' T (F.map λp=>(p.1,a.eval p.2)) ⟨G⟩ hb;simp only[execOp,ho,Sem.run_bind];rw[this];rfl
theorem bld{ps:Array (Nat×Operand)}(s:iH P T=c)(x:K (.agg q) [])(y:o.op=.build T ps:=by exact rfl)(z:c.TP=true:=by exact rfl)(e:c.fok=true:=by exact rfl)(h:c.fok=true:=by exact rfl)(C:PC i σ.sl ps.toList=some r:=by exact rfl)(F:wY c.zero=some j:=by exact rfl)(G:Gz c.wD j r=some q:=by exact rfl):ik P i o σ K:=VO s z e h y C F G x
structure rX (P:Program) (t e:TypeId) (size bytes:Nat):Prop where
 under:P.underlying t=some (.slice e)
 info:(P.info? e).map (λi=>(i.size,i.bytes))=some (size,bytes)
 zero:((P.info? e).bind (·.zero)).map (·.cells.size)=some size
structure GV (P:Program) (t k e:TypeId):Prop where
 under:P.underlying t=some (.map k e)
 key:P.underlying k=some .string
 zero:(P.info? e).bind (·.zero)=some (.int .i64 0)
structure Qn (P:Program) (t k e:TypeId):Prop where
 under:P.underlying t=some (.map k e)
 key:P.underlying k=some .string
 zero:(P.info? e).bind (·.zero)=some (.pointer none)
theorem flat_get{s:Nat}(c:0<s):∀(l:List Value) (k:Nat),(∀ v∈l,v.cells.size=s)->(l.flatMap λv=>v.cells.toList)[k]? =(l[k/s]?).bind λv=>v.cells[k%s]?
 |[],k,_=>by simp
 |v::r,k,h=>by
  have U:v.cells.toList.length=s:=by simpa using h v bC
  simp only[ey,cH,U];by_cases b:k<s
  .rw [if_pos b,Nat.div_eq_of_lt b,Nat.mod_eq_of_lt b];simp
  .rw [if_neg b,flat_get c r (k-s) λu e=>h u (bB _ e)];have i:k/s=(k-s)/s+1:=by rw[Nat.div_eq k s,if_pos ⟨c,O⟩]
   have j:k%s=(k-s)%s:=by rw[Nat.mod_eq k s,if_pos ⟨c,O⟩]
   rw[i,j,eW]
theorem Mx{s:Nat}:∀(l:List Value),(∀ v∈l,v.cells.size=s)->(l.flatMap λv=>v.cells.toList).length=l.length*s
 |[],_=>by simp
 |v::r,h=>by
  have b:v.cells.toList.length=s:=by simpa using h v bC
  simp only[ey,aN,b,Mx r λu k=>h u (bB _ k),aj,bQ];omega
theorem Xi{P:Program}{t e:TypeId}{c q n:Nat}{j:Array (Nat×Operand)}{ρ:Operand->Value}(T:rX P t e c q)(R:List Operand)(l:List Value)(Y:R.map ρ=l)
 (hp:j.toList=(R.zipIdx 0).map λp=>(p.2,p.1)) (G:n=l.length) (S:∀v∈l,v.cells.size=c) (s:0<c) (hn0:0<n) (V:n*c<=16777216) (w:World):
 (Instr.buildSlice t n (j.map λ(i,x)=>(i,ρ x))).run P w=.ok (.slice (some ⟨w.heap.size,0,none⟩) n n) (w.alloc (.cells ⟨l.flatMap λv=>v.cells.toList⟩ e)):=by
 have U:=T.info;have b:=T.zero;cases H:P.info? e with
 |none=>simp[H] at U
 |some W=>
  rw[H] at U b;simp only[bH,an,bW,cw] at U b;cases hz:W.zero with
  |none=>simp[hz] at b
  |some z=>
   rw[hz] at b;simp only[bH,an] at b;obtain⟨I,h2⟩:=U;have F:(j.map λ(x:Nat×Operand)=>(x.1,ρ x.2)).toList=(l.zipIdx 0).map λx=>(x.2,x.1):=by
    rw[eV,hp,<-Y];simp[List.zipIdx_map]
   obtain⟨r,hr,hrs,J⟩:=Great.fill_dense s l 0 ((Array.range (n*c)).map (z.cells[· %z.cells.size]!)) S (by simp[G]);have M:r=⟨l.flatMap λv=>v.cells.toList⟩:=by
    apply c7;apply eX;intro k;have:=J k;rw[flat_get s l k S];rw[dz,this];simp only[eA,ak,true_and,bU,eB];split
    .rfl
    .rename_i hk;have y:n*c<=k:=by rw[G];omega
     have h3:l.length<=k/c:=by rw[<- G];exact(Nat.le_div_iff_mul_le s).2 y
     simp only[cW h3,Option.bind_none];rw[eC];simp;exact y
   have C:=run_buildSlice w t e n (j.map λ(i,x)=>(i,ρ x)) r W z T.under H hz (by rw[I];omega) (by rw[I];intro h0;rcases Nat.mul_eq_zero.1 h0 with h|h<;>omega) (by rw[I,<-hr];congr 1);rw[C,M]
theorem QK{ty:TypeId}(T:rX P t e r G)(hsz:0<r)(q:w.ownsRow 0 e r v n J)
 (W:h.length=m*r) (hm:0<m) (s:∀j u,h[j]? =some u->w.cell? (a.add j)=some u) (h1:∀u∈h,u.oneCell'=true)
 (Y:n+m<=maxLen) (C:(n+m)*G<=140737488355328):
 ∃v' w',(Builtin.append_ #[t,t] ty #[v,.slice (some a) m c]).run P w=.ok v' w'/\w'.ownsRow 0 e r v' (n+m) (J++h)/\Fr (λc=>v.ownBlock=some c/\v'.ownBlock=some c) w w'/\
  ∃k,v'.ownBlock=some k/\(v.ownBlock=some k\/k=w.heap.size)/\k<w'.heap.size/\∃c,v'=.slice (some ⟨k,0,none⟩) (n+m) c:=by
 have U:=T.info;have b:=T.zero;cases hi:P.info? e with
 |none=>simp[hi] at U
 |some i=>
  rw[hi] at U b;simp only[bH,an,bW,cw] at U b;cases hz:i.zero with
  |none=>simp[hz] at b
  |some z=>
  rw[hz] at b;simp only[bH,an] at b;obtain⟨q1,q2⟩:=U;subst q1;subst q2;have hsmall:n+m<=9223372036854775807:=by simp only[maxLen] at Y;omega
  have F:(J++h).length=(n+m)*i.size:=by rw[aN,q.1,W,bQ]
  have H:∀(x:Nat),x<n+m->
   (w.drew.alloc (.cells (J.toArray++h.toArray++Builtin.zeroCells z.cells (grownCap w (n+m) x e-(n+m))) e)).ownsRow 0 e i.size
    (.slice (some ⟨w.heap.size,0,none⟩) (n+m) (grownCap w (n+m) x e)) (n+m) (J++h):=by
   intro x ho;have hge:=grownCap_ge w (n+m) x e;have M:grownCap w (n+m) x e<=maxLen:=grownCap_le_maxLen w (n+m) x e Y;refine⟨F,.inr ⟨w.heap.size,_,_,rfl,ak _,heap_alloc_new w.drew _,hge,M,?_,?_⟩⟩
   .simp only[Array.size_append,dh,size_zeroCells,b,q.1,W,<-bQ]
    congr 1
    omega
   .simp only[eD,bq];rw[<- bq,<-F];exact cE
  rcases q.2 with⟨rfl,rfl⟩|⟨g,cap,R,rfl,hbg,hg,hnc,M,hcs,S⟩
  .have hx:J=[]:=ch (by simpa using q.1);subst hx;have hr:=run_append_nil (P:=P) w t ty e i z T.under hi hz a m c h W s O O (by have hb:=C;simp only[bU] at hb;omega);have I:=H 0 O;simp only[bU,cf,Array.empty_append] at I ⊢;exact⟨_,_,hr,I,((Fr.refl _ w).drew).alloc _,_,rfl,.inr rfl,by simp,_,rfl⟩
  .by_cases y:n+m<=cap
   .have hfit:n*i.size+h.length<=R.size:=by rw[W,hcs,<-bQ];exact dT _ y
    have hr:=run_append_room (P:=P) w t ty e i T.under hi g n cap R hg a m c h W s h1 y hfit;refine⟨_,_,hr,⟨F,.inr ⟨g,cap,_,rfl,hbg,setRow_heap w g R _ e _ hg,y,M,?_,?_⟩⟩,⟨rfl,rfl,rfl,by simp,λk _ hk=>setRow_other w g k _ (λe=>hk ⟨by simp[Value.ownBlock,e],by simp[Value.ownBlock,e]⟩)⟩,
     g,rfl,.inl rfl,by have:=(cV.1 hg).1;simpa using this,_,rfl⟩
    .simp only[dh,aN,bj,bK,eY];omega
    .rw [S,<-F];exact cE
   .have V:∀j u,J[j]? =some u->w.cell? ((⟨g,0,none⟩:Addr).add j)=some u:=q.cells (g:=g) rfl;have hr:=run_append_grow (P:=P) w t ty e i z T.under hi hz ⟨g,0,none⟩ n cap J q.1 V a m c h W s O O (growslice_fits O C);have I:=H cap O;exact⟨_,_,hr,I,((Fr.refl _ w).drew).alloc _,_,rfl,.inr rfl,by simp,_,rfl⟩
def z8(T:Nat->Prop)(e:List Ob)(g:Gh)(w:World)(c:Gh)(h:World):Prop:=
 pV g.m c.m/\∀(i b:Nat) o,¬T i->e[i]? =some o->g.gs[i]? =some (.loc b)->np o (.loc b)=some b->c.gs[i]? =some (.loc b)/\h.heap[b]? =w.heap[b]?
theorem z8.refl(T:Nat->Prop)(c g w):z8 T c g w g w:=⟨pV.refl _,λ_ _ _ _ _ h _=>⟨h,rfl⟩⟩
theorem tc.refl(h:WR g g'):∀o:Ob,tc g g' o o
 | .cells l ty=>⟨rfl,λb hd=>iN.mono h l hd⟩
 | .row e k=>⟨rfl,rfl⟩
 | .jd e k=>⟨rfl,rfl⟩
 | .buf e k ls q=>⟨rfl,rfl,rfl,rfl,λb hd=>nk.mono h.m _ hd⟩
 | .jc f=>rfl
 | .jK f=>⟨rfl,h.m⟩
 | .rU o k=>⟨rfl,rfl,h.m⟩
 | .ru i f c U=>⟨rfl,rfl,rfl,.inl rfl⟩
 | .dead=>trivial
section
variable {GL:Nat->List D} {B:Bs} {σ:St} {g:Gh} {a:Act} {w:World}
theorem Ji.step(h:Ji B z g w)(C:Fr X w r)(s:∀b,X b->B.X b\/B.w.heap.size<=b)(F:pV g.m e.m)
 (j:∀b o x,e.m b o=some x->g.m b o=none->X b\/w.heap.size<=b)
 (q:∀(i:Nat) o p b,c[i]? =some o->e.gs[i]? =some p->jP o p b->(B.X b\/B.w.heap.size<=b)\/w.heap.size<=b)
 (hat:∀(i b:Nat),g.gs[i]? =some (.loc b)->e.gs[i]? =some (.loc b)):Ji B c e r:=by
 have R:=h.fr.size;refine⟨h.fr.then C (λi k=>by rcases s i k with h1|h1;exact .inl h1;exact .inr h1),h.mem.trans F,λb o x G H=>?_,λi o p b h1 I J=>?_,λi b k M=>hat i b (h.at' i b k M)⟩
 .cases U:g.m b o with
  |some y=>exact h.new b o y U H
  |none=>
   rcases j b o x G U with h1|h1
   .exact s b h1
   .exact .inr O
 .rcases q i o p b h1 I J with h4|h4
  .exact h4
  .exact .inr O
theorem jX.lt{c:List Ob}(h:jX GL c g w){i:Nat}{o:Ob}{p:Pl}{r:Nat}(e:c[i]? =some o)(j:g.gs[i]? =some p)(q:jP o p r):r<w.heap.size:=(h.qM i o p e j).lt q
theorem jX.rB(h:jX GL c g w)(e:g.m i o=some x):i<w.heap.size:=World.block_lt_of_cell? w ⟨i,o,none⟩ (h.sat i o x e).1
theorem jE.Eh(h:jE GL B σ g a w)(hf:Fr (λ_=>False) w w')(Y:pV g.m F)
 (C:∀b o x,F b o=some x->g.m b o=none->w.heap.size<=b/\w'.cell? ⟨b,o,none⟩=some x/\x.oneCell'=true)
 (hok:oJ ⟨F,g.gs++[pl]⟩ w' o' pl) (G:∀b,jP o' pl b->w.heap.size<=b) (hit:∀i f V c,o'=.ru i f V c->σ.ob[i]? =some (.jc f)):
 jE GL B ⟨σ.n,σ.sl,σ.ob++[o']⟩ ⟨F,g.gs++[pl]⟩ a w'/\z8 (λ_=>False) σ.ob g w ⟨F,g.gs++[pl]⟩ w':=by
 have H:=h.store.len;have r:WR g ⟨F,g.gs++[pl]⟩:=⟨Y,λi p hp=>by
  show(g.gs++[pl])[i]? =some p;rw[bl (aJ.1 hp).1];exact hp⟩
 have M:∀b i,b<w.heap.size->g.m b i=none->F b i=none:=λb i I hn=>by
  cases J:F b i with
  |none=>rfl
  |some x=>have:=(C b i x J hn).1;omega
 have U:(g.gs++[pl])[σ.ob.length]? =some pl:=by rw[H];simp
 refine⟨⟨h.defers,h.size,λt=>SV.Den.mono r _ (h.j9 t),?_,?_⟩,Y,λi b o _ k R I=>⟨r.gs _ _ R,hf.block b (h.store.lt k R (oF I)) (λx=>x)⟩⟩
 .refine h.store.step (p:=λj=>j=σ.ob.length) Y (λi b=>r.gs i _) (λi q _=>r.gs i q) (λb o x J=>?_) (by simp[H]) (λj o1 z k=>?_) (λj i f V c k=>?_) (λj i f V c z k hi=>?_)
   (λj o1 q b z k hq I=>?_) (λj o1 z k=>?_) (λj o1 q b z k hq I=>?_) (λi j oi oj pi pj b hi z _ _ _ _ _ _=>hi.trans z.symm)
  .cases R:g.m b o with
   |some y=>
    have e:=Y b o y R;simp only at J;rw[e] at J;cases J;have hs:=h.store.sat b o x R;refine⟨?_,hs.2⟩;rw[World.cell?_of_block (w:=w) (hf.block b (h.store.rB R) (λx=>x))];exact hs.1
   |none=>exact(C b o x J R).2
  .have s:j<σ.ob.length:=by
    have:=(aJ.1 k).1;simp at this;omega
   rw[bl s] at k;exact⟨o1,k,tc.refl r o1⟩
  .by_cases z:j<σ.ob.length
   .rw [bl z] at k;have:=h.store.th j i f V c k;rw[bl (aJ.1 this).1];exact this
   .have S:j=σ.ob.length:=by have:=(aJ.1 k).1;simp at this;omega
    subst S;simp at k;have:=hit i f V c k;rw[bl (aJ.1 this).1];exact this
  .have s:j<σ.ob.length:=by
    have:=(aJ.1 k).1;simp at this;omega
   rw[bl s] at k;have:=(aJ.1 (h.store.th j i f V c k)).1;omega
  .have s:=h.store.lt k hq I;exact⟨hf.block b s (λx=>x),λi hn=>M b i s hn⟩
  .subst z;simp at k;subst k;exact⟨pl,U,hok⟩
  .subst z;simp at k;subst k;simp only at hq;rw[U] at hq;cases hq;exact .inr (G b I)
 .refine h.pG.step hf (λb I=>I.elim) Y (λb o x J hn=>.inr (C b o x J hn).1) (λi o p b h1 W h3=>?_) (λi b=>r.gs i _);by_cases z:i<σ.ob.length
  .rw [bl z] at h1;simp only at W;rw[bl O] at W;exact .inl (h.pG.own i o p b h1 W h3)
  .have S:i=σ.ob.length:=by have:=(aJ.1 h1).1;simp at this;omega
   subst S;simp at h1;subst h1;simp only at W;rw[U] at W;cases W;exact .inr (G b h3)
theorem jE.NL(h:jE GL B σ g a w){b:Nat}(M:σ.ob[i]? =some o)(z:g.gs[i]? =some Y)(hb:np o Y=some b)(hf:Fr (λc=>c=b) w w')
 (hok:oJ g w' o' Y) (F:np o' Y=some b\/o'=.dead) (R:∀(j:Nat) f G s,σ.ob[j]? ≠some (.ru i f G s)) (hit:∀k f G s,o'=.ru k f G s->k≠i/\σ.ob[k]? =some (.jc f))
 (hmn:∀off,g.m b off=none):
 jE GL B ⟨σ.n,σ.sl,σ.ob.set i o'⟩ g a w'/\z8 (λj=>j=i) σ.ob g w g w':=by
 have S:=h.store.len;have J:=(aJ.1 M).1;have V:∀(j:Nat) H W c,j≠i->σ.ob[j]? =some H->g.gs[j]? =some W->jP H W c->c≠b:=λj H W c r U y C e=>by
  subst e;exact r (h.store.xk j i H o W _ c U M y z C (oF hb))
 refine⟨⟨h.defers,h.size,h.j9,?_,?_⟩,pV.refl _,λj c H r U y C=>⟨y,hf.block c (h.store.lt U y (oF C)) (V j H _ c r U y (oF C))⟩⟩
 .refine h.store.step (p:=λj=>j=i) (pV.refl _) (λ_ _ h=>h) (λ_ _ _ h=>h) (λc off x I=>?_) (by simp[S]) (λj o1 r U=>?_) (λj k f G s U=>?_) (λj k f G s r U hk=>?_)
   (λj o1 q c r U y C=>⟨hf.block c (h.store.lt U y C) (V j o1 q c r U y C),λ_ h=>h⟩) (λj o1 r U=>?_) (λj o1 q c r U y C=>?_) (λi j oi H pi W b J r _ _ _ _ _ _=>J.trans r.symm)
  .have hs:=h.store.sat c off x I;refine⟨?_,hs.2⟩;have hcb:¬c=b:=λe=>by subst e;rw[hmn] at I;cases I
   rw[World.cell?_of_block (w:=w) (hf.block c (h.store.rB I) hcb)];exact hs.1
  .rw [bg (bd r)] at U;exact⟨o1,U,tc.refl (WR.refl g) o1⟩
  .by_cases r:j=i
   .subst r;rw[bz J] at U;cases U;obtain⟨h5,h6⟩:=hit k f G s rfl;rw[bg (bd h5)];exact h6
   .rw [bg (bd r)] at U;have y:=h.store.th j k f G s U;by_cases hk:k=i
    .subst hk;exact absurd U (R j f G s)
    .rw [bg (bd hk)];exact y
  .rw [bg (bd r)] at U;subst hk;exact R j f G s U
  .subst r;rw[bz J] at U;cases U;exact⟨_,z,hok⟩
  .subst r;rw[bz J] at U;cases U;rw[z] at y;cases y;rcases F with F|rfl
   .have e9:=LB F C;subst e9;exact .inl ⟨j,o,_,rfl,M,z,oF hb⟩
   .cases C
 .refine h.pG.step hf (λc e=>by subst e;exact h.pG.own i o _ c M z (oF hb)) (pV.refl _) (λc off x I hn=>by rw[hn] at I;cases I) (λj o1 p c U y C=>?_) (λ_ _ h=>h);by_cases r:j=i
  .subst r;rw[bz J] at U;cases U;rw[z] at y;cases y;rcases F with F|rfl
   .have e9:=LB F C;subst e9;exact .inl (h.pG.own j o _ _ M z (oF hb))
   .cases C
  .rw [bg (bd r)] at U;exact .inl (h.pG.own j o1 p c U y C)
mutual
def SV.kO(i:Nat):SV->Option SV
 | .own j k ls=>cond (Nat.beq j i) (some (.d (.sl k ls))) (some (.own j k ls))
 | .agg l=>(XM i l).bind λl'=>some (.agg l')
 | .jj l=>(XM i l).bind λl'=>some (.jj l')
 | .fn f first caps=>(XM i first).bind λa=>(XM i caps).bind λb=>some (.fn f a b)
 | .uU T s=>(s.kO i).bind λs'=>some (.uU T s')
 | .d x=>some (.d x)
 | .jk j off=>some (.jk j off)
 | .map j=>some (.map j)
 | .rp j=>cond (Nat.beq j i) (some .qe) (some (.rp j))
 | .arr j n=>cond (Nat.beq j i) (some .qe) (some (.arr j n))
 | .bp j off=>cond (Nat.beq j i) (some .qe) (some (.bp j off))
 | .G3 k ls=>some (.G3 k ls)
 | .qe=>some .qe
def XM(i:Nat):List SV->Option (List SV)
 |[]=>some []
 |s::r=>(s.kO i).bind λs'=>(XM i r).bind λr'=>some (s'::r')
end
mutual
theorem Vm{i:Nat}:∀{s s':SV},s.kO i=some s'->s'=s.kill λj=>Nat.beq j i
 | .own j k ls,s',h=>by
  simp only[SV.kO] at h;simp only[SV.kill];cases hb:Nat.beq j i<;>rw[hb] at h<;>simp at h<;>simp[h]
 | .agg l,s',h=>by
  simp only[SV.kO,ai,an] at h;obtain⟨l',h1,rfl⟩:=h;simp only[SV.kill,yY h1]
 | .jj l,s',h=>by
  simp only[SV.kO,ai,an] at h;obtain⟨l',h1,rfl⟩:=h;simp only[SV.kill,yY h1]
 | .fn f a b,s',h=>by
  simp only[SV.kO,ai,an] at h;obtain⟨a',h1,b',h2,rfl⟩:=h;simp only[SV.kill,yY h1,yY h2]
 | .uU T s,s',h=>by
  simp only[SV.kO,ai,an] at h;obtain⟨a',h1,rfl⟩:=h;simp only[SV.kill,Vm h1]
 | .d x,s',h=>by simp[SV.kO] at h;subst h;rfl
 | .jk j off,s',h=>by simp[SV.kO] at h;subst h;rfl
 | .map j,s',h=>by simp[SV.kO] at h;subst h;rfl
 | .arr j n,s',h=>by
  simp only[SV.kO] at h;simp only[SV.kill];cases hb:Nat.beq j i<;>rw[hb] at h<;>simp at h<;>simp[h]
 | .bp j off,s',h=>by
  simp only[SV.kO] at h;simp only[SV.kill];cases hb:Nat.beq j i<;>rw[hb] at h<;>simp at h<;>simp[h]
 | .rp j,s',h=>by
  simp only[SV.kO] at h;simp only[SV.kill];cases hb:Nat.beq j i<;>rw[hb] at h<;>simp at h<;>simp[h]
 | .G3 k ls,s',h=>by simp[SV.kO] at h;subst h;rfl
 | .qe,s',h=>by simp[SV.kO] at h;subst h;rfl
theorem yY{i:Nat}:∀{s s':List SV},XM i s=some s'->s'=uy (λj=>Nat.beq j i) s
 |[],s',h=>by simp[XM] at h;subst h;rfl
 |s::r,s',h=>by
  simp only[XM,ai,an] at h;obtain⟨a',h1,b',h2,rfl⟩:=h;simp only[uy,Vm h1,yY h2]
end
def Ix(i:Nat):List (Nat×SV)->Option (List (Nat×SV))
 |[]=>some []
 |(t,s)::r=>(s.kO i).bind λb=>(Ix i r).bind λk=>some ((t,b)::k)
theorem BO{i t:Nat}:∀{l b:List (Nat×SV)},Ix i l=some b->vO t b=(vO t l).kill λj=>Nat.beq j i
 |[],b,h=>by simp[Ix] at h;subst h;rfl
 |(k,s)::r,b,h=>by
  simp only[Ix,ai,an] at h;obtain⟨e,U,q,c,rfl⟩:=h;rw[n5,n5];split
  .exact Vm U
  .exact BO c
def Ob.kO(i:Nat):Ob->Option Ob
 | .cells l ty=>(XM i l).bind λU=>some (.cells U ty)
 | .row e k=>some (.row e k)
 | .jd e k=>some (.jd e k)
 | .buf e k ls q=>some (.buf e k ls q)
 | .jc f=>some (.jc f)
 | .jK f=>some (.jK f)
 | .rU o k=>some (.rU o k)
 | .ru j f c b=>some (.ru j f c b)
 | .dead=>some .dead
def Iy(i:Nat):List Ob->Option (List Ob)
 |[]=>some []
 |o::r=>(o.kO i).bind λb=>(Iy i r).bind λk=>some (b::k)
theorem zK{i:Nat}:∀{l b:List Ob},Iy i l=some b->b.length=l.length/\∀(j:Nat) k,b[j]? =some k->∃o,l[j]? =some o/\o.kO i=some k
 |[],b,h=>by simp[Iy] at h;subst h;simp
 |o::r,b,h=>by
  simp only[Iy,ai,an] at h;obtain⟨s,e,x,q,rfl⟩:=h;have c:=zK q;refine⟨by simp[c.1],λj k U=>?_⟩;cases j with
  |zero=>simp at U;subst U;exact⟨o,rfl,e⟩
  |succ j=>simpa using c.2 j k (by simpa using U)
theorem tc.kO{g e:Gh}{i:Nat}(h:Zh (λj=>Nat.beq j i) g e){o q:Ob}(c:o.kO i=some q):tc g e o q:=by
 cases o<;>simp only[Ob.kO,ai,an] at c
 case cells l ty=>obtain⟨U,b,rfl⟩:=c;rw[yY b];exact⟨rfl,λk hd=>iN.kill h l hd⟩
 case row=>subst c;exact⟨rfl,rfl⟩
 case jd=>subst c;exact⟨rfl,rfl⟩
 case buf=>subst c;exact⟨rfl,rfl,rfl,rfl,λk hd=>nk.mono h.m _ hd⟩
 case jc=>subst c;rfl
 case jK=>subst c;exact⟨rfl,h.m⟩
 case rU=>subst c;exact⟨rfl,rfl,h.m⟩
 case ru=>subst c;exact⟨rfl,rfl,rfl,.inl rfl⟩
 case dead=>subst c;trivial
theorem jE.afl(h:jE GL B σ g a w){b:Option Nat}{k:Nat}(ho:σ.ob[i]? =some o)(hor:o=.row e k\/o=.jd e k)(M:g.gs[i]? =some (.row b cap n))(hf:Fr (λc=>b=some c/\o=.row e k) w w')
 (hm:pV g.m m') (hc:(b=some c/\o=.row e k)\/w.heap.size<=c)
 (G:∀d off x,m' d off=some x->g.m d off=none->d=c) (hsat:∀off x,m' c off=some x->w'.cell? ⟨c,off,none⟩=some x/\x.oneCell'=true)
 (hold:∀d off x,b=some d->g.m d off=some x->w'.cell? ⟨d,off,none⟩=some x)
 (hok:∃xs,w'.ownsRow 0 e k (.slice (some ⟨c,0,none⟩) n' cap') n' xs) (W:∀off,n'*k<=off->m' c off=none)
 (hsl:Ix i σ.sl=some Y) (hob:Iy i σ.ob=some R):
 jE GL B ⟨σ.n,Y,R.set i (.row e k)⟩ ⟨m',g.gs.set i (.row (some c) cap' n')⟩ a w'/\z8 (λj=>j=i) σ.ob g w ⟨m',g.gs.set i (.row (some c) cap' n')⟩ w':=by
 have hlen:=h.store.len;have hi:=(aJ.1 ho).1;have U:=zK hob;have F:(g.gs.set i (.row (some c) cap' n'))[i]? =some (.row (some c) cap' n'):=bz O;have hgs:∀(j:Nat) q,j≠i->g.gs[j]? =some q->(g.gs.set i (.row (some c) cap' n'))[j]? =some q:=λj q z hq=>by rw[bg (bd z)];exact hq
 have S:∀(j d:Nat),g.gs[j]? =some (.loc d)->(g.gs.set i (.row (some c) cap' n'))[j]? =some (.loc d):=λj d hd=>hgs j _ (λe=>by subst e;rw[M] at hd;cases hd) hd
 have hkl:Zh (λj=>Nat.beq j i) g ⟨m',g.gs.set i (.row (some c) cap' n')⟩:=⟨hm,λj q hq z=>hgs j q (λe=>by subst e;simp at z) hq,S⟩;have hbr:∀d,b=some d/\o=.row e k->jP o (.row b cap n) d:=λd hd=>by rw[hd.2,hd.1];rfl
 have hne:∀(j:Nat) oj pj d,j≠i->σ.ob[j]? =some oj->g.gs[j]? =some pj->jP oj pj d->¬(b=some d/\o=.row e k)/\d≠c:=λj oj pj d z r C s=>by
  have V:¬(b=some d/\o=.row e k):=λhd=>z (h.store.xk j i oj o pj _ d r ho C M s (hbr d hd))
  refine⟨V,λe=>?_⟩;subst e;rcases hc with hc|hc
  .exact V hc
  .have:=h.store.lt r C s;omega
 refine⟨⟨h.defers,h.size,λt=>?_,?_,?_⟩,hm,λj d oj z r C s=>⟨S j d C,hf.block d (h.store.lt r C (oF s)) (hne j oj _ d z r C (oF s)).1⟩⟩
 .show (vO t Y).Den _ _;rw[BO hsl];exact SV.Den.kill hkl _ (h.j9 t)
 .refine h.store.step (p:=λj=>j=i) hm S hgs (λd off x J=>?_) (by simp[U.1,hlen]) (λj o1 z r=>?_) (λj q f dn H r=>?_) (λj q f dn H z r hk=>?_)
   (λj o1 q d z r C s=>⟨hf.block d (h.store.lt r C s) (hne j o1 q d z r C s).1,λoff hn=>?_⟩) (λj o1 z r=>?_) (λj o1 q d z r C s=>?_) (λi j oi oj pi pj b hi z _ _ _ _ _ _=>hi.trans z.symm)
  .by_cases hdc:d=c
   .subst hdc;exact hsat off x J
   .cases hg:g.m d off with
    |none=>exact absurd (G d off x J hg) hdc
    |some y=>
     have e1:=hm d off y hg;simp only at J;rw[e1] at J;cases J;have hs:=h.store.sat d off x hg;refine⟨?_,hs.2⟩;by_cases hbd:b=some d/\o=.row e k
     .exact hold d off x hbd.1 hg
     .rw [World.cell?_of_block (w:=w) (hf.block d (h.store.rB hg) hbd)];exact hs.1
  .rw [bg (bd z)] at r;obtain⟨o2,C,s⟩:=U.2 j o1 r;exact⟨o2,C,tc.kO hkl s⟩
  .by_cases z:j=i
   .subst z;rw[bz (by rw[U.1];exact hi)] at r;cases r
   .rw [bg (bd z)] at r;obtain⟨o2,C,s⟩:=U.2 j _ r;have V:o2=.ru q f dn H:=by
     cases o2<;>simp only[Ob.kO,ai,an] at s
     case cells=>obtain⟨_,_,s⟩:=s;cases s
     all_goals (cases s;try rfl)
    subst V;have I:=h.store.th j q f dn H C;have hq:q≠i:=λe=>by subst e;rw[ho] at I;cases I;rcases hor with hor|hor<;>cases hor
    rw[bg (bd hq)];have h6:q<R.length:=by rw[U.1];exact(aJ.1 I).1
    obtain⟨o3,h7,h8⟩:=U.2 q R[q] (by simp[h6]);rw[I] at h7;cases h7;simp[Ob.kO] at h8;rw[aZ h6,<-h8]
  .rw [bg (bd z)] at r;obtain⟨o2,C,s⟩:=U.2 j _ r;have V:o2=.ru q f dn H:=by
    cases o2<;>simp only[Ob.kO,ai,an] at s
    case cells=>obtain⟨_,_,s⟩:=s;cases s
    all_goals (cases s;try rfl)
   have hk:q=i:=hk;subst V hk;have I:=h.store.th j _ f dn H C;rw[ho] at I;cases I;rcases hor with hor|hor<;>cases hor
  .cases J:m' d off with
   |none=>exact J
   |some x=>exact absurd (G d off x J hn) (hne j o1 q d z r C s).2
  .subst z;rw[bz (by rw[U.1];exact hi)] at r;cases r;exact⟨_,F,hok,λd hd off hoff=>by cases hd;exact W off hoff⟩
  .subst z;rw[bz (by rw[U.1];exact hi)] at r;cases r;simp only at C;rw[F] at C;cases C;simp only[jP,np,an] at s;subst s;rcases hc with hc|hc
   .exact .inl ⟨_,o,_,rfl,ho,M,hbr _ hc⟩
   .exact .inr hc
 .have hX:∀d,b=some d/\o=.row e k->B.X d\/B.w.heap.size<=d:=λd hd=>h.pG.own i o _ d ho M (hbr d hd)
  refine h.pG.step hf hX hm (λd off x J hn=>by
   have:=G d off x J hn;subst this;exact hc) (λj o1 p d r C s=>?_) S
  by_cases z:j=i
  .subst z;rw[bz (by rw[U.1];exact hi)] at r;cases r;simp only at C;rw[F] at C;cases C;simp only[jP,np,an] at s;subst s;rcases hc with hc|hc
   .exact .inl (hX _ hc)
   .exact .inr hc
  .rw [bg (bd z)] at r;simp only at C;rw[bg (bd z)] at C;obtain⟨o2,V,I⟩:=U.2 j o1 r;refine .inl (h.pG.own j o2 p d V C ?_);rcases(tc.kO hkl I).jk s (λ_ _=>trivial) with h6|⟨e',k',rfl⟩
   .exact h6
   .simp [Ob.kO] at I;subst I;simp[jP,np] at s
end
inductive Out where
 |ret (s:SV)
 |vk (s:SV)
def nF:List Ob->Bool
 |[]=>true
 | .ru _ _ _ _::_=>false
 | .cells _ _::r=>nF r
 | .row _ _::r=>nF r
 | .jd _ _::r=>nF r
 | .buf _ _ _ _::r=>nF r
 | .jc _::r=>nF r
 | .jK _::r=>nF r
 | .rU _ _::r=>nF r
 | .dead::r=>nF r
theorem oG:∀{ob:List Ob},nF ob=true->∀(j i:Nat) f k b,ob[j]? ≠some (.ru i f k b)
 |[],_,j,i,f,k,b=>by simp
 |o::r,h,0,i,f,k,b=>by intro e;simp at e;subst e;cases h
 |o::r,h,j+1,i,f,k,b=>by
  have:nF r=true:=by cases o<;>first|exact h|cases h
  simpa using oG this j i f k b
def lN(c:List Ob)(g:Gh)(e:Nat):Prop:= ∃(i:Nat) (o:Ob) (p:Pl),c[i]? =some o/\g.gs[i]? =some p/\jP o p e
def jT (P : Program) (i : Nat -> List D) (j : FuncId) (h : List Ob) (args : List SV) (Q : Out -> List Ob -> Prop) : Prop :=
  ∀ (g : Gh) (w : World) (k : List Value), jX i h g w -> iN g args k ->
    Calls P j ⟨k⟩ w λe U => ∃ b ob', jX i ob' b U /\ Ji ⟨g, w, lN h g, h.length, []⟩ ob' b U /\ h.length <= ob'.length /\ nF ob' = true /\
      (match e with
       | .returned v => ∃ s, s.Den b v /\ Q (.ret s) ob'
       | .panicked c => ∃ v s, c = [{ v := v, recovered := false }] /\ s.Den b v /\ Q (.vk s) ob'
       | .outgrown => False)
theorem jT.mono{P:Program}{j:Nat->List D}{f:FuncId}{q:List Ob}{args:List SV}{Q r:Out->List Ob->Prop}(h:jT P j f q args Q)(x:∀o b,Q o b->r o b):jT P j f q args r:=λg w y z hd=>
 (h g w y z hd).mono λe M ⟨C,ob',F,G,H,I,k⟩=>⟨C,ob',F,G,H,I,by
  cases e with
  |returned v=>obtain⟨s,U,i⟩:=k;exact⟨s,U,x _ _ i⟩
  |panicked c=>obtain⟨v,s,U,i,J⟩:=k;exact⟨v,s,U,i,x _ _ J⟩
  |outgrown=>exact k⟩
mutual
def SV.j5(ρ:List Nat):SV->Option SV
 | .d x=>some (.d x)
 | .jk i off=>(jo i ρ).bind λj=>some (.jk j off)
 | .agg l=>(qD ρ l).bind λl'=>some (.agg l')
 | .jj l=>(qD ρ l).bind λl'=>some (.jj l')
 | .own i k ls=>(jo i ρ).bind λj=>some (.own j k ls)
 | .fn f a b=>(qD ρ a).bind λa'=>(qD ρ b).bind λb'=>some (.fn f a' b')
 | .uU T s=>(s.j5 ρ).bind λs'=>some (.uU T s')
 | .map i=>(jo i ρ).bind λj=>some (.map j)
 | .rp i=>(jo i ρ).bind λj=>some (.rp j)
 | .arr i n=>(jo i ρ).bind λj=>some (.arr j n)
 | .bp i off=>(jo i ρ).bind λj=>some (.bp j off)
 | .G3 k ls=>some (.G3 k ls)
 | .qe=>some .qe
def qD(ρ:List Nat):List SV->Option (List SV)
 |[]=>some []
 |s::r=>(s.j5 ρ).bind λs'=>(qD ρ r).bind λr'=>some (s'::r')
end
def YC(ρ:List Nat)(g c:Gh):Prop:=pV g.m c.m/\∀(i j:Nat) p,ρ[i]? =some j->g.gs[i]? =some p->c.gs[j]? =some p
mutual
theorem SV.JM{ρ:List Nat}{g g':Gh}(h:YC ρ g g'):∀(s:SV) {t:SV} {y:Value},s.j5 ρ=some t->s.Den g y->t.Den g' y
 | .d x,t,y,hr,hd=>by simp[SV.j5] at hr;subst hr;exact D.Den.mono h.1 x hd
 | .jk i off,t,y,hr,⟨b,hb,e⟩=>by
  simp only[SV.j5,ai,an] at hr;obtain⟨j,hj,rfl⟩:=hr;exact⟨b,h.2 i j _ (iS hj) hb,e⟩
 | .agg l,t,y,hr,⟨vs,e,hd⟩=>by
  simp only[SV.j5,ai,an] at hr;obtain⟨l',hl,rfl⟩:=hr;exact⟨vs,e,wK h l hl hd⟩
 | .jj l,t,y,hr,⟨vs,e,hd⟩=>by
  simp only[SV.j5,ai,an] at hr;obtain⟨l',hl,rfl⟩:=hr;exact⟨vs,e,wK h l hl hd⟩
 | .own i k ls,t,y,hr,⟨b,cap,hb,e,hc,hd⟩=>by
  simp only[SV.j5,ai,an] at hr;obtain⟨j,hj,rfl⟩:=hr;exact⟨b,cap,h.2 i j _ (iS hj) hb,e,hc,λhn=>by obtain⟨c,e2,h2⟩:=hd hn;exact⟨c,e2,nT.mono h.1 ls h2⟩⟩
 | .fn f a b,t,y,hr,⟨vs,us,e,h1,h2⟩=>by
  simp only[SV.j5,ai,an] at hr;obtain⟨a',ha,b',hb,rfl⟩:=hr;exact⟨vs,us,e,wK h a ha h1,wK h b hb h2⟩
 | .uU T s,t,y,hr,⟨x,e,hd⟩=>by
  simp only[SV.j5,ai,an] at hr;obtain⟨s',hs,rfl⟩:=hr;exact⟨x,e,SV.JM h s hs hd⟩
 | .map i,t,y,hr,⟨b,hb,e⟩=>by
  simp only[SV.j5,ai,an] at hr;obtain⟨j,hj,rfl⟩:=hr;exact⟨b,h.2 i j _ (iS hj) hb,e⟩
 | .arr i n,t,y,hr,⟨b,cap,hb,e⟩=>by
  simp only[SV.j5,ai,an] at hr;obtain⟨j,hj,rfl⟩:=hr;exact⟨b,cap,h.2 i j _ (iS hj) hb,e⟩
 | .bp i off,t,y,hr,⟨b,cap,n,hb,e⟩=>by
  simp only[SV.j5,ai,an] at hr;obtain⟨j,hj,rfl⟩:=hr;exact⟨b,cap,n,h.2 i j _ (iS hj) hb,e⟩
 | .rp i,t,y,hr,⟨b,cap,n,hb,e⟩=>by
  simp only[SV.j5,ai,an] at hr;obtain⟨j,hj,rfl⟩:=hr;exact⟨b,cap,n,h.2 i j _ (iS hj) hb,e⟩
 | .G3 k ls,t,y,hr,⟨a,e,hd⟩=>by
  simp[SV.j5] at hr;subst hr;exact⟨a,e,λhn=>by obtain⟨b,off,e2,h2⟩:=hd hn;exact⟨b,off,e2,nT.mono h.1 ls h2⟩⟩
 | .qe,t,y,hr,_=>by simp[SV.j5] at hr;subst hr;trivial
theorem wK{ρ:List Nat}{g g':Gh}(h:YC ρ g g'):∀(l:List SV) {l':List SV} {vs:List Value},qD ρ l=some l'->iN g l vs->iN g' l' vs
 |[],l',vs,hr,hd=>by simp[qD] at hr;subst hr;exact hd
 |s::r,l',vs,hr,⟨x,v',e,h1,h2⟩=>by
  simp only[qD,ai,an] at hr;obtain⟨s',hs,r',hr',rfl⟩:=hr;exact⟨x,v',e,SV.JM h s hs h1,wK h r hr' h2⟩
end
def Wx(ρ:List Nat)(g c:Gh):Prop:=pV c.m g.m/\∀(i j:Nat) p,ρ[i]? =some j->c.gs[j]? =some p->g.gs[i]? =some p
mutual
theorem SV.yK{ρ:List Nat}{g g':Gh}(h:Wx ρ g g'):∀(s:SV) {t:SV} {y:Value},s.j5 ρ=some t->t.Den g' y->s.Den g y
 | .d x,t,y,hr,hd=>by simp[SV.j5] at hr;subst hr;exact D.Den.mono h.1 x hd
 | .jk i off,t,y,hr,hd=>by
  simp only[SV.j5,ai,an] at hr;obtain⟨j,hj,rfl⟩:=hr;obtain⟨b,hb,e⟩:=hd;exact⟨b,h.2 i j _ (iS hj) hb,e⟩
 | .agg l,t,y,hr,hd=>by
  simp only[SV.j5,ai,an] at hr;obtain⟨l',hl,rfl⟩:=hr;obtain⟨vs,e,hd⟩:=hd;exact⟨vs,e,qw h l hl hd⟩
 | .jj l,t,y,hr,hd=>by
  simp only[SV.j5,ai,an] at hr;obtain⟨l',hl,rfl⟩:=hr;obtain⟨vs,e,hd⟩:=hd;exact⟨vs,e,qw h l hl hd⟩
 | .own i k ls,t,y,hr,hd=>by
  simp only[SV.j5,ai,an] at hr;obtain⟨j,hj,rfl⟩:=hr;obtain⟨b,cap,hb,e,hc,hd⟩:=hd;exact⟨b,cap,h.2 i j _ (iS hj) hb,e,hc,λhn=>by obtain⟨c,e2,h2⟩:=hd hn;exact⟨c,e2,nT.mono h.1 ls h2⟩⟩
 | .fn f a b,t,y,hr,hd=>by
  simp only[SV.j5,ai,an] at hr;obtain⟨a',ha,b',hb,rfl⟩:=hr;obtain⟨vs,us,e,h1,h2⟩:=hd;exact⟨vs,us,e,qw h a ha h1,qw h b hb h2⟩
 | .uU T s,t,y,hr,hd=>by
  simp only[SV.j5,ai,an] at hr;obtain⟨s',hs,rfl⟩:=hr;obtain⟨x,e,hd⟩:=hd;exact⟨x,e,SV.yK h s hs hd⟩
 | .map i,t,y,hr,hd=>by
  simp only[SV.j5,ai,an] at hr;obtain⟨j,hj,rfl⟩:=hr;obtain⟨b,hb,e⟩:=hd;exact⟨b,h.2 i j _ (iS hj) hb,e⟩
 | .arr i n,t,y,hr,hd=>by
  simp only[SV.j5,ai,an] at hr;obtain⟨j,hj,rfl⟩:=hr;obtain⟨b,cap,hb,e⟩:=hd;exact⟨b,cap,h.2 i j _ (iS hj) hb,e⟩
 | .bp i off,t,y,hr,hd=>by
  simp only[SV.j5,ai,an] at hr;obtain⟨j,hj,rfl⟩:=hr;obtain⟨b,cap,n,hb,e⟩:=hd;exact⟨b,cap,n,h.2 i j _ (iS hj) hb,e⟩
 | .rp i,t,y,hr,hd=>by
  simp only[SV.j5,ai,an] at hr;obtain⟨j,hj,rfl⟩:=hr;obtain⟨b,cap,n,hb,e⟩:=hd;exact⟨b,cap,n,h.2 i j _ (iS hj) hb,e⟩
 | .G3 k ls,t,y,hr,hd=>by
  simp[SV.j5] at hr;subst hr;obtain⟨a,e,hd⟩:=hd;exact⟨a,e,λhn=>by obtain⟨b,off,e2,h2⟩:=hd hn;exact⟨b,off,e2,nT.mono h.1 ls h2⟩⟩
 | .qe,t,y,hr,_=>trivial
theorem qw{ρ:List Nat}{g g':Gh}(h:Wx ρ g g'):∀(l:List SV) {l':List SV} {vs:List Value},qD ρ l=some l'->iN g' l' vs->iN g l vs
 |[],l',vs,hr,hd=>by simp[qD] at hr;subst hr;exact hd
 |s::r,l',vs,hr,hd=>by
  simp only[qD,ai,an] at hr;obtain⟨s',hs,r',hr',rfl⟩:=hr;obtain⟨x,v',e,h1,h2⟩:=hd;exact⟨x,v',e,SV.yK h s hs h1,qw h r hr' h2⟩
end
mutual
inductive KK:D->D->Prop
 |refl (x:D):KK x x
 |nil {k:Nat}:KK (.v (.slice none 0 0)) (.sl k [])
 |agg {l l':List D} (h:vE l l'):KK (.agg l) (.agg l')
 |jj {l l':List D} (h:vE l l'):KK (.jj l) (.jj l')
 |cp {l l':List D} (h:vE l l'):KK (.cp l) (.cp l')
 |sl {k:Nat} {l l':List (List D)} (h:vD l l'):KK (.sl k l) (.sl k l')
inductive vE:List D->List D->Prop
 |nil:vE [] []
 |cons {x y:D} {l m:List D} (h:KK x y) (r:vE l m):vE (x::l) (y::m)
inductive vD:List (List D)->List (List D)->Prop
 |nil:vD [] []
 |cons {x y:List D} {l m:List (List D)} (h:vE x y) (r:vD l m):vD (x::l) (y::m)
end
theorem vE.length:∀{l m:List D},vE l m->m.length=l.length
 |_,_,.nil=>rfl
 |_,_,.cons _ r=>by simp[vE.length r]
theorem vD.length:∀{l m:List (List D)},vD l m->m.length=l.length
 |_,_,.nil=>rfl
 |_,_,.cons _ r=>by simp[vD.length r]
mutual
theorem KK.den{m:Mem}:∀{x y:D},KK x y->∀{v:Value},x.Den m v->y.Den m v
 |_,_,.refl _,_,hd=>hd
 |_,_,.nil,_,hd=>by simp only[D.Den] at hd;exact⟨none,0,by rw[hd];rfl,by simp,λh=>absurd rfl h⟩
 |_,_,.agg h,_,⟨vs,e,hd⟩=>⟨vs,e,vE.den h hd⟩
 |_,_,.jj h,_,⟨vs,e,hd⟩=>⟨vs,e,vE.den h hd⟩
 |_,_,.cp h,_,⟨b,off,e,hd⟩=>⟨b,off,e,vE.aat h hd⟩
 |_,_,.sl h,_,⟨a,cap,e,hc,hd⟩=>⟨a,cap,by rw[h.length];exact e,by rw[h.length];exact hc,λhn=>by
  obtain⟨b,off,e2,h2⟩:=hd (λh0=>by subst h0;cases h;exact hn rfl);exact⟨b,off,e2,vD.aas h h2⟩⟩
theorem vE.den{m:Mem}:∀{x y:List D},vE x y->∀{vs:List Value},nk m x vs->nk m y vs
 |_,_,.nil,_,hd=>hd
 |_,_,.cons h r,_,⟨x,l',e,h1,h2⟩=>⟨x,l',e,KK.den h h1,vE.den r h2⟩
theorem vE.aat{m:Mem}:∀{x y:List D},vE x y->∀{b off:Nat},oU m b off x->oU m b off y
 |_,_,.nil,_,_,_=>trivial
 |_,_,.cons h r,_,_,⟨⟨x,h1,h2⟩,h3⟩=>⟨⟨x,h1,KK.den h h2⟩,vE.aat r h3⟩
theorem vD.aas{m:Mem}:∀{x y:List (List D)},vD x y->∀{k b off:Nat},nT m k b off x->nT m k b off y
 |_,_,.nil,_,_,_,_=>trivial
 |_,_,.cons h r,_,_,_,⟨⟨h0,h1⟩,h2⟩=>⟨⟨by rw[h.length];exact h0,vE.aat h h1⟩,vD.aas r h2⟩
end
inductive Fit (ob:List Ob):SV->SV->Prop
 |refl (s:SV):Fit ob s s
 |p9 {s:SV} {x:D} (h:s.p9=some x):Fit ob s (.d x)
 |nil {i k:Nat} {e:TypeId} (h:jo i ob=some (.jd e k)):Fit ob (.d (.v (.slice none 0 0))) (.own i k [])
 |Sy {i k:Nat} {e:TypeId} (h:jo i ob=some (.jd e k)):Fit ob (.d (.v (.slice none 0 0))) (.arr i 0)
 |U2 {k:Nat}:Fit ob (.d (.v (.slice none 0 0))) (.d (.sl k []))
 |qe (s:SV):Fit ob s .qe
 |Yh {s:SV} {x y:D} (h:s.p9=some x) (hl:KK x y):Fit ob s (.d y)
 |own {i k:Nat} {ls ls':List (List D)} (h:vD ls ls'):Fit ob (.own i k ls) (.own i k ls')
inductive nQ (ob:List Ob):List SV->List SV->Prop
 |nil:nQ ob [] []
 |cons {s t:SV} {l m:List SV} (h:Fit ob s t) (r:nQ ob l m):nQ ob (s::l) (t::m)
theorem Fit.den{q:Nat->List D}{ob:List Ob}{g:Gh}{w:World}(j:jX q ob g w){s t:SV}(h:Fit ob s t){y:Value}(e:s.Den g y):t.Den g y:=by
 cases h with
 |refl=>exact e
 |p9 h=>exact SV.Den.p9 s e h
 |qe=>trivial
 |Yh h r=>exact r.den (SV.Den.p9 s e h)
 |own h=>
  obtain⟨b,cap,x,z,C,F⟩:=e;exact⟨b,cap,by rw[h.length];exact x,by rw[h.length];exact z,by rw[h.length];exact C,λG=>by
   obtain⟨c,H,I⟩:=F (λJ=>by subst J;cases h;exact G rfl);exact⟨c,H,vD.aas h I⟩⟩
 |nil h=>
  have U:=iS h;obtain⟨p,i⟩:=j.place U;have k:=j.qM _ _ _ U i;simp only[oJ] at k;subst k;simp only[SV.Den,D.Den] at e;exact⟨none,0,i,by rw[e];rfl,by simp,λh=>absurd rfl h⟩
 |Sy h=>
  have U:=iS h;obtain⟨p,i⟩:=j.place U;have k:=j.qM _ _ _ U i;simp only[oJ] at k;subst k;simp only[SV.Den,D.Den] at e;exact⟨none,0,i,by rw[e];rfl⟩
 |U2=>
  simp only[SV.Den,D.Den] at e;exact⟨none,0,by rw[e];rfl,by simp,λh=>absurd rfl h⟩
theorem nQ.den{i:Nat->List D}{ob:List Ob}{g:Gh}{w:World}(c:jX i ob g w):∀{l m:List SV},nQ ob l m->∀{b:List Value},iN g l b->iN g m b
 |_,_,.nil,_,hd=>hd
 |_,_,.cons h r,_,⟨x,k,e,U,j⟩=>⟨x,k,e,h.den c U,r.den c j⟩
inductive td (ob:List Ob) (ρ:List Nat):Ob->Ob->Prop
 |cells {lc l m:List SV} {ty:TypeId} (h:qD ρ lc=some m) (hf:nQ ob l m):td ob ρ (.cells lc ty) (.cells l ty)
 |row {e:TypeId} {k:Nat}:td ob ρ (.row e k) (.row e k)
 |acz {e:TypeId} {k:Nat}:td ob ρ (.row e k) (.jd e k)
 |QX {e:TypeId} {k:Nat}:td ob ρ (.jd e k) (.jd e k)
 |buf {e:TypeId} {k:Nat} {ls:List (List D)} {q:Option (Option Nat×Nat)}:td ob ρ (.buf e k ls q) (.buf e k ls q)
 |ae6 {e:TypeId} {k:Nat} {ls:List (List D)} {q:Option (Option Nat×Nat)}:td ob ρ (.buf e k ls none) (.buf e k ls q)
 |XC {e:TypeId} {k:Nat}:td ob ρ (.buf e k [] none) (.jd e k)
 |jc {f:fB->Option Int}:td ob ρ (.jc f) (.jc f)
 |jK {f:fB->Option D}:td ob ρ (.jK f) (.jK f)
 |rU {o:Nat->Prop} {k:Mem->World->Prop}:td ob ρ (.rU o k) (.rU o k)
 |dead {o:Ob}:td ob ρ .dead o
 |ru {k i:Nat} {f:fB->Option Int} {dn:List (fB×Int)} {cur cur':Option (fB×Int)} (hk:jo k ρ=some i) (hc:cur=cur'\/cur=none):td ob ρ (.ru k f dn cur) (.ru i f dn cur')
inductive jh (ob:List Ob) (ρ:List Nat):List Ob->List Nat->Prop
 |nil:jh ob ρ [] []
 |cons {oc o:Ob} {r:List Ob} {i:Nat} {is:List Nat} (hi:jo i ob=some o) (h:td ob ρ oc o) (hr:jh ob ρ r is):jh ob ρ (oc::r) (i::is)
theorem jh.get{c:List Ob}{ρ:List Nat}:∀{b:List Ob} {U:List Nat},jh c ρ b U->b.length=U.length/\∀(k:Nat) oc,b[k]? =some oc->∃i o,U[k]? =some i/\c[i]? =some o/\td c ρ oc o
 |_,_,.nil=>⟨rfl,by simp⟩
 |_,_,.cons q h r=>by
  have j:=r.get;refine⟨by simp[j.1],λk oc e=>?_⟩;cases k with
  |zero=>simp at e;subst e;exact⟨_,_,rfl,iS q,h⟩
  |succ k=>simpa using j.2 k oc (by simpa using e)
theorem td.jk{oc:Ob}{b:Nat}(h:td c ρ oc o)(i:jP oc p b):jP o p b\/∃e k,o=.jd e k:=by
 cases h<;>cases p<;>simp_all [jP,np]
theorem jX.sub{I obc:List Ob}{ρ:List Nat}(h:jX GL I g w)(hf:jh I ρ obc ρ)(W:ρ.Nodup)(Y:∀(j i:Nat) f dn cur,obc[j]? =some (.ru i f dn cur)->obc[i]? =some (.jc f)):
 jX GL obc ⟨g.m,ρ.map λi=>g.gs.getD i (.loc 0)⟩ w/\Wx ρ ⟨g.m,ρ.map λi=>g.gs.getD i (.loc 0)⟩ g/\(∀ b,lN obc ⟨g.m,ρ.map λi=>g.gs.getD i (.loc 0)⟩ b->∃(i k:Nat) (o:Ob) (p:Pl),ρ[k]? =some i/\I[i]? =some o/\g.gs[i]? =some p/\jP o p b):=by
 have H:=hf.get;have R:∀(k i:Nat) p,ρ[k]? =some i->g.gs[i]? =some p->(ρ.map λi=>g.gs.getD i (.loc 0))[k]? =some p:=λk i p x y=>by
  rw[bt,x];simp[ba,y]
 have J:Wx ρ ⟨g.m,ρ.map λi=>g.gs.getD i (.loc 0)⟩ g:=⟨pV.refl _,λi j p x y=>R i j p x y⟩;have F:∀(k:Nat) oc p,obc[k]? =some oc->(ρ.map λi=>g.gs.getD i (.loc 0))[k]? =some p->∃i o,ρ[k]? =some i/\I[i]? =some o/\g.gs[i]? =some p/\td I ρ oc o:=λk oc p x y=>by
  obtain⟨i,o,C,G,M⟩:=H.2 k oc x;obtain⟨q,hq⟩:=h.place G;have:=R k i q C hq;rw[y] at this;cases this;exact⟨i,o,C,G,hq,M⟩
 have z:∀{oc o:Ob} {i:Nat} {p:Pl} {b:Nat},I[i]? =some o->g.gs[i]? =some p->td I ρ oc o->jP oc p b->jP o p b:=λ{oc o i p b} x y C G=>by
  rcases C.jk G with M|⟨e,k,rfl⟩
  .exact M
  .have:=h.qM _ _ _ x y;simp only[oJ] at this;subst this;cases C<;>simp[jP,np] at G
 refine⟨⟨by simp[H.1],λk oc p x y=>?_,Y,λi j oi oj pi pj b x y C G M h6=>?_,h.sat,h.Pe⟩,J,λb hb=>?_⟩
 .obtain ⟨i,o,C,G,M,h6⟩:=F k oc p x y;have U:=h.qM i o p G M;cases h6 with
  |cells hr hfl=>
   cases p with
   |loc b=>
    obtain⟨vs,e1,e2,e3⟩:=U;exact⟨vs,e1,qw J _ hr (hfl.den h e2),e3⟩
   |row b c n=>exact U.elim
  |row=>cases p with
   |loc b=>exact U.elim
   |row b c n=>exact U
  |acz=>
   simp only[oJ] at U;subst U;exact⟨⟨[],by simp,.inl ⟨rfl,rfl⟩⟩,λc S=>by cases S⟩
  |QX=>exact U
  |buf=>cases p with
   |loc b=>exact U.elim
   |row b c n=>exact U
  |ae6=>cases p with
   |loc b=>exact U.elim
   |row b c n=>exact⟨U.1,U.2.1,U.2.2.1,U.2.2.2.1,λr e=>by cases e⟩
  |XC=>
   simp only[oJ] at U;subst U;exact⟨rfl,by simp,⟨[],⟨by simp,.inl ⟨rfl,rfl⟩⟩,rfl,by simp⟩,(λc S=>by cases S),λr e=>by cases e⟩
  |jc=>cases p with
   |loc b=>exact U
   |row b c n=>exact U.elim
  |jK=>cases p with
   |loc b=>exact U
   |row b c n=>exact U.elim
  |rU=>cases p<;>exact U
  |dead=>cases p<;>trivial
  |ru hk S=>cases p with
   |loc b=>
    obtain⟨c,e1,e2,e3,e4⟩:=U;refine⟨c,J.2 _ _ _ (iS hk) e1,e2,λs n e=>?_,e4⟩;rcases S with rfl|rfl
    .exact e3 s n e
    .cases e
   |row b c n=>exact U.elim
 .obtain ⟨i1,o1,a1,a2,V,a4⟩:=F i oi pi x C;obtain⟨i2,o2,b1,b2,b3,b4⟩:=F j oj pj y G;have e:=h.xk i1 i2 o1 o2 pi pj b a2 b2 V b3 (z a2 V a4 M) (z b2 b3 b4 h6);subst e;exact(dG (aJ.1 a1).1 W).1 (a1.trans b1.symm)
 .obtain ⟨k,oc,p,x,y,C⟩:=hb;obtain⟨i,o,a1,a2,V,a4⟩:=F k oc p x y;exact⟨i,k,o,p,a1,a2,V,z a2 V a4 C⟩
def pY{α:Type}:List α->List α->Option (List α)
 |[],m=>some m
 |x::l,m=>(pY l m).bind λr=>some (x::r)
theorem nM{α:Type}:∀{l m r:List α},pY l m=some r->r=l++m
 |[],m,r,h=>by simp[pY] at h;simp[h]
 |x::l,m,r,h=>by
  simp only[pY,ai,an] at h;obtain⟨k,b,rfl⟩:=h;simp[nM b]
def pD{α:Type}:Nat->α->List α->Option (List α)
 |_,_,[]=>none
 |0,y,_::l=>some (y::l)
 |n+1,y,x::l=>(pD n y l).bind λr=>some (x::r)
theorem nL{α:Type}:∀{n:Nat} {y:α} {l r:List α},pD n y l=some r->r=l.set n y/\n<l.length
 |0,y,[],r,h=>by cases h
 |n+1,y,[],r,h=>by cases h
 |0,y,x::l,r,h=>by simp[pD] at h;subst h;simp
 |n+1,y,x::l,r,h=>by
  simp only[pD,ai,an] at h;obtain⟨k,b,rfl⟩:=h;have:=nL b;simp[this.1,this.2]
def pM{α:Type}:List Nat->List α->List α->Option (List α)
 |[],l,b=>pY l b
 |i::ix,l,r::b=>(pD i r l).bind λk=>pM ix k b
 |_::_,_,[]=>none
def names(c:List Nat)(n:Nat):Nat->List Nat
 |0=>c
 |m+1=>names (c++[n]) (n+1) m
theorem CT{α:Type}:∀{ix:List Nat} {l U r:List α},pM ix l U=some r->ix.Nodup->ix.length<=U.length/\(∀ i∈ix,i<l.length)/\r.length=l.length+(U.length-ix.length)/\
 (∀ (k i:Nat) x,ix[k]? =some i->U[k]? =some x->r[i]? =some x)/\(∀ (i:Nat),i∉ix->i<l.length->r[i]? =l[i]?)/\(∀ k,ix.length<=k->r[l.length+(k-ix.length)]? =U[k]?)
 |[],l,U,r,h,_=>by
  have:=nM h;subst this;refine⟨by simp,by simp,by simp,by simp,λi _ G=>bl G,λk _=>?_⟩;rw[bA (by simp)];simp
 |i::ix,l,[],r,h,_=>by cases h
 |i::ix,l,y::U,r,h,q=>by
  simp only[pM,ai] at h;obtain⟨R,H,I⟩:=h;obtain⟨rfl,c⟩:=nL H;have b:=cG.1 q;obtain⟨a1,a2,C,J,s,F⟩:=CT I b.2;simp only[da] at a2 C s F;refine⟨by simp;exact a1,?_,by simp[C],?_,?_,?_⟩
  .intro j hj;rcases bh.1 hj with rfl|hj
   .exact c
   .exact a2 j hj
  .intro k j x e z;cases k with
   |zero=>
    simp at e z;subst e z;rw[s i b.1 c];simp[c]
   |succ k=>exact J k j x (by simpa using e) (by simpa using z)
  .intro j hj M;simp only[bh,not_or] at hj;rw[s j hj.2 M,bg (bd hj.1)]
  .intro k e;cases k with
   |zero=>simp at e
   |succ k=>
    have:=F k (by simpa using e);simp only[aj,Nat.add_sub_add_right]
    simpa using this
theorem zD(c n):∀m,(names c n m).length=c.length+m:=by
 intro m
 induction m generalizing c n with
 |zero=>rfl
 |succ m b=>simp[names,b];omega
theorem wX(c n):∀m (k:Nat),k<c.length+m->(names c n m)[k]? =some (if h:k<c.length then c[k] else n+(k-c.length)):=by
 intro m
 induction m generalizing c n with
 |zero=>intro k b;simp at b;simp[names,b]
 |succ m e=>
  intro k b;rw[names,e (c++[n]) (n+1) k (by simp;omega)];simp only[aN,eE];by_cases U:k<c.length
  .have:k<c.length+1:=O;simp[U,this]
  .by_cases i:k=c.length
   .subst i;simp
   .have:¬k<c.length+1:=O;simp[U,this];omega
def Ob.j5(ρ:List Nat):Ob->Option Ob
 | .cells l ty=>(qD ρ l).bind λb=>some (.cells b ty)
 | .row e k=>some (.row e k)
 | .jd e k=>some (.jd e k)
 | .buf e k ls q=>some (.buf e k ls q)
 | .jc f=>some (.jc f)
 | .jK f=>some (.jK f)
 | .rU o k=>some (.rU o k)
 | .ru _ _ _ _=>none
 | .dead=>some .dead
def r6(ρ:List Nat):List Ob->Option (List Ob)
 |[]=>some []
 |o::r=>(o.j5 ρ).bind λb=>(r6 ρ r).bind λk=>some (b::k)
theorem H0{ρ:List Nat}:∀{l b:List Ob},r6 ρ l=some b->b.length=l.length/\∀(j:Nat) k,b[j]? =some k->∃o,l[j]? =some o/\o.j5 ρ=some k
 |[],b,h=>by simp[r6] at h;subst h;simp
 |o::r,b,h=>by
  simp only[r6,ai,an] at h;obtain⟨q,e,s,i,rfl⟩:=h;have c:=H0 i;refine⟨by simp[c.1],λj k U=>?_⟩;cases j with
  |zero=>simp at U;subst U;exact⟨o,rfl,e⟩
  |succ j=>simpa using c.2 j k (by simpa using U)
theorem oJ.j5{ρ:List Nat}{g s:Gh}{w:World}{o x:Ob}{p:Pl}(h:YC ρ g s)(r:s.m=g.m)(j:o.j5 ρ=some x)(i:oJ g w o p):oJ s w x p/\(∀ b,jP x p b->jP o p b):=by
 cases o<;>simp only[Ob.j5,ai,an,reduceCtorEq] at j
 case cells l ty=>
  obtain⟨G,U,rfl⟩:=j;cases p with
  |loc b=>obtain⟨y,z,C,F⟩:=i;exact⟨⟨y,z,wK h _ U C,by rw[r];exact F⟩,λ_ h=>h⟩
  |row b c n=>exact i.elim
 case row e k=>
  subst j;cases p with
  |loc b=>exact i.elim
  |row b c n=>exact⟨by simpa only[oJ,r] using i,λ_ h=>h⟩
 case jd e k=>subst j;exact⟨i,λ_ h=>h⟩
 case buf e k ls q=>
  subst j;cases p with
  |loc b=>exact i.elim
  |row b c n=>exact⟨by simpa only[oJ,r] using i,λ_ h=>h⟩
 case jc f=>
  subst j;cases p with
  |loc b=>exact⟨by simpa only[oJ,r] using i,λ_ h=>h⟩
  |row b c n=>exact i.elim
 case jK f=>
  subst j;cases p with
  |loc b=>exact⟨by simpa only[oJ,r] using i,λ_ h=>h⟩
  |row b c n=>exact i.elim
 case rU o k=>subst j;exact⟨by cases p<;>simpa only[oJ,r] using i,λ_ h=>h⟩
 case dead=>subst j;exact⟨by cases p<;>trivial,λ_ h=>h⟩
def xW:List Nat->List (Nat×SV)->Option (List (Nat×SV))
 |[],l=>some l
 |i::ix,l=>(Ix i l).bind λb=>xW ix b
def vH:List Nat->List Ob->Option (List Ob)
 |[],l=>some l
 |i::ix,l=>(Iy i l).bind λb=>vH ix b
mutual
theorem CZ(p q:Nat->Bool):∀s:SV,(s.kill p).kill q=s.kill λj=>p j||q j
 | .own j k ls=>by
  simp only[SV.kill];cases hp:p j<;>simp[SV.kill]
 | .rp j=>by
  simp only[SV.kill];cases hp:p j<;>simp[SV.kill]
 | .arr j n=>by
  simp only[SV.kill];cases hp:p j<;>simp[SV.kill]
 | .bp j off=>by
  simp only[SV.kill];cases hp:p j<;>simp[SV.kill]
 | .agg l=>by simp only[SV.kill,qN p q l]
 | .jj l=>by simp only[SV.kill,qN p q l]
 | .fn f a b=>by simp only[SV.kill,qN p q a,qN p q b]
 | .uU T s=>by simp only[SV.kill,CZ p q s]
 | .d x=>rfl
 | .jk j off=>rfl
 | .map j=>rfl
 | .G3 k ls=>rfl
 | .qe=>rfl
theorem qN(p q:Nat->Bool):∀l:List SV,uy q (uy p l)=uy (λj=>p j||q j) l
 |[]=>rfl
 |s::r=>by simp only[uy,CZ p q s,qN p q r]
end
mutual
theorem Ka:∀s:SV,s.kill (λ_=>false)=s
 | .own j k ls=>rfl
 | .rp j=>rfl
 | .arr j n=>rfl
 | .bp j off=>rfl
 | .agg l=>by simp only[SV.kill,xa l]
 | .jj l=>by simp only[SV.kill,xa l]
 | .fn f a b=>by simp only[SV.kill,xa a,xa b]
 | .uU T s=>by simp only[SV.kill,Ka s]
 | .d x=>rfl
 | .jk j off=>rfl
 | .map j=>rfl
 | .G3 k ls=>rfl
 | .qe=>rfl
theorem xa:∀l:List SV,uy (λ_=>false) l=l
 |[]=>rfl
 |s::r=>by simp only[uy,Ka s,xa r]
end
def uw:List Nat->Nat->Bool
 |[],_=>false
 |i::ix,j=>Nat.beq j i||uw ix j
theorem xd:∀{ix:List Nat} {j:Nat},uw ix j=true↔j∈ix
 |[],j=>by simp[uw]
 |i::ix,j=>by simp[uw,xd (ix:=ix)]
theorem Md{t:Nat}:∀{ix:List Nat} {l b:List (Nat×SV)},xW ix l=some b->vO t b=(vO t l).kill (uw ix)
 |[],l,b,h=>by simp[xW] at h;subst h;exact(Ka _).symm
 |i::ix,l,b,h=>by
  simp only[xW,ai] at h;obtain⟨l1,k,U⟩:=h;rw[Md U,BO k,CZ];rfl
theorem Ge:∀{ix:List Nat} {l r:List Ob},vH ix l=some r->r.length=l.length/\∀{g g':Gh},Zh (uw ix) g g'->∀(j:Nat) U,r[j]? =some U->∃o,l[j]? =some o/\tc g g' o U/\(∀ i f y c,U=.ru i f y c->o=.ru i f y c)/\(∀ f,o=.jc f->U=.jc f)
 |[],l,r,h=>by
  simp[vH] at h;subst h;exact⟨rfl,λ{g g'} z j U G=>⟨U,G,tc.refl ⟨z.m,λi p V=>z.gs i p V rfl⟩ U,λ_ _ _ _ h=>h,λ_ h=>h⟩⟩
 |i::ix,l,r,h=>by
  simp only[vH,ai] at h;obtain⟨l1,C,x⟩:=h;have I:=Ge x;have H:=zK C;refine⟨by rw[I.1,H.1],λ{g g'} z j U G=>?_⟩;obtain⟨o1,a1,a2,W,Y⟩:=(Ge x).2 (g:=g') (g':=g') ⟨pV.refl _,λ_ _ h _=>h,λ_ _ h=>h⟩ j U G;obtain⟨o,b1,b2⟩:=H.2 j o1 a1;have e1:∀i f y c,o1=.ru i f y c->o=.ru i f y c:=by
   intro i' f y c e;subst e;cases o<;>simp only[Ob.kO,ai,an] at b2
   case cells=>obtain⟨_,_,b2⟩:=b2;cases b2
   all_goals first|(cases b2;rfl)|cases b2
  have e2:∀f,o=.jc f->o1=.jc f:=by
   intro f e;subst e;simp[Ob.kO] at b2;exact b2.symm
  refine⟨o,b1,?_,λ_ _ _ _ h=>e1 _ _ _ _ (W _ _ _ _ h),λf h=>Y f (e2 f h)⟩;cases o with
  |cells l0 ty=>
   simp only[Ob.kO,ai,an] at b2;obtain⟨l2,c1,rfl⟩:=b2;cases U<;>simp only[tc] at a2 ⊢
   case cells l3 ty3=>
    obtain⟨rfl,a2⟩:=a2;refine⟨rfl,λvs hd=>?_⟩;have J:l3=uy (uw ix) l2:=by
     have key:∀{ix:List Nat} {l r:List Ob},vH ix l=some r->∀(j:Nat) a ty b s,l[j]? =some (.cells a ty)->r[j]? =some (.cells b s)->b=uy (uw ix) a:=by
      intro ix
      induction ix with
      |nil=>intro l r h j a ty b s C x;simp[vH] at h;subst h;rw[C] at x;cases x;exact(xa _).symm
      |cons i ix I=>
       intro l r h j a ty b s C x;simp only[vH,ai] at h;obtain⟨l1,H,h4⟩:=h;have M:=zK H;have F:j<l1.length:=by rw[M.1];exact(aJ.1 C).1
       obtain⟨o2,R,S⟩:=M.2 j l1[j] (by simp[F]);rw[C] at R;cases R;simp only[Ob.kO,ai,an] at S;obtain⟨a',h8,h9⟩:=S;have:=I h4 j a' ty b s (by rw[aZ F,<-h9]) x;rw[this,yY h8,qN];rfl
     exact key x j l2 _ l3 _ a1 G
    rw[J,yY c1,qN];exact iN.kill z _ hd
  |row e k=>simp[Ob.kO] at b2;subst b2;cases U<;>exact a2
  |jd e k=>simp[Ob.kO] at b2;subst b2;cases U<;>exact a2
  |buf e k ls q=>
   simp[Ob.kO] at b2;subst b2;cases U<;>first|exact a2|skip
   exact⟨a2.1,a2.2.1,a2.2.2.1,a2.2.2.2.1,λvs hd=>nk.mono z.m _ hd⟩
  |jc f=>simp[Ob.kO] at b2;subst b2;cases U<;>exact a2
  |jK f=>
   simp[Ob.kO] at b2;subst b2;cases U<;>first|exact a2|exact⟨a2.1,z.m⟩
  |rU o k=>
   simp[Ob.kO] at b2;subst b2;cases U<;>first|exact a2|exact⟨a2.1,a2.2.1,z.m⟩
  |ru i f y c=>simp[Ob.kO] at b2;subst b2;cases U<;>exact a2
  |dead=>simp[Ob.kO] at b2;subst b2;cases U<;>exact a2
theorem LY{α:Type}:∀{ix:List Nat} {l rs:List α},(∀ i∈ix,i<l.length)->ix.length<=rs.length->∃r,pM ix l rs=some r
 |[],l,rs,_,_=>by
  have:∀l:List α,∃r,pY l rs=some r:=by
   intro l
   induction l with
   |nil=>exact⟨rs,rfl⟩
   |cons x l k=>obtain⟨r,h⟩:=k;exact⟨x::r,by simp[pY,h]⟩
  exact this l
 |i::ix,l,[],_,h=>by simp at h
 |i::ix,l,y::rs,U,c=>by
  have e:=U i bC;have:∀(n:Nat) (l:List α),n<l.length->pD n y l=some (l.set n y):=by
   intro n
   induction n with
   |zero=>intro l b;cases l with|nil=>simp at b|cons x l=>rfl
   |succ n k=>intro l b;cases l with|nil=>simp at b|cons x l=>simp[pD,k l (by simpa using b)]
  obtain⟨r,q⟩:=LY (ix:=ix) (l:=l.set i y) (rs:=rs) (λj s=>by simpa using U j (bB _ s)) (by simpa using c);exact⟨r,by simp only[pM,this i l e,cw,q]⟩
theorem jE.after{GL:Nat->List D}{B:Bs}{σ:St}{g:Gh}{a:Act}{w:World}(h:jE GL B σ g a w){obc y:List Ob}{ix:List Nat}(hfit:jh σ.ob ix obc ix)(hnd:ix.Nodup)(hno:nF obc=true)(hit:∀i∈ix,∀(j:Nat) f dn G,σ.ob[j]? ≠some (.ru i f dn G))
 {Y:Gh} {w':World} (hs:jX GL y Y w') (C:Ji ⟨⟨g.m,ix.map λi=>g.gs.getD i (.loc 0)⟩,w,lN obc ⟨g.m,ix.map λi=>g.gs.getD i (.loc 0)⟩,obc.length,[]⟩ y Y w') (hle:obc.length<=y.length) (hno':nF y=true)
 {obr ob1 obn:List Ob} {sl1:List (Nat×SV)} (h1:r6 (names ix σ.ob.length (y.length-ix.length)) y=some obr) (h2:vH ix σ.ob=some ob1) (h3:pM ix ob1 obr=some obn) (h4:xW ix σ.sl=some sl1):
 ∃gn,jE GL B ⟨σ.n,sl1,obn⟩ gn a w'/\z8 (· ∈ix) σ.ob g w gn w'/\∀(s s':SV) (v:Value),s.j5 (names ix σ.ob.length (y.length-ix.length))=some s'->s.Den Y v->s'.Den gn v:=by
 have hlen:=h.store.len;have hsub:=h.store.sub hfit hnd (λj i f dn G hj=>absurd hj (oG hno j i f dn G));have hfg:=hfit.get;have hixlt:∀i∈ix,i<σ.ob.length:=λi M=>by
  obtain⟨k,V,e⟩:=dH.1 M;obtain⟨i',o,a1,a2,_⟩:=hfg.2 k (obc[k]'(by rw[hfg.1];exact V)) (by simp[hfg.1,V]);rw[aZ V,e] at a1;cases a1;exact(aJ.1 a2).1
 have hle':ix.length<=Y.gs.length:=by rw[<- hs.len,<-hfg.1];exact hle
 obtain⟨r,hgsn⟩:=LY (ix:=ix) (l:=g.gs) (rs:=Y.gs) (λi M=>by rw[<- hlen];exact hixlt i M) hle';obtain⟨m1,m2,m3,m4,m5,m6⟩:=CT hgsn hnd;have hren:=H0 h1;have R:=Ge h2;obtain⟨q1,q2,q3,q4,q5,q6⟩:=CT h3 hnd;rw[R.1] at q2 q3 q5 q6;have hobrl:obr.length=y.length:=hren.1;have hnn:obn.length=r.length:=by rw[q3,m3,hobrl,hlen,hs.len]
 have F:YC (names ix σ.ob.length (y.length-ix.length)) Y ⟨Y.m,r⟩:=by
  refine⟨pV.refl _,λk j p V S=>?_⟩;have J:k<ix.length+(y.length-ix.length):=by
   have:=(aJ.1 V).1;rwa [zD] at this
  rw[wX _ _ _ _ J] at V;by_cases hki:k<ix.length
  .rw [dif_pos hki] at V;cases V;exact m4 k _ p (by simp[hki]) S
  .rw [dif_neg hki] at V;cases V;have:=m6 k O;show r[_]? =_;rw[hlen,this];exact S
 have hplc:∀(k i:Nat) p,ix[k]? =some i->g.gs[i]? =some p->(ix.map λi=>g.gs.getD i (.loc 0))[k]? =some p:=λk i p U c=>by
  rw[bt,U];simp[ba,c]
 have hat:∀(i b:Nat),g.gs[i]? =some (.loc b)->r[i]? =some (.loc b):=λi b W=>by
  by_cases M:i∈ix
  .obtain ⟨k,V,e⟩:=dH.1 M;have hk2:ix[k]? =some i:=by rw[aZ V,e]
   exact m4 k i _ hk2 (C.at' k b (by show k<obc.length;rw[hfg.1];exact V) (hplc k i _ hk2 W))
  .rw [m5 i M (aJ.1 W).1];exact W
 have J:Zh (uw ix) g ⟨Y.m,r⟩:=⟨C.mem,λi q hq M=>by
  have hi':i∉ix:=λhm=>by rw[xd.2 hm] at M;cases M
  show r[i]? =_;rw[m5 i hi' (aJ.1 hq).1];exact hq,hat⟩
 have hX:∀b,lN obc ⟨g.m,ix.map λi=>g.gs.getD i (.loc 0)⟩ b->∃(i:Nat) (o:Ob) (p:Pl),i∈ix/\σ.ob[i]? =some o/\g.gs[i]? =some p/\jP o p b:=λb W=>by
  obtain⟨i,k,o,p,U,c,z,e4⟩:=hsub.2.2 b W;exact⟨i,o,p,aO U,c,z,e4⟩
 have hneX:∀(j:Nat) oj pj b,j∉ix->σ.ob[j]? =some oj->g.gs[j]? =some pj->jP oj pj b->¬lN obc ⟨g.m,ix.map λi=>g.gs.getD i (.loc 0)⟩ b:=λj oj pj b hj U c z W=>by
  obtain⟨i,o,p,f1,f2,f3,f4⟩:=hX b W;have:=h.store.xk i j o oj p pj b f2 U f3 c f4 z;subst this;exact hj f1
 have H:∀(j:Nat) o',(j∈ix\/σ.ob.length<=j)->obn[j]? =some o'->∃(k:Nat) (oc:Ob),(names ix σ.ob.length (y.length-ix.length))[k]? =some j/\y[k]? =some oc/\oc.j5 (names ix σ.ob.length (y.length-ix.length))=some o':=λj o' hj I=>by
  rcases hj with hj|hj
  .obtain ⟨k,V,e⟩:=dH.1 hj;have hk2:ix[k]? =some j:=by rw[aZ V,e]
   have hkr:k<obr.length:=O;have:=q4 k j obr[k] hk2 (by simp[hkr]);rw[I] at this;cases this;obtain⟨oc,U,c⟩:=hren.2 k obr[k] (by simp[hkr]);exact⟨k,oc,by rw[wX _ _ _ _ O,dif_pos V,e],U,c⟩
  .have hjl:=(aJ.1 I).1;rw[q3] at hjl;have:=q6 (ix.length+(j-σ.ob.length)) O;rw[show σ.ob.length+(ix.length+(j-σ.ob.length)-ix.length)=j by omega,I] at this;obtain⟨oc,U,c⟩:=hren.2 _ o' this.symm;refine⟨ix.length+(j-σ.ob.length),oc,?_,U,c⟩;rw[wX _ _ _ _ O,dif_neg O]
   congr 1;omega
 have hninj:∀(k k' j:Nat),(names ix σ.ob.length (y.length-ix.length))[k]? =some j->(names ix σ.ob.length (y.length-ix.length))[k']? =some j->k=k':=λk k' j U c=>by
  have l1:=(aJ.1 U).1;have l2:=(aJ.1 c).1;rw[zD] at l1 l2;rw[wX _ _ _ _ l1] at U;rw[wX _ _ _ _ l2] at c;by_cases c1:k<ix.length<;>by_cases c2:k'<ix.length
  .rw [dif_pos c1] at U;rw[dif_pos c2] at c;simp only[an] at U c;exact(dG c1 hnd).1 (by rw[aZ c1,aZ c2,U,c])
  .rw [dif_pos c1] at U;rw[dif_neg c2] at c;simp only[an] at U c;have:=hixlt _ (bS c1);omega
  .rw [dif_neg c1] at U;rw[dif_pos c2] at c;simp only[an] at U c;have:=hixlt _ (bS c2);omega
  .rw [dif_neg c1] at U;rw[dif_neg c2] at c;simp only[an] at U c;omega
 have hpl2:∀(k j:Nat) p,(names ix σ.ob.length (y.length-ix.length))[k]? =some j->r[j]? =some p->k<Y.gs.length->Y.gs[k]? =some p:=λk j p U c z=>by
  have:=F.2 k j Y.gs[k] U (by simp[z]);have e4:r[j]? =some Y.gs[k]:=this;rw[c] at e4;cases e4;simp[z]
 refine⟨⟨Y.m,r⟩,⟨h.defers,h.size,λt=>?_,?_,?_⟩,⟨C.mem,λi b o M U c z=>⟨hat i b c,C.fr.block b (h.store.lt U c (oF z)) (hneX i o _ b M U c (oF z))⟩⟩,λs s' v U c=>SV.JM F s U c⟩
 .show (vO t sl1).Den _ _;rw[Md h4];exact SV.Den.kill J _ (h.j9 t)
 .refine h.store.step (p:=λj=>j∈ix\/σ.ob.length<=j) C.mem hat (λi q M hq=>J.gs i q hq (by cases W:uw ix i with|false=>rfl|true=>exact absurd (.inl (xd.1 W)) M)) hs.sat hnn (λj o1 hj I=>?_) (λj i f dn G I=>?_) (λj i f dn G hj I=>?_)
   (λj o1 q b hj I hq W=>?_) (λj o1 hj I=>?_) (λj o1 q b hj I hq W=>?_) (λi j oi oj pi pj b M hj U c z e4 e5 e6=>?_)
  .simp only[not_or,dU] at hj;rw[q5 j hj.1 hj.2] at I;obtain⟨o,U,c,_⟩:=R.2 J j o1 I;exact⟨o,U,c⟩
  .by_cases hj:j∈ix\/σ.ob.length<=j
   .obtain ⟨k,oc,U,c,z⟩:=H j _ hj I;cases oc<;>simp only[Ob.j5,ai,an,reduceCtorEq] at z
    case cells=>obtain⟨_,_,z⟩:=z;cases z
   .simp only[not_or,dU] at hj;rw[q5 j hj.1 hj.2] at I;obtain⟨o,U,_,z,_⟩:=R.2 J j _ I;have e4:=z i f dn G rfl;subst e4;have e5:=h.store.th j i f dn G U;have M:i∉ix:=λhm=>hit i hm j f dn G U
    have hil:=(aJ.1 e5).1;rw[q5 i M hil];obtain⟨o2,f1,f2,f3,f4⟩:=R.2 J i ob1[i] (by simp[R.1,hil]);rw[e5] at f1;cases f1;have:=f4 f rfl;rw[aZ (by rw[R.1];exact hil),this]
  .simp only[not_or,dU] at hj;rw[q5 j hj.1 hj.2] at I;obtain⟨o,U,_,z,_⟩:=R.2 J j _ I;have e4:=z i f dn G rfl;subst e4;have e5:=h.store.th j i f dn G U;have hil:=(aJ.1 e5).1;simp only[not_or,dU];exact⟨λhm=>hit i hm j f dn G U,hil⟩
  .simp only[not_or,dU] at hj;have hlt:=h.store.lt I hq W;have hnx:=hneX j o1 q b hj.1 I hq W;refine⟨C.fr.block b hlt hnx,λoff hn=>?_⟩;show Y.m b off=none;cases hx:Y.m b off with
   |none=>rfl
   |some x=>
    rcases C.new b off x hx hn with h5|h5
    .exact absurd h5 hnx
    .have h6:w.heap.size<=b:=h5;omega
  .obtain ⟨k,oc,U,c,z⟩:=H j o1 hj I;obtain⟨p,S⟩:=hs.place c;have:=hs.qM k oc p c S;exact⟨p,F.2 k j p U S,(oJ.j5 F rfl z this).1⟩
  .obtain ⟨k,oc,U,c,z⟩:=H j o1 hj I;obtain⟨p,S⟩:=hs.place c;have h5:r[j]? =some p:=F.2 k j p U S;have h5':r[j]? =some q:=hq;rw[h5] at h5';cases h5';have h6:=(oJ.j5 F rfl z (hs.qM k oc _ c S)).2 b W;rcases C.own k oc _ b c S h6 with h7|h7
   .obtain ⟨i,o,p',f1,f2,f3,f4⟩:=hX b h7;exact .inl ⟨i,o,p',.inl f1,f2,f3,f4⟩
   .exact .inr h7
  .obtain ⟨k,oc,a1,a2,a3⟩:=H i oi M U;obtain⟨k',oc',b1,b2,b3⟩:=H j oj hj c;obtain⟨p,S⟩:=hs.place a2;obtain⟨p',hp'⟩:=hs.place b2;have c1:r[i]? =some p:=F.2 k i p a1 S;have c1':r[i]? =some pi:=z;rw[c1] at c1';cases c1';have c2:r[j]? =some p':=F.2 k' j p' b1 hp';have c2':r[j]? =some pj:=e4;rw[c2] at c2';cases c2';have d1:=(oJ.j5 F rfl a3 (hs.qM k oc _ a2 S)).2 b e5;have d2:=(oJ.j5 F rfl b3 (hs.qM k' oc' _ b2 hp')).2 b e6;have:=hs.xk k k' oc oc' _ _ b a2 b2 S hp' d1 d2;subst this;rw[a1] at b1;cases b1;rfl
 .refine h.pG.step C.fr (λb W=>?_) C.mem (λb o x hx hn=>C.new b o x hx hn) (λj o p b U c z=>?_) hat
  .obtain ⟨i,o,p,_,f2,f3,f4⟩:=hX b W;exact h.pG.own i o p b f2 f3 f4
  .by_cases hj:j∈ix\/σ.ob.length<=j
   .obtain ⟨k,oc,a1,a2,a3⟩:=H j o hj U;obtain⟨p',S⟩:=hs.place a2;have c1:r[j]? =some p':=F.2 k j p' a1 S;have c1':r[j]? =some p:=c;rw[c1] at c1';cases c1';have d1:=(oJ.j5 F rfl a3 (hs.qM k oc _ a2 S)).2 b z;rcases C.own k oc _ b a2 S d1 with h7|h7
    .obtain ⟨i,o,p',f1,f2,f3,f4⟩:=hX b h7;exact .inl (h.pG.own i o p' b f2 f3 f4)
    .exact .inr h7
   .simp only[not_or,dU] at hj;rw[q5 j hj.1 hj.2] at U;have e2':r[j]? =some p:=c;rw[m5 j hj.1 O] at e2';obtain⟨o2,f1,f2,_⟩:=R.2 J j o U;refine .inl (h.pG.own j o2 p b f1 e2' ?_);rcases f2.jk z (λ_ _=>trivial) with f3|⟨e',k',rfl⟩
    .exact f3
    .have:=h.store.qM _ _ _ f1 e2';simp only[oJ] at this;subst this;cases o<;>first|exact False.elim f2|(simp[jP,np] at z)
inductive Ex where
 |normal
 |exit (id:Nat)
 |goto (l:Nat)
 |ret
structure jO where
 pn:SV->List (Nat×SV)->List Ob->Prop
 esc:Bs->Exit->Act->World->Prop
def GF(c:Nat):List Oper->Bool
 |[]=>false
 |o::r=>(match o.dst with|some t=>Nat.beq t c|none=>false)||GF c r
def rQ(l:List Oper):List (Nat×SV)->List (Nat×SV)
 |[]=>[]
 |(k,s)::r=>cond (GF k l) (rQ l r) ((k,s)::rQ l r)
theorem Dk{l:List Oper}{t:Nat}:∀{sl:List (Nat×SV)},vO t (rQ l sl)=if GF t l=true then .qe else vO t sl
 |[]=>by simp[rQ,vO]
 |(k,s)::r=>by
  have U:=Dk (l:=l) (t:=t) (sl:=r);unfold rQ;rw[n5];cases c:GF k l with
  |true=>
   rw[cond_true,U];by_cases b:k=t
   .subst b;rw[c];simp
   .rw [if_neg b]
  |false=>
   rw[cond_false,n5,U];by_cases b:k=t
   .subst b;rw[c];simp
   .rw [if_neg b,if_neg b]
theorem GG{l:List Oper}:∀{sl:List (Nat×SV)},rQ l (rQ l sl)=rQ l sl
 |[]=>rfl
 |(k,s)::r=>by
  have U:=GG (l:=l) (sl:=r);cases b:GF k l with
  |true=>
   have e:rQ l ((k,s)::r)=rQ l r:=by rw[rQ,b,cond_true]
   rw[e,U]
  |false=>
   have e:rQ l ((k,s)::r)=(k,s)::rQ l r:=by rw[rQ,b,cond_false]
   rw[e,rQ,b,cond_false,U]
abbrev jO.dr(l:List Oper)(Pn:jO):jO:=⟨λs sl ob=>Pn.pn s (rQ l sl) ob,λ_ _ _ _=>False⟩
def WE(e:Nat->List D)(B:Bs)(Pn:jO)(c:List PanicEntry)(a:Act)(w:World):Prop:=
 ∃g sl ob v s,c=[{ v:=v,recovered:=false }]/\jX e ob g w/\Ji B ob g w/\s.Den g v/\(∀ t,(vO t sl).Den g (a.tmps.getD t undef))/\Pn.pn s sl ob
def ye(e:Nat->List D)(B:Bs)(Pn:jO)(Q:Ex->St->Prop):Exit->Act->World->Prop
 | .normal,a,w=> ∃σ,Rel e B σ a w/\Q .normal σ
 | .exit id,a,w=> ∃σ,Rel e B σ a w/\Q (.exit id) σ
 | .goto l,a,w=> ∃σ,Rel e B σ a w/\Q (.goto l) σ
 | .ret,a,w=>Pn.esc B .ret a w\/∃σ,Rel e B σ a w/\Q .ret σ
 | .panic c,a,w=>Pn.esc B (.panic c) a w\/(a.defers=B.df/\WE e B Pn c a w)
 | .outgrown,_,_=>False
def iK(P:Program)(e:Nat->List D)(h:Nat)(i:jO)(c:Code)(Q:Ex->St->Prop)(σ:St):Prop:=
 ∀B:Bs,B.n0=h->∀a w,Rel e B σ a w->c.wp P (ye e B i Q) a w
def Ex.seq(K:St->Prop)(Q:Ex->St->Prop):Ex->St->Prop
 | .normal,σ=>K σ
 |e,σ=>Q e σ
def Ex.inBlock(c:Nat)(Q:Ex->St->Prop):Ex->St->Prop
 | .exit j,σ=>if j=c then Q .normal σ else Q (.exit j) σ
 |e,σ=>Q e σ
def jI(P:Program)(e:Nat->List D)(h:Nat)(i:jO)(T:Nat->Prop)(o:Oper)(σ:St)(K:St->Prop):Prop:=
 ∀B:Bs,B.n0=h->∀g a w,jE e B σ g a w->∀(next:Act->World->Prop) (Q:Exit->Act->World->Prop),
  (∀ b k U w',jE e B b k U w'->z8 T σ.ob g w k w'->K b->next U w')->(∀ c w',WE e B i c a w'->Q (.panic c) a w')->o.wp P a w next Q
def iL(P:Program)(e:Nat->List D)(h:Nat)(i:jO)(c l:List Oper)(Q:Ex->St->Prop)(σ:St):Prop:=
 ∀B:Bs,B.n0=h->∀a w,Rel e B σ a w->wpList P c.toArray (ye e B i Q) l a w
theorem LH(j:o.dst=some t)(q:Nat.blt t σ.n=true)(h:ik P c o σ λs _=>K ⟨σ.n,(t,s)::σ.sl,σ.ob⟩):jI P c e i T o σ K:=λB C g a w U next Q r F=>by
 obtain⟨G,s,y,L,b,x,_,k,z⟩:=h B g a w U;unfold Oper.wp;rw[b w x];show next (a.put o.dst y) w
 rw[j];exact r _ _ _ _ (U.put q k) (z8.refl _ _ _ _) z
theorem BB(h:Q .normal σ):iL P e i j c [] Q σ:=λB k a w b=>wpList_nil ⟨σ,b,h⟩
theorem wT(y:o.guard=none)(h:jI P j q r T o σ λk=>iL P j q r i e Q k):iL P j q r i (o::e) Q σ:=λB U a w ⟨g,s⟩=>by
 refine wpList_step λK z=>?_
 simp only[Region.wanted,y,if_true];exact h B U g a w s _ _ (λk C F x b _ G=>z _ _ (G B U F x ⟨C,b⟩)) (λc x H=>.inr ⟨s.defers,H⟩)
theorem oc(h:jI P i j q T o σ λb=>iL P i j q e c Q b)(r:o.guard=none:=by exact rfl):iL P i j q e (o::c) Q σ:=wT r h
theorem tB(y:o.guard=none)(z:o.dst=some t)(C:Nat.blt t n=true)
 (h:ik P i o ⟨n,j,q⟩ λs _=>iL P i r x e c Q ⟨n,(t,s)::j,q⟩):iL P i r x e (o::c) Q ⟨n,j,q⟩:=
 wT (T:=λ_=>False) y (LH z C h)
theorem o1(h:ik P i o ⟨n,j,q⟩ λs _=>iL P i r x e c Q ⟨n,(t,s)::j,q⟩)(y:o.guard=none:=by exact rfl)(z:o.dst=some t:=by exact rfl)(C:Nat.blt t n=true:=by exact rfl):iL P i r x e (o::c) Q ⟨n,j,q⟩:=tB y z C h
def rf(c:List Oper)(j:Nat):Option Tmp:=(c[j]?).bind (·.dst)
theorem Ck{e:Array Oper}{o:Oper}{j s:Nat}{c x:Bool}{a:Act}(i:o.guard=some (j,c))(q:rf e.toList j=some s)(h:a.tmps.getD s undef=.bool x):
 Region.wanted o (yielded e a.tmps)=(x==c):=by
 have U:(e[j]?).bind (·.dst)=some s:=by simpa[rf] using q
 have r:a.tmps[s]? =some (.bool x):=by
  by_cases k:s<a.tmps.size
  .simp [k] at h;simp[k,h]
  .simp [k] at h;cases h
 simp only[Region.wanted,i,yielded,U,cw,r];cases x<;>cases c<;>rfl
theorem xv{c:Array Oper}{o:Oper}{j r:Nat}{e:Bool}{a:Act}{t:Array Value}(h:o.guard=some (j,e))(q:rf c.toList j=some r)(i:a.tmps.getD r undef=.tuple t):
 Region.wanted o (yielded c a.tmps)=false:=by
 have k:(c[j]?).bind (·.dst)=some r:=by simpa[rf] using q
 cases b:a.tmps[r]? with
 |none=>simp only[Region.wanted,h,yielded,k,cw,b];try rfl
 |some v=>
  have U:v=.tuple t:=by
   rw[dQ,b] at i;simpa using i
  subst U;simp only[Region.wanted,h,yielded,k,cw,b]
  try rfl
theorem wv{P:Program}{r:Nat->List D}{s:Nat}{x:jO}{e i:List Oper}{o:Oper}{Q:Ex->St->Prop}{n:Nat}{q:List (Nat×SV)}{y:List Ob}{j H:Nat}{c:Bool}(z:o.guard=some (j,c))(C:rf e j=some H)(F:oV H q=some (fH c))
 (h:iL P r s x e ({ o with guard:=none }::i) Q ⟨n,q,y⟩):iL P r s x e (o::i) Q ⟨n,q,y⟩:=λB G a w ⟨g,U⟩=>by
 have b:a.tmps.getD H undef=.bool c:=by have:=U.j9 H;rw[ou F] at this;exact this
 have k:=h B G a w ⟨g,U⟩;unfold wpList at k ⊢;rw[Ck z C b,if_pos (by simp)];have hw:Region.wanted { o with guard:=none } (yielded e.toArray a.tmps)=true:=rfl;rw[if_pos hw] at k;exact k
theorem xM{P:Program}{s:Nat->List D}{x:Nat}{y:jO}{i e:List Oper}{o:Oper}{Q:Ex->St->Prop}{n:Nat}{r:List (Nat×SV)}{z:List Ob}{j I t:Nat}{c:Bool}(C:o.guard=some (j,c))(F:rf i j=some I)(G:oV I r=some (fH (!c)))(q:o.dst=some t)(H:Nat.blt t n=true)
 (h:iL P s x y i e Q ⟨n,(t,.d (.v undef))::r,z⟩):iL P s x y i (o::e) Q ⟨n,r,z⟩:=λB U a w ⟨g,k⟩=>by
 have b:a.tmps.getD I undef=.bool (!c):=by have:=k.j9 I;rw[ou G] at this;exact this
 unfold wpList;rw[Ck C F b,if_neg (by cases c<;>simp),q];exact h B U _ w ⟨g,k.put H rfl⟩
theorem Ig(z)(s:oV z e=some (fH C))
 (x:C=true->iL P h i j c l Q ⟨n,(z,fH true)::e,q⟩) (y:C=false->iL P h i j c l Q ⟨n,(z,fH false)::e,q⟩):iL P h i j c l Q ⟨n,e,q⟩:=λB r a w ⟨g,U⟩=>by
 have k:a.tmps.getD z undef=.bool C:=by have:=U.j9 z;rw[ou s] at this;exact this
 cases C with
 |true=>exact x rfl B r a w ⟨g,U.known (t:=z) k⟩
 |false=>exact y rfl B r a w ⟨g,U.known (t:=z) k⟩
theorem ue{id:Nat}(h:iL P c e i l l Q σ):iK P c e i (.region id l.toArray false) Q σ:=
 λB b _ _ k=>wp_region_list (by simpa using h B b _ _ k)
def uz(c:List (Nat×SV)):List Nat->Option (List (Nat×SV))
 |[]=>some []
 |t::r=>(uz c r).bind λl=>match oV t c with
  |some s=>some ((t,s)::l)
  |none=>some l
theorem Iw{c:List (Nat×SV)}:∀{L:List Nat} {l:List (Nat×SV)},uz c L=some l->∀t,vO t l=vO t c\/vO t l=.qe
 |[],l,h,t=>by simp[uz] at h;subst h;exact .inr rfl
 |k::r,l,h,t=>by
  simp only[uz,ai] at h;obtain⟨q,i,b⟩:=h;have U:=Iw i t;split at b
  .rename_i s j;simp only[an] at b;subst b;rw[n5];split
   .rename_i e;subst e;exact .inl (ou j).symm
   .exact U
  .simp only[an] at b;subst b;exact U
theorem HV(L)(y:uz s L=some i)(h:iK P j q r c Q ⟨n,i,x⟩):iK P j q r c Q ⟨n,s,x⟩:=λB k a w ⟨g,b⟩=>
 h B k a w ⟨g,b.defers,b.size,λt=>by
  show(vO t i).Den g _;rcases Iw y t with e|e
  .rw [e];exact b.j9 t
  .rw [e];trivial,b.store,b.pG⟩
theorem wJ(h:iK P i j q r (Ex.seq (λU=>iK P i j q s Q U) Q) σ):iK P i j q (.seq r s) Q σ:=
 λB k a w b=>wp_seq (wp_mono (h B k a w b) λe a w hl=>by
  cases e with
  |normal=>obtain⟨σ,b,x⟩:=hl;exact x B k a w b
  |exit id=>exact hl
  |goto l=>exact hl
  |ret=>exact hl
  |panic c=>exact hl
  |outgrown=>exact hl)
theorem Au(h:iK P c e i j Q σ):Ex.seq (λb=>iK P c e i j Q b) q .normal σ:=h
theorem Gk(h:Q .normal σ):Ex.inBlock c Q .normal σ:=h
theorem Vw(h:Q .normal σ):Ex.inBlock c Q (.exit c) σ:=by simp only[Ex.inBlock,if_true];exact h
theorem SM(i:Nat.beq j c=false)(h:Q (.exit j) σ):Ex.inBlock c Q (.exit j) σ:=by
 have:j≠c:=λe=>by subst e;simp at i
 simp only[Ex.inBlock,if_neg this];exact h
theorem HS(h:Q .normal σ):iK P c e i .skip Q σ:=λ_ _ _ _ b=>wp_skip ⟨σ,b,h⟩
theorem yH(h:Q .ret σ):iK P c e i .ret Q σ:=λ_ _ _ _ b=>wp_ret (.inr ⟨σ,b,h⟩)
theorem HW{id:Nat}(h:Q (.exit id) σ):iK P c e i (.exit id) Q σ:=λ_ _ _ _ b=>wp_exit ⟨σ,b,h⟩
theorem vc{id:Nat}(h:iK P i q r c (Ex.inBlock id Q) σ):iK P i q r (.block id c) Q σ:=
 λB s a w k=>wp_block (wp_mono (h B s a w k) λe a w b=>by
  cases e with
  |normal=>exact b
  |exit j=>
   obtain⟨σ,k,U⟩:=b;simp only[Ex.inBlock] at U;simp only[Exit.inBlock];split at U
   .rename_i e;rw[if_pos e];exact⟨σ,k,U⟩
   .rename_i e;rw[if_neg e];exact⟨σ,k,U⟩
  |goto l=>exact b
  |ret=>exact b
  |panic c=>exact b
  |outgrown=>exact b)
theorem tu{b:Bool}(s:jb e σ.sl c=some (fH b))(x:b=true->iK P e h i j Q σ)(y:b=false->iK P e h i q Q σ):
 iK P e h i (.cond c j q) Q σ:=λB U a w z=>by
 obtain⟨g,k⟩:=z;have r:a.eval c=.bool b:=k.oe s;cases b
 .exact wp_cond_false r (y rfl B U a w ⟨g,k⟩)
 .exact wp_cond_true r (x rfl B U a w ⟨g,k⟩)
inductive tl (ob:List Ob) (ρ:List Nat) (sl:List (Nat×SV)):List (Nat×SV)->Prop
 |nil:tl ob ρ sl []
 |cons {t:Nat} {s s':SV} {r:List (Nat×SV)} (h:s.j5 ρ=some s') (hf:Fit ob (vO t sl) s') (hr:tl ob ρ sl r):tl ob ρ sl ((t,s)::r)
def pre:Nat->Nat->List Nat->Bool
 |_,0,_=>true
 |_,_+1,[]=>false
 |k,n+1,i::r=>cond (Nat.beq i k) (pre (k+1) n r) false
theorem EC:∀{n k:Nat} {ρ:List Nat},pre k n ρ=true->∀i,i<n->ρ[i]? =some (k+i)
 |0,k,ρ,h,i,U=>O
 |n+1,k,[],h,i,U=>by cases h
 |n+1,k,j::r,h,i,U=>by
  simp only[pre] at h;cases b:Nat.beq j k with
  |false=>rw[b] at h;cases h
  |true=>
   rw[b] at h;have e:j=k:=by simpa using b
   subst e;cases i with
   |zero=>simp
   |succ i=>have:=EC (n:=n) (k:=j+1) h i O;simp only[eW,this];congr 1;omega
def me:List Nat->Bool
 |[]=>true
 |i::r=>cond (uw r i) false (me r)
theorem rL:∀{l:List Nat},me l=true->l.Nodup
 |[],_=>eF
 |i::r,h=>by
  simp only[me] at h;cases b:uw r i with
  |true=>rw[b] at h;cases h
  |false=>
   rw[b] at h;exact cG.2 ⟨λk=>(by rw[xd.2 k] at b;cases b),rL h⟩
structure um (n0:Nat) (σ σ':St) (ρ:List Nat):Prop where
 n:σ'.n=σ.n
 pre:pre 0 n0 ρ=true
 nd:me ρ=true
 th:∀(j i:Nat) f dn cur,σ'.ob[j]? =some (.ru i f dn cur)->σ'.ob[i]? =some (.jc f)
 ob:jh σ.ob ρ σ'.ob ρ
 sl:tl σ.ob ρ σ.sl σ'.sl
theorem N4(r:jX q c g w)(s:Wx ρ i g)(h:tl c ρ j l)(t)(x:(vO t j).Den g y):(vO t l).Den i y:=by
 induction h with
 |nil=>trivial
 |cons b k _ U=>
  rw[n5];split
  .rename_i e;subst e;exact SV.yK s _ b (k.den r x)
  .exact U
theorem Jw(y:B.n0=s)(z:pre 0 s ρ=true)(h:Ji B e g w)(C:jX x e g w)(F:jh e ρ c ρ)(q:ρ.Nodup)(r:∀(j i:Nat) f G U,c[j]? =some (.ru i f G U)->c[i]? =some (.jc f)):
 Ji B c ⟨g.m,ρ.map λi=>g.gs.getD i (.loc 0)⟩ w:=by
 refine⟨h.fr,h.mem,h.new,λi o p b H I J=>?_,λi b M R=>?_⟩
 .obtain ⟨S,k,V,W,_,Y,e3,e4⟩:=(C.sub F q r).2.2 b ⟨i,o,p,H,I,J⟩;exact h.own S V W b Y e3 e4
 .have:=EC z i O;rw[bU] at this;show(ρ.map _)[i]? =_;rw[bt,this];simp[ba,h.at' i b M R]
theorem um.rel(e:B.n0=j)(h:um j σ q ρ)(c:Rel i B σ a w):Rel i B q a w:=by
 obtain⟨g,c⟩:=c;have k:=rL h.nd;have b:=c.store.sub h.ob k h.th;exact⟨_,c.defers,by rw[h.n];exact c.size,λt=>N4 c.store b.2.1 h.sl t (c.j9 t),b.1,Jw e h.pre c.pG c.store h.ob k h.th⟩
def yr{ι:Type}(c:Nat)(S:ι->St)(I:ι->Prop)(σ:St):Prop:= ∃i ρ,I i/\um c σ (S i) ρ
theorem HU(S:ι->St)(q:ι->Prop)(m:ι->Nat)(I:yr s S q σ)
 (h:∀i,q i->iK P r s x c (Ex.seq (λG=>yr s S (λj=>q j/\m j<m i) G) Q) (S i)):iK P r s x (.loop c) Q σ:=λB k a w U=>by
 obtain⟨i,ρ,y,H⟩:=I;refine wp_loop_rounds (m i+1) ?_;have key:∀(n:Nat) (i:ι),m i<n->q i->∀a w,Rel r B (S i) a w->Code.rounds P c (ye r B x Q) n a w:=by
  intro n
  induction n with
  |zero=>intro i H;omega
  |succ n J=>
   intro i M y a w U;refine wp_mono (h i y B k a w U) λe R V b=>?_
   cases e with
   |normal=>
    obtain⟨G,z,j,ρ,⟨C,W⟩,F⟩:=b;exact J j O C R V (F.rel k z)
   |exit id=>exact b
   |goto l=>exact b
   |ret=>exact b
   |panic c=>exact b
   |outgrown=>exact b
 exact key _ i (dI _) y a w (H.rel k U)
theorem Az{f:FuncId}(ht:jT P GL f R y Q)(h)(z:∀B g a w,jE GL B σ g a w->∃vs,(execOp a.eval o).run P w=.ok (.enter f ⟨vs⟩) w/\iN g Y vs)
 (C:jh σ.ob h R h) (hnd:me h=true) (S:nF R=true) (hit:∀i∈h,∀(j:Nat) f dn V,σ.ob[j]? ≠some (.ru i f dn V)) (hra:qD h y=some m) (hfa:nQ σ.ob Y m)
 (hret:∀s ob',Q (.ret s) ob'->∃q r k U F,r6 (names h σ.ob.length (ob'.length-h.length)) ob'=some q/\vH h σ.ob=some r/\pM h r q=some k/\xW h σ.sl=some U/\s.j5 (names h σ.ob.length (ob'.length-h.length))=some F/\
  (∀ t,o.dst=some t->Nat.blt t σ.n=true/\K ⟨σ.n,(t,F)::U,k⟩)/\(o.dst=none->K ⟨σ.n,U,k⟩))
 (hpan:∀s ob',Q (.vk s) ob'->∃q r k U F,r6 (names h σ.ob.length (ob'.length-h.length)) ob'=some q/\vH h σ.ob=some r/\pM h r q=some k/\xW h σ.sl=some U/\s.j5 (names h σ.ob.length (ob'.length-h.length))=some F/\Pn.pn F U k):
 jI P GL n0 Pn (· ∈h) o σ K:=λB hB g a w hr next Q' hK hP=>by
 obtain⟨vs,z,hd⟩:=z B g a w hr;have G:=rL hnd;have I:=hr.store.sub C G (λj i f dn V hj=>absurd hj (oG S j i f dn V));have hd2:=qw I.2.1 _ hra (hfa.den hr.store hd);unfold Oper.wp;rw[z,Oper.upon_enter];refine(ht _ w vs I.1 hd2).mono λe w' he=>?_
 obtain⟨g',ob',hs,hst,hle,J,he⟩:=he;cases e with
 |returned v=>
  obtain⟨s,W,hq⟩:=he;obtain⟨q,r,k,U,F,e1,e2,e3,e4,e5,e6,e7⟩:=hret s ob' hq;obtain⟨gn,b,x,H⟩:=hr.after C G S hit hs hst hle J e1 e2 e3 e4;cases M:o.dst with
  |none=>exact hK _ _ _ _ b x (e7 M)
  |some t=>
   obtain⟨e8,e9⟩:=e6 t M;exact hK _ _ _ _ (b.put (s:=F) e8 (H s F v e5 W)) x e9
 |panicked c=>
  obtain⟨v,s,rfl,W,hq⟩:=he;obtain⟨q,r,k,U,F,e1,e2,e3,e4,e5,e6⟩:=hpan s ob' hq;obtain⟨gn,b,x,H⟩:=hr.after C G S hit hs hst hle J e1 e2 e3 e4;exact hP _ _ ⟨gn,U,k,v,F,rfl,b.store,b.pG,H s F v e5 W,b.j9,e6⟩
 |outgrown=>exact he.elim
def GC(c:Nat->List D)(e:List (Nat×SV)):List Operand->Option (List SV)
 |[]=>some []
 |x::r=>(jb c e x).bind λs=>(GC c e r).bind λl=>some (s::l)
theorem x4{c:Nat->List D}{B:Bs}{σ:St}{g:Gh}{a:Act}{w:World}(e:jE c B σ g a w):∀{l:List Operand} {b:List SV},GC c σ.sl l=some b->iN g b (l.map a.eval)
 |[],b,h=>by simp[GC] at h;subst h;rfl
 |x::r,b,h=>by
  simp only[GC,ai,an] at h;obtain⟨s,k,l,U,rfl⟩:=h;exact⟨_,_,rfl,e.oe k,x4 e U⟩
def iA(P:Program)(c:FuncId):Bool:=
 match P.funcs[c]? with
 | some fn => fn.name != "runtime.NumGoroutine" && fn.body.isSome
 |none=>false
theorem uG(h:iA P e=true)(args w):(callFunc e args).run P w=.ok (.enter e args) w:=by
 unfold iA at h;split at h
 .rename_i fn b;simp only[bY,bne_iff_ne,ne_eq] at h;have k : (fn.name == "runtime.NumGoroutine") = false := by simpa using h.1
  have U:fn.body.isNone=false:=by cases c:fn.body<;>simp_all
  simp only[callFunc,Sem.run_bind,run_program,Result.andThen_ok,b,k,U,bu,if_false];rfl
 .cases h
theorem xI(i:iA P r=true)(j:o.op=.call { callee:=.value (.func r),args:=args,argTypes:=h })(q:GC e σ.sl args.toList=some c):
 ∀B g a w,jE e B σ g a w->∃k,(execOp a.eval o).run P w=.ok (.enter r ⟨k⟩) w/\iN g c k:=λB g a w U=>by
 refine⟨args.toList.map a.eval,?_,x4 U q⟩;have b:(execOp a.eval o).run P w=(callFunc r ⟨args.toList.map a.eval⟩).run P w:=by
  simp only[execOp,j,resolve,Act.eval,Deferred.ofValue,Sem.run_bind,Sem.run_pure,Result.andThen_ok,invoke]
  congr 2
  apply c7;simp
 rw[b,uG i]
theorem On(s:iA P J=true)(y:∀z,x≠ .func z)(C:o.op=.call { callee:=.value x,args:=args,argTypes:=r })
 (F:jb q σ.sl x=some (.fn (.func J) first c)) (G:GC q σ.sl args.toList=some j) (H:pY first j=some h) (I:pY h c=some i):
 ∀B g a w,jE q B σ g a w->∃b,(execOp a.eval o).run P w=.ok (.enter J ⟨b⟩) w/\iN g i b:=λB g a w U=>by
 obtain⟨b,us,e,d1,d2⟩:=U.oe F;refine⟨(b++args.toList.map a.eval)++us,?_,?_⟩
 .have k:(execOp a.eval o).run P w=(callFunc J ⟨(b++args.toList.map a.eval)++us⟩).run P w:=by
   simp only[execOp,C,resolve,e,Deferred.ofValue,Sem.run_bind,Sem.run_pure,Result.andThen_ok,invoke]
   congr 2
   apply c7;simp
  rw[k,uG s]
 .rw [nM I,nM H];exact(d1.append (x4 U G)).append d2
def Ra(c:Nat->List D)(P:Program)(σ:St):ResultVar->SV->Prop
 | .tmp t,s=>oV t σ.sl=some s
 | .cell x T,s=> ∃i off l ty l1 cs ti,oV x σ.sl=some (.jk i off)/\jo i σ.ob=some (.cells l ty)/\iH P T=ti/\ti.ok=true/\nW off l=some l1/\rJ ti.size l1=some cs/\xh ti.agg cs=some s
def rv(c:Nat->List D)(P:Program)(σ:St):List ResultVar->List SV->Prop
 |[],l=>l=[]
 |r::k,l=> ∃s b,l=s::b/\Ra c P σ r s/\rv c P σ k b
def ve:List SV->SV
 |[s]=>s
 |l=>.jj l
def Uz:List Value->Value
 |[v]=>v
 |vs=>.tuple ⟨vs⟩
def WI(e:Nat)(Q:SV->List Ob->Prop)(s:SV)(c:List Ob):Prop:=
 ∃ρ b ob' t,pre 0 e ρ=true/\me ρ=true/\nF ob'=true/\jh c ρ ob' ρ/\SV.j5 ρ b=some t/\Fit c s t/\Q b ob'
def Fin(P:Program)(c:Nat->List D)(e:Nat)(h:List ResultVar)(Q:Out->List Ob->Prop)(σ:St):Prop:=
 ∃l,rv c P σ h l/\WI e (λs ob=>Q (.ret s) ob) (ve l) σ.ob
def fin(P:Program)(c:Nat->List D)(n0:Nat)(e:List ResultVar)(Q:Out->List Ob->Prop):Ex->St->Prop
 | .normal,σ=>Fin P c n0 e Q σ
 | .ret,σ=>Fin P c n0 e Q σ
 |_,_=>False
theorem Gx(h:Fin P c e i Q σ):fin P c e i Q .normal σ:=h
def JK(c:Array Value):ResultVar->Sem Value
 | .tmp t=>pure (c.getD t undef)
 | .cell x t=>do loadVar t (<- asAddr (c.getD x undef))
theorem Oq(e c):results e c=(do let b <-e.results.mapM (JK c);pure (if h:b.size=1 then b[0] else .tuple b)):=by
 have h:∀f g:ResultVar->Sem Value,(∀ r,f r=g r)->(do let b <-e.results.mapM f;pure (if h:b.size=1 then b[0] else .tuple b):Sem Value)=(do let b <-e.results.mapM g;pure (if h:b.size=1 then b[0] else .tuple b)):=
  λf g h=>by rw[funext h]
 exact h _ _ λr=>by cases r<;>rfl
theorem Kk(H:jE V B σ g a w):∀{c:List ResultVar} {l:List SV},rv V P σ c l->∃q,(c.mapM (JK a.tmps)).run P w=.ok q w/\iN g l q:=by
 intro c
 induction c with
 |nil=>intro l h;simp only[rv] at h;subst h;exact⟨[],rfl,rfl⟩
 |cons r c Y=>
  intro l h;obtain⟨s,l',rfl,W,h2⟩:=h;obtain⟨q,k,hd⟩:=Y h2;cases r with
  |tmp t=>
   refine⟨a.tmps.getD t undef::q,?_,⟨_,_,rfl,?_,hd⟩⟩
   .simp only[List.mapM_cons,JK,Sem.run_bind,Sem.run_pure,Result.andThen_ok,k]
   .have:=H.j9 t;rw[ou W] at this;exact this
  |cell x T=>
   obtain⟨i,off,l0,ty,l1,cs,ti,e1,e2,rfl,e4,e5,e6,I⟩:=W;have G:=H.j9 x;rw[ou e1] at G;obtain⟨b,hb,G⟩:=G;obtain⟨us,hh,J,hm⟩:=H.store.qM i _ _ (iS e2) hb;have M:=sQ e5;have z:=yx e6;have U:iN g cs ((us.drop off).take (iH P T).size):=by rw[<- z.1,<-M.1];exact(J.drop off).take _
   have C:((us.drop off).take (iH P T).size).length=(iH P T).size:=by rw[U.length,<-z.1];simp;omega
   have R:=r5 (P:=P) e4 (w:=w) (b:=b) (off:=off) C (λj y F=>by
    rw[cB] at F;split at F
    .rw [bX] at F;simp only[World.cell?,hh]
     simpa using F
    .cases F) (λS=>by
    rw[S] at I;have e:=C7 I
    match h9:(us.drop off).take (iH P T).size,U.length.trans e with
    |[y],_=>exact⟨y,rfl⟩)
   refine⟨_::q,?_,⟨_,_,rfl,C8 I U,hd⟩⟩;have ha:(asAddr (.pointer (some ⟨b,off,none⟩))).run P w=.ok ⟨b,off,none⟩ w:=rfl;simp only[List.mapM_cons,JK,Sem.run_bind,G,ha,Sem.run_pure,Result.andThen_ok,R,k]
theorem Sl:∀{l:List SV} {U:List Value},iN g l U->(ve l).Den g (Uz U)
 |[],_,h=>by cases h;exact⟨[],rfl,rfl⟩
 |[s],_,⟨x,c,e,b,k⟩=>by cases k;subst e;exact b
 |s::t::r,_,⟨x,c,e,b,⟨y,l2,i,k,j⟩⟩=>by subst e i;exact⟨_,rfl,x,_,rfl,b,y,_,rfl,k,j⟩
theorem Fin.run{P:Program}{F:Nat->List D}{n0:Nat}{B:Bs}(S:B.n0=n0){J:Func}{Q:Out->List Ob->Prop}{σ:St}{a:Act}{w:World}(q:Rel F B σ a w)(h:Fin P F n0 J.results.toList Q σ):
 ∃v,(results J a.tmps).run P w=.ok v w/\∃G ob',jX F ob' G w/\Ji B ob' G w/\n0<=ob'.length/\nF ob'=true/\∃s,s.Den G v/\Q (.ret s) ob':=by
 obtain⟨g,q⟩:=q;obtain⟨l,V,ρ,M,ob',t,k,H,y,b,z,W,Y⟩:=h;obtain⟨R,C,hd⟩:=Kk q V;have U:=rL H;have c:∀(j i:Nat) f I x,ob'[j]? =some (.ru i f I x)->ob'[i]? =some (.jc f):=λj i f I x hj=>absurd hj (oG y j i f I x)
 have e:=q.store.sub b U c;refine⟨Uz R,?_,_,ob',e.1,Jw S k q.pG q.store b U c,?_,y,M,SV.yK e.2.1 M z (W.den q.store (Sl hd)),Y⟩
 .rw [Oq];simp only[Array.mapM_eq_mapM_toList,Sem.run_bind,Sem.run_map,C,Result.andThen_ok,Sem.run_pure]
  congr 1
  match R with
  |[]=>rfl
  |[v]=>rfl
  |v::u::r=>simp[Uz]
 .have h5:=b.get.1;rw[h5];rcases bV ρ.length n0 with h6|h6
  .have:=EC k ρ.length h6;simp at this
  .exact h6
def j9:Nat->List SV->List (Nat×SV)
 |_,[]=>[]
 |k,s::r=>(k,s)::j9 (k+1) r
theorem HI{g:Gh}:∀{c:List SV} {b:List Value} (k:Nat),iN g c b->∀t,k<=t->∀{y:Value},(∀ x,b[t-k]? =some x->y=x)->(vO t (j9 k c)).Den g y
 |[],b,k,d,t,U,y,h=>trivial
 |s::r,_,k,⟨x,q,e,j,dl⟩,t,U,y,h=>by
  subst e;unfold j9;rw[n5];split
  .rename_i i;subst i;have:=h x (by simp);subst this;exact j
  .rename_i i;refine HI (k+1) dl t O (λz hz=>h z ?_);have:t-k=t-(k+1)+1:=O;rw[this];simpa using hz
abbrev YW(n0:Nat)(Q:Out->List Ob->Prop):jO:=⟨λs _ ob=>WI n0 (λs ob'=>Q (.vk s) ob') s ob,λ_ _ _ _=>False⟩
def uF (i : Nat -> List D) (B : Bs) (Q : Out -> List Ob -> Prop) (e : Ending) (h : World) : Prop :=
  ∃ b ob', jX i ob' b h /\ Ji ⟨B.g, B.w, B.X, B.n0, []⟩ ob' b h /\ B.n0 <= ob'.length /\ nF ob' = true /\
      (match e with
       | .returned v => ∃ s, s.Den b v /\ Q (.ret s) ob'
       | .panicked c => ∃ v s, c = [{ v := v, recovered := false }] /\ s.Den b v /\ Q (.vk s) ob'
       | .outgrown => False)
theorem wM(G:c.length<=n)(y:jX r j g w)(s:iN g c e):
 jE r ⟨g,w,lN j g,j.length,[]⟩ ⟨n,j9 0 c,j⟩ g { tmps:=(⟨e⟩:Array Value)++Array.replicate (n-(⟨e⟩:Array Value).size) undef,defers:=[] } w:=by
 refine⟨rfl,by have:=s.length;simp;omega,λt=>?_,y,⟨Fr.refl _ _,pV.refl _,λb o x U q=>?_,λi o p b U q z=>.inl ⟨i,o,p,U,q,z⟩,λ_ _ _ h=>h⟩⟩
 .refine HI 0 s t (ak _) λx C=>?_
  have k:e[t]? =some x:=by simpa using C
  have F:t<e.length:=(aJ.1 k).1;simp only[dQ];rw[Array.getElem?_append_left (by simpa using F)];simp[k]
 .simp only at q;rw[q] at U;cases U
theorem Ji.forget(h:Ji B c g w)(e):Ji ⟨B.g,B.w,B.X,B.n0,e⟩ c g w:=⟨h.fr,h.mem,h.new,h.own,h.at'⟩
theorem LA(M:WE I B (YW B.n0 Q) c a w):uF I B Q (.panicked c) w:=by
 obtain⟨Y,R,S,v,s,rfl,q,x,C,_,ρ,J,ob',t,k,F,y,b,z,G,V⟩:=M;have U:=rL F;have e:∀(j i:Nat) f H r,ob'[j]? =some (.ru i f H r)->ob'[i]? =some (.jc f):=λj i f H r W=>absurd W (oG y j i f H r)
 have h:=q.sub b U e;refine⟨_,ob',h.1,(Jw rfl k x q b U e).forget [],?_,y,v,J,rfl,SV.yK h.2.1 J z (G.den q C),V⟩;rw[b.get.1];rcases bV ρ.length B.n0 with h6|h6
 .have:=EC k ρ.length h6;simp at this
 .exact h6
theorem Gw(j:B.n0=e)(q:Rel c B σ a w)(h:Fin P c e i.results.toList Q σ):
 ∃v,(results i a.tmps).run P w=.ok v w/\uF c B Q (.returned v) w:=by
 subst j;obtain⟨v,b,k,ob',U,r,s,x,y⟩:=Fin.run rfl q h;exact⟨v,b,k,ob',U,r.forget [],s,x,y⟩
theorem EP(G:B.df=[])(y:s.results.toList=H)(h:iK P j B.n0 (YW B.n0 Q) c (fin P j B.n0 H Q) σ)(q:Rel j B σ a w):
 c.wp P (bodyPost P s (uF j B Q)) a w:=by
 subst y;refine wp_mono (h _ rfl _ w q) λe z x k=>?_
 have i:∀σ,Rel j B σ z x->Fin P j B.n0 s.results.toList Q σ->z.defers=[]/\∃v,(results s z.tmps).run P x=.ok v x/\uF j B Q (.returned v) x:=
  λσ q U=>⟨by obtain⟨_,q⟩:=q;exact q.defers.trans G,Gw rfl q U⟩
 cases e with
 |normal=>obtain⟨σ,b,U⟩:=k;obtain⟨r,v,C,F⟩:=i σ b U;exact⟨r,v,C,F⟩
 |ret=>
  rcases k with k|⟨σ,b,U⟩
  .exact k.elim
  .obtain ⟨r,v,C,F⟩:=i σ b U;exact⟨r,v,C,F⟩
 |exit id=>obtain⟨σ,b,U⟩:=k;exact U.elim
 |goto l=>obtain⟨σ,b,U⟩:=k;exact U.elim
 |panic c=>
  rcases k with k|⟨r,I⟩
  .exact k.elim
  .exact ⟨r.trans G,LA I⟩
 |outgrown=>exact k.elim
theorem Dv(y:P.funcs[F]? =some j)(z:j.body=some c)(r:j.ntmps=n)(s:j.results.toList=x)
 (C:e.length<=n) (h:iK P q i.length (YW i.length Q) c (fin P q i.length x Q) ⟨n,j9 0 e,i⟩):jT P q F i e Q:=by
 subst r;intro g w k b hd;refine calls_of_wp y z ?_;exact EP (B:=⟨g,w,lN i g,i.length,[]⟩) rfl s h ⟨g,wM C b hd⟩
theorem jE.wQ(h:jE c B ⟨n,e,i⟩ g a w)(j:Nat.blt t n=true)(q:s.Den g x):jE c B ⟨n,(t,s)::e,i⟩ g (a.put (some t) x) w:=h.put j q
theorem yU{cs:List SV}{ty:TypeId}(h:jE c B σ g a w)(r:iN g cs vs):
 jE c B ⟨σ.n,σ.sl,σ.ob++[.cells cs ty]⟩ ⟨g.m,g.gs++[.loc w.heap.size]⟩ a (w.alloc (.cells ⟨vs⟩ ty))/\z8 (λ_=>False) σ.ob g w ⟨g.m,g.gs++[.loc w.heap.size]⟩ (w.alloc (.cells ⟨vs⟩ ty)):=by
 have k:WR g ⟨g.m,g.gs++[.loc w.heap.size]⟩:=⟨pV.refl _,λi p j=>by
  show(g.gs++[_])[i]? =some p;rw[bl (aJ.1 j).1];exact j⟩
 have U:∀o,g.m w.heap.size o=none:=λo=>by
  cases s:g.m w.heap.size o with
  |none=>rfl
  |some x=>have:=h.store.rB s;omega
 exact h.Eh ((Fr.refl _ w).alloc _) (pV.refl _) (λb o x q y=>by rw[y] at q;cases q) ⟨vs,heap_alloc_new w _,iN.mono k cs r,U⟩ (λb z=>by simp only[jP,np,an] at z;omega) (λi f F C e=>by cases e)
theorem EO{g:Gh}{e:List Ob}{h:Nat}(c:e.length=g.gs.length):(SV.jk e.length 0).Den ⟨g.m,g.gs++[.loc h]⟩ (.pointer (some ⟨h,0,none⟩)):=⟨h,by rw[c];simp,rfl⟩
theorem FF{V:Nat}{n t:Nat}{I:List (Nat×SV)}{q e:List Ob}{r:List SV}{k:Nat}(Y:iH P c=C)(J:C.TP=true)(ho:o.op=.alloc c)(hd:o.dst=some t)(ht:Nat.blt t n=true)(hm:wY C.zero=some r)(hl:q.length=k)(F:pY q [.cells r c]=some e)
 (h:K ⟨n,(t,.jk k 0)::I,e⟩):jI P S V W T o ⟨n,I,q⟩ K:=λB hB g a w M next Q hK hP=>by
 subst Y hl;rw[nM F] at h;have G:∃i z,P.info? c=some i/\i.zero=some z/\(iH P c).zero=z.cells.toList:=by
  simp only[iH,dS,ai] at J;obtain⟨z,i,y,U⟩:=J;exact⟨i,z,y,U,by simp[iH,y,U]⟩
 obtain⟨i,z,y,U,H⟩:=G;have j:(execOp a.eval o).run P w=.ok (.value (.pointer (some ⟨w.heap.size,0,none⟩))) (w.alloc (.cells ⟨z.cells.toList⟩ c)):=by
  simp[execOp,ho,Instr.alloc,zeroValue,typeInfo,y,U,newVar,newRow]
 unfold Oper.wp;rw[j];show next (a.put o.dst _) _
 rw[hd];obtain⟨h1,R⟩:=yU (ty:=c) M (cs:=r) (vs:=z.cells.toList) (by rw[BI hm,H];exact iN.ofv _);exact hK _ _ _ _ (h1.wQ (s:=.jk q.length 0) ht (EO M.store.len)) ⟨R.1,λi b o _=>R.2 i b o (λx=>x)⟩ h
theorem Yz(C:iH P i=j)(h:K ⟨n,(t,.jk J 0)::r,c⟩)(F:o.op=.alloc i:=by exact rfl)(G:o.dst=some t:=by exact rfl)(H:j.TP=true:=by exact rfl)(I:Nat.blt t n=true:=by exact rfl)(hm:wY j.zero=some s:=by exact rfl)(q:pY e [.cells s i]=some c:=by exact rfl)(hl:e.length=J:=by omega):jI P x y z T o ⟨n,r,e⟩ K:=FF C H F G I hm hl q h
theorem UT{H:Nat}{n t:Nat}{r:List (Nat×SV)}{j e:List Ob}{q:List SV}{k:Nat}(J:iH P c=F)(M:o.op=.box c x)(R:o.dst=some t)(S:Nat.blt t n=true)(V:jb C r x=some s)(W:rk F.agg s=some q)(Y:j.length=k)(y:pY j [.cells q c]=some e)
 (h:K ⟨n,(t,.jk k 0)::r,e⟩):jI P C H I T o ⟨n,r,j⟩ K:=λB hB g a w z next Q hK hP=>by
 subst J Y;rw[nM y] at h;have U:(execOp a.eval o).run P w=.ok (.value (.pointer (some ⟨w.heap.size,0,none⟩))) (w.alloc (.cells ⟨(a.eval x).cells.toList⟩ c)):=by
  simp[execOp,M,Instr.box,newVar,newRow]
 unfold Oper.wp;rw[U];show next (a.put o.dst _) _
 rw[R];obtain⟨h1,G⟩:=yU (ty:=c) z (cs:=q) (vs:=(a.eval x).cells.toList) (tN W (z.oe V));exact hK _ _ _ _ (h1.wQ (s:=.jk j.length 0) S (EO z.store.len)) ⟨G.1,λi b o _=>G.2 i b o (λx=>x)⟩ h
theorem bx{ty:TypeId}(F:iH P ty=r)(h:K ⟨n,(t,.jk R 0)::e,c⟩)(G:o.op=.box ty x:=by exact rfl)(H:o.dst=some t:=by exact rfl)(I:jb q e x=some s:=by exact rfl)(J:Nat.blt t n=true:=by exact rfl)(M:rk r.agg s=some y:=by exact rfl)(j:pY i [.cells y ty]=some c:=by exact rfl)(hl:i.length=R:=by omega):jI P q z C T o ⟨n,e,i⟩ K:=UT F G H J I M hl j h
def py(i:Nat):List Ob->Bool
 |[]=>true
 | .ru j _ _ _::r=>cond (Nat.beq j i) false (py i r)
 | .cells _ _::r=>py i r
 | .row _ _::r=>py i r
 | .jd _ _::r=>py i r
 | .buf _ _ _ _::r=>py i r
 | .jc _::r=>py i r
 | .jK _::r=>py i r
 | .rU _ _::r=>py i r
 | .dead::r=>py i r
theorem rD{i:Nat}:∀{ob:List Ob},py i ob=true->∀(j:Nat) f k b,ob[j]? ≠some (.ru i f k b)
 |[],_,j,f,k,b=>by simp
 |o::r,h,0,f,k,b=>by intro e;simp at e;subst e;simp[py] at h
 |o::r,h,j+1,f,k,b=>by
  have:py i r=true:=by
   cases o<;>simp only[py] at h<;>try exact h
   rename_i U _ _ _;cases c:Nat.beq U i<;>rw[c] at h
   .exact h
   .cases h
  simpa using rD this j f k b
def qU:List Nat->List Ob->Bool
 |[],_=>true
 |i::r,ob=>cond (py i ob) (qU r ob) false
theorem rM:∀{ix:List Nat} {ob:List Ob},qU ix ob=true->∀i∈ix,∀(j:Nat) f c b,ob[j]? ≠some (.ru i f c b)
 |[],_,_,i,hi=>by cases hi
 |k::r,ob,h,i,hi=>by
  simp only[qU] at h;cases U:py k ob with
  |false=>rw[U] at h;cases h
  |true=>
   rw[U] at h;rcases bh.1 hi with rfl|hi
   .exact rD U
   .exact rM h i hi
theorem Fy{ty:TypeId}(hT:iH P ty=z)(hok:z.ok=true)(ho:o.op=.store ty x y)(hd:o.dst=none)(hx:jb GL sl x=some (.jk i q))(hy:jb GL sl y=some s)
 (hi:jo i ob=some (.cells l r)) (hc:rk z.agg s=some H) (hsz:Nat.beq H.length z.size=true) (I:pH H=true) (hs:CE q H l=some l') (hob:pD i (.cells l' r) ob=some G)
 (h:K ⟨n,sl,G⟩):jI P GL n0 Pn (λj=>j=i) o ⟨n,sl,ob⟩ K:=λB hB g a w J next Q hK hP=>by
 subst hT;obtain⟨b,hb,hpx⟩:=J.oe hx;have C:=iS hi;obtain⟨M,hh,R,S⟩:=J.store.qM i _ _ C hb;obtain⟨z,d,V,hdd,hsi,_⟩:=Be hok;have F:=tN hc (J.oe hy);have hcl:=F.length;have hll:=R.length;have hs2:=Bm hs;have hsz':H.length=(iH P ty).size:=by simpa using hsz
 have U:(a.eval y).cells.toList.length=z.size:=O;have W:=run_storeCells_at (P:=P) b q r (a.eval y).cells.toList 0 ⟨M⟩ w hh (by simp at U ⊢;omega) (uk I F);have Y:(execOp a.eval o).run P w=.ok .skip (w.setRow b ⟨M.take q++(a.eval y).cells.toList++M.drop (q+(a.eval y).cells.toList.length)⟩):=by
  have hsz2:(a.eval y).cells.size=z.size:=by simpa using U
  simp only[execOp,ho,hpx,Instr.storeAt,Instr.sureAddr,storeVar,sizeOf,typeInfo,Sem.run_bind,Sem.run_pure,Result.andThen_ok,run_program,V,hsz2];simp only[ne_eq,not_true_eq_false,if_false];simp only[b6] at W;rw[W];simp
 unfold Oper.wp;rw[Y];show next (a.put o.dst _) _
 rw[hd];have hset:=nL hob;obtain⟨h1,h2⟩:=J.NL (w':=w.setRow b ⟨M.take q++(a.eval y).cells.toList++M.drop (q+(a.eval y).cells.toList.length)⟩) (o':=.cells l' r) C hb rfl ⟨rfl,rfl,rfl,by simp,λc _ hc=>setRow_other w _ _ _ hc⟩
  ⟨_,setRow_heap w b _ _ _ _ hh,K7 hs R F,S⟩ (.inl rfl) (λj f dn cur e=>by
   have h7:=J.store.th j i f dn cur e;rw[C] at h7;cases h7) (λk f dn cur e=>by cases e) S
 rw[hset.1] at h;exact hK _ _ _ _ h1 h2 h
theorem Ug(Y:iH P R=C)(h:K ⟨n,z,c⟩)(ho:o.op=.store R x y:=by exact rfl)(hd:o.dst=none:=by exact rfl)(hx:jb G z x=some (.jk i q):=by exact rfl)(hy:jb G z y=some s:=by exact rfl)(hi:jo i H=some (.cells l e):=by exact rfl)(I:C.ok=true:=by exact rfl)(hc:rk C.agg s=some F:=by exact rfl)(J:Nat.beq F.length C.size=true:=by exact rfl)(r:pH F=true:=by exact rfl)(hs:CE q F l=some S:=by exact rfl)(M:pD i (.cells S e) H=some c:=by exact rfl):jI P G V W (λj=>j=i) o ⟨n,z,H⟩ K:=Fy Y I ho hd hx hy hi hc J r hs M h
def oQ(m:Mem)(h:Nat)(e:List Value):Mem:=λc o=>if c=h then e[o]? else m c o
def MO(c:Nat->List D)(e:List (Nat×SV))(h:Bool):List Operand->Option (List (List D))
 |[]=>some []
 |x::r=>(jb c e x).bind λs=>(rk h s).bind λcs=>(Am cs).bind λb=>(MO c e h r).bind λl=>some (b::l)
def LM:List D->Bool
 |[]=>true
 |d::r=>cond (Xw d) (LM r) false
def GP(c:Nat):List (List D)->Bool
 |[]=>true
 |e::r=>cond (Nat.beq e.length c) (cond (LM e) (GP c r) false) false
theorem Io{m:Mem}:∀{l:List D} {U:List Value},LM l=true->nk m l U->∀x∈U,x.oneCell'=true
 |[],_,_,h,x,b=>by cases h;cases b
 |s::r,_,h,⟨y,j,e,c,i⟩,x,b=>by
  subst e;unfold LM at h;cases k:Xw s with
  |false=>rw[k] at h;cases h
  |true=>
   rw[k] at h;cases b with
   |head=>exact LL k c
   |tail _ b=>exact Io h i x b
theorem Rp{H:Nat->List D}{B:Bs}{σ:St}{g:Gh}{a:Act}{w:World}(I:jE H B σ g a w){R:Bool}{k:Nat}:∀{j:List Operand} {c:List (List D)},MO H σ.sl R j=some c->GP k c=true->
 c.length=j.length/\(∀ v∈j.map a.eval,v.cells.size=k)/\(∀ u∈(j.map a.eval).flatMap λv=>v.cells.toList,u.oneCell'=true)/\
  (∀ (m:Mem) (b off:Nat),pV g.m m->(∀ i x,((j.map a.eval).flatMap λv=>v.cells.toList)[i]? =some x->m b (off+i)=some x)->nT m k b off c)
 |[],c,h,_=>by simp[MO] at h;subst h;exact⟨rfl,by simp,by simp,λ_ _ _ _ _=>trivial⟩
 |x::r,c,h,U=>by
  simp only[MO,ai,an] at h;obtain⟨s,S,cs,V,z,W,l,Y,rfl⟩:=h;simp only[GP] at U;cases C:Nat.beq z.length k with
  |false=>rw[C] at U;cases U
  |true=>
  rw[C] at U;cases e:LM z with
  |false=>rw[e] at U;cases U
  |true=>
  rw[e] at U;simp only[cond_true] at U;have hk:z.length=k:=by simpa using C
  obtain⟨e1,e2,e3,e4⟩:=Rp I Y U;have hd:=iN.p9 _ (tN V (I.oe S)) W;have J:=hd.length;have F:(a.eval x).cells.size=k:=by
   have:(a.eval x).cells.toList.length=k:=O
   simpa using this
  refine⟨by simp[e1],λv hv=>?_,λu hu=>?_,λm b off M G=>?_⟩
  .simp only[bG,bh] at hv;rcases hv with rfl|hv
   .exact F
   .exact e2 v hv
  .simp only[bG,ey,bn] at hu;rcases hu with hu|hu
   .exact Io e hd u hu
   .exact e3 u hu
  .simp only[bG,ey] at G;refine⟨⟨hk,oU.BE (nk.mono M _ hd) λi y q=>G i y ?_⟩,e4 m b (off+k) M λi y q=>?_⟩
   .rw [bl (aJ.1 q).1];exact q
   .have:=G (k+i) y (by rw[bA O,show k+i-(a.eval x).cells.toList.length=i by omega];exact q)
    rwa [show off+(k+i)=off+k+i by omega] at this
def Kd:Nat->List Operand->Option (List (Nat×Operand))
 |_,[]=>some []
 |k,x::r=>(Kd (k+1) r).bind λl=>some ((k,x)::l)
theorem Q5:∀{b:List Operand} {k:Nat} {l:List (Nat×Operand)},Kd k b=some l->l=(b.zipIdx k).map λp=>(p.2,p.1)
 |[],k,l,h=>by simp[Kd] at h;subst h;rfl
 |x::r,k,l,h=>by
  simp only[Kd,ai,an] at h;obtain⟨c,U,rfl⟩:=h;simp[Q5 U]
theorem pV.set(h:∀o x,m j o=some x->i[o]? =some x):pV m (oQ m j i):=λc o x k=>by
 unfold oQ;by_cases e:c=j
 .subst e;rw[if_pos rfl];exact h o x k
 .rw [if_neg e];exact k
theorem OE{k:Nat}{ty:TypeId}(TS:rX P ty e j G)(H:List Operand)(hT:iH P e=ti)(ho:o.op=.buildSlice ty q y)
 (hd:o.dst=some t) (ht:Nat.blt t n=true) (hp:Kd 0 H=some y.toList) (hel:MO GL sl ti.agg H=some C) (V:GP j C=true) (I:H.length=q) (W:0<j) (hn0:0<q) (Y:q*j<=16777216) (hl:R.length=k) (hob:pY R [.row e j]=some S)
 (h:K ⟨n,(t,.own k j C)::sl,S⟩):jI P GL n0 Pn T o ⟨n,sl,R⟩ K:=λB hB g a w hr next Q hK hP=>by
 subst hl;rw[nM hob] at h;obtain⟨e1,e2,e3,e4⟩:=Rp hr hel V;have J:=Xi (P:=P) (ρ:=a.eval) TS H (H.map a.eval) rfl (Q5 hp) (by simp[I]) e2 W hn0 Y w;have hrun:(execOp a.eval o).run P w=.ok (.value (.slice (some ⟨w.heap.size,0,none⟩) q q)) (w.alloc (.cells ⟨(H.map a.eval).flatMap λv=>v.cells.toList⟩ e)):=by
  simp only[execOp,ho,Sem.run_bind];rw[J];rfl
 unfold Oper.wp;rw[hrun];show next (a.put o.dst _) _
 rw[hd];generalize hfl:((H.map a.eval).flatMap λv=>v.cells.toList)=r at*
 have z:r.length=q*j:=by rw[<- hfl,Mx _ e2];simp[I]
 have hm0:∀o,g.m w.heap.size o=none:=λo=>by
  cases U:g.m w.heap.size o with
  |none=>rfl
  |some x=>have:=hr.store.rB U;omega
 have hm:pV g.m (oQ g.m w.heap.size r):=pV.set λo x U=>by rw[hm0] at U;cases U
 have M:∀o x,r[o]? =some x->(w.alloc (.cells ⟨r⟩ e)).cell? ⟨w.heap.size,o,none⟩=some x:=λo x U=>by
  simp only[World.cell?,heap_alloc_new w (.cells ⟨r⟩ e)]
  simpa using U
 have F:q<=maxLen:=by
  have:q<=q*j:=Nat.le_mul_of_pos_right _ W;simp only[maxLen];omega
 have hrow:(w.alloc (.cells ⟨r⟩ e)).ownsRow 0 e j (.slice (some ⟨w.heap.size,0,none⟩) q q) q r:=
  ⟨z,.inr ⟨w.heap.size,q,⟨r⟩,rfl,ak _,heap_alloc_new w _,ae _,F,by simp[z],by rw[<- z];exact bT⟩⟩
 have hA:∀b o x,oQ g.m w.heap.size r b o=some x->g.m b o=none->w.heap.size<=b/\(w.alloc (.cells ⟨r⟩ e)).cell? ⟨b,o,none⟩=some x/\x.oneCell'=true:=λb o x U I=>by
  unfold oQ at U;by_cases e5:b=w.heap.size
  .subst e5;rw[if_pos rfl] at U;exact⟨ae _,M o x U,e3 x (aO U)⟩
  .rw [if_neg e5,I] at U;cases U
 have hB':∀c,some w.heap.size=some c->∀o,q*j<=o->oQ g.m w.heap.size r c o=none:=λc hc o ho=>by
  simp only[an] at hc;subst hc;unfold oQ;rw[if_pos rfl,cW O]
 obtain⟨h1,h2⟩:=hr.Eh (w':=w.alloc (.cells ⟨r⟩ e)) ((Fr.refl _ w).alloc _) hm hA (o':=.row e j) (pl:=.row (some w.heap.size) q q) ⟨⟨r,hrow⟩,hB'⟩ (λb hb=>by simp only[jP,np,an] at hb;omega) (λi f dn cur e=>by cases e);refine hK _ _ _ _ (h1.wQ (s:=.own R.length j C) ht ⟨some w.heap.size,q,?_,?_,?_,λ_=>⟨w.heap.size,rfl,e4 _ _ 0 hm λi x U=>?_⟩⟩) ⟨h2.1,λi b o _=>h2.2 i b o (λx=>x)⟩ h
 .show (g.gs++[_])[R.length]? =_;have hl2:R.length=g.gs.length:=hr.store.len;rw[hl2,e1,I];simp
 .rw [e1,I];rfl
 .rw [e1,I];exact ae _
 .show oQ _ _ _ _ _=_;unfold oQ;rw[if_pos rfl,bU];exact U
theorem zw{w:World}{e:TypeId}{k:Nat}{b:Nat}{n cap:Nat}{xs:List Value}(h:w.ownsRow 0 e k (.slice (some ⟨b,0,none⟩) n cap) n xs):n<=cap/\∀o x,xs[o]? =some x->w.cell? ⟨b,o,none⟩=some x:=by
 refine⟨?_,λo x i=>?_⟩
 .rcases h.2 with⟨c,_⟩|⟨q,r,j,c,_,_,s,_⟩
  .cases c
  .simp only[Value.slice.injEq] at c;omega
 .have:=h.cells (g:=b) rfl o x i;have U:(⟨b,0,none⟩:Addr).add o=⟨b,o,none⟩:=by rw[pU];simp
  rwa [U] at this
theorem zb{m j:Mem}{M R c:Nat}(s:pV m j):∀{ls:List (List D)} {off U:Nat},nT m M R off ls->(∀ i x,i<ls.length*M->m R (off+i)=some x->j c (U+i)=some x)->nT j M c U ls
 |[],_,_,_,_=>trivial
 |e::r,off,U,⟨⟨z,C⟩,F⟩,h=>by
  refine⟨⟨z,?_⟩,zb s F λi x H q=>?_⟩
  .obtain ⟨I,y,G⟩:=C.R3;have J:=y.length;refine oU.BE (nk.mono s _ y) λi x q=>h i x ?_ (G i x q)
   have:=(aJ.1 q).1;simp only[aj,bQ];omega
  .have:=h (M+i) x (by simp only[aj,bQ];omega) (by rwa [show off+(M+i)=off+M+i by omega])
   rwa [show U+(M+i)=U+M+i by omega] at this
theorem GH{m:Mem}{H I:Nat}:∀{ls:List (List D)} {off:Nat},nT m H I off ls->∃U:List Value,U.length=ls.length*H/\∀i x,U[i]? =some x->m I (off+i)=some x
 |[],_,_=>⟨[],by simp,by simp⟩
 |e::r,off,⟨⟨j,q⟩,s⟩=>by
  obtain⟨h,y,z⟩:=q.R3;obtain⟨U,C,F⟩:=GH s;have G:=y.length;refine⟨h++U,by simp[C,G,j,bQ];omega,λi x c=>?_⟩;rw[cH] at c;split at c
  .exact z i x c
  .have:=F _ x c
   rwa [show off+H+(i-h.length)=off+i by omega] at this
theorem LI{P:Program}{GL:Nat->List D}{n0:Nat}{Pn:jO}{o:Oper}{n t i:Nat}{sl sl':List (Nat×SV)}{ob ob1 ob':List Ob}{K:St->Prop}{e:TypeId}{q:Nat}{s:Operand}{x news:List (List D)}{or:Ob}
 (hd:o.dst=some t) (ht:Nat.blt t n=true) (hs:jb GL sl s=some (.own i q x)\/(jb GL sl s=some fK/\x=[]/\or=.jd e q)) (hi:jo i ob=some or) (hor:or=.row e q\/or=.jd e q)
 (happ:∀B g a w,jE GL B ⟨n,sl,ob⟩ g a w->∀xs,w.ownsRow 0 e q (a.eval s) x.length xs->∃Y v' w',(execOp a.eval o).run P w=.ok (.value v') w'/\w'.ownsRow 0 e q v' (x.length+news.length) (xs++Y)/\Fr (λc=>(a.eval s).ownBlock=some c/\v'.ownBlock=some c) w w'/\
  (∃ k,v'.ownBlock=some k/\((a.eval s).ownBlock=some k\/k=w.heap.size)/\k<w'.heap.size/\∃c,v'=.slice (some ⟨k,0,none⟩) (x.length+news.length) c)/\Y.length=news.length*q/\(∀ u∈Y,u.oneCell'=true)/\
  ∀(m:Mem) c off,pV g.m m->(∀ (j:Nat) y,Y[j]? =some y->m c (off+j)=some y)->nT m q c off news)
 (hsl:Ix i sl=some sl') (hob:Iy i ob=some ob1) (hob':pD i (.row e q) ob1=some ob')
 (h:K ⟨n,(t,.own i q (x++news))::sl',ob'⟩):jI P GL n0 Pn (λj=>j=i) o ⟨n,sl,ob⟩ K:=λB hB g a w G next Q hK hP=>by
 have J:=iS hi;rw[(nL hob').1] at h;have hrow:∃b cap,g.gs[i]? =some (.row b cap x.length)/\a.eval s=.slice (b.map λb=>⟨b,0,none⟩) x.length cap/\(x≠[]->∃c,b=some c/\nT g.m q c 0 x):=by
  rcases hs with hs|⟨hs,rfl,rfl⟩
  .obtain ⟨b,cap,h1,h2,h3,h4⟩:=G.oe hs;exact⟨b,cap,h1,h2,h4⟩
  .have hv:a.eval s=.slice none 0 0:=G.oe hs;obtain⟨p,hp⟩:=G.store.place J;have r:=G.store.qM _ _ _ J hp;simp only[oJ] at r;subst r;exact⟨none,0,hp,hv,λh=>absurd rfl h⟩
 obtain⟨b,cap,R,H,hden⟩:=hrow;have z:∃xs,w.ownsRow 0 e q (a.eval s) x.length xs/\(∀ c,b=some c->∀off,x.length*q<=off->g.m c off=none):=by
  have r:=G.store.qM _ _ _ J R;rcases hor with rfl|rfl
  .obtain ⟨⟨xs,h1⟩,h2⟩:=r;exact⟨xs,by rw[H];exact h1,h2⟩
  .simp only[oJ,Pl.row.injEq] at r;obtain⟨rfl,rfl,h3⟩:=r;refine⟨[],?_,λc M=>by cases M⟩;rw[H,h3];exact⟨by simp,.inl ⟨rfl,rfl⟩⟩
 obtain⟨xs,z,hfree⟩:=z;obtain⟨Y,v',w',hrun2,F,hfr0,⟨k,hk1,hk2,hk3,c',rfl⟩,hnl,hnone,hden2⟩:=happ B g a w G xs z;unfold Oper.wp;rw[hrun2];show next (a.put o.dst _) _
 rw[hd];have hob2:(a.eval s).ownBlock=b:=by rw[H];cases b<;>rfl
 have S:Fr (λc=>b=some c) w w':=hfr0.mono λc _ h=>by rw[<- hob2];exact h.1
 rw[hob2] at hk2;have hxl:=z.1;have I:=(zw F).2;have hcell:=λc (M:b=some c)=>(zw (b:=c) (n:=x.length) (cap:=cap) (xs:=xs) (e:=e) (k:=q) (w:=w) (by rw[H,M] at z;exact z)).2
 have hin:∀c,b=some c->∀off y,g.m c off=some y->xs[off]? =some y:=λc M off y U=>by
  have hlt:off<x.length*q:=by
   rcases bV off (x.length*q) with h5|h5
   .exact h5
   .rw [hfree c M off h5] at U;cases U
  have C:xs[off]? =some xs[off]:=aZ O;have h7:=hcell c M off _ C;rw[(G.store.sat _ _ _ U).1] at h7;cases h7;exact C
 have hnb:∀off,(b=some k->False)->g.m k off=none:=λoff hbk=>by
  rcases hk2 with h5|h5
  .exact (hbk h5).elim
  .cases hx:g.m k off with
   |none=>rfl
   |some y=>have:=G.store.rB hx;omega
 have V:pV g.m (oQ g.m k (xs++Y)):=pV.set λoff y U=>by
  by_cases hbk:b=some k
  .have C:=hin k hbk off y U;rw[bl (aJ.1 C).1];exact C
  .rw [hnb off (λh=>hbk h)] at U;cases U
 have hcor:(b=some k/\or=.row e q)\/w.heap.size<=k:=by
  rcases hk2 with h5|h5
  .rcases hor with C|rfl
   .exact .inl ⟨h5,C⟩
   .have r:=G.store.qM _ _ _ J R;simp only[oJ,Pl.row.injEq] at r;rw[r.1] at h5;cases h5
  .exact .inr O
 have hfr2:Fr (λc=>b=some c/\or=.row e q) w w':=⟨S.os,S.tape,S.output,S.size,λc M hn=>S.block c M (λhb=>by
  rcases hor with C|rfl
  .exact hn ⟨hb,C⟩
  .have r:=G.store.qM _ _ _ J R;simp only[oJ,Pl.row.injEq] at r;rw[r.1] at hb;cases hb)⟩
 have hA:∀d off y,oQ g.m k (xs++Y) d off=some y->g.m d off=none->d=k:=λd off y U hn=>by
  unfold oQ at U;by_cases e5:d=k
  .exact e5
  .rw [if_neg e5,hn] at U;cases U
 have hB':∀off y,oQ g.m k (xs++Y) k off=some y->w'.cell? ⟨k,off,none⟩=some y/\y.oneCell'=true:=λoff y U=>by
  unfold oQ at U;rw[if_pos rfl] at U;refine⟨I off y U,?_⟩;rw[cH] at U;split at U
  .rename_i hlt;by_cases W:x=[]
   .subst W;simp at hxl;subst hxl;simp at hlt
   .obtain ⟨c,M,hdd⟩:=hden W;obtain⟨fl,hfl1,hfl2⟩:=GH hdd;have h7:fl[off]? =some fl[off]:=aZ O;have h8:=hfl2 off _ h7;rw[bU] at h8;have h9:=hin c M off _ h8;rw[U] at h9;cases h9;exact(G.store.sat _ _ _ h8).2
  .exact hnone y (aO U)
 have hC:∀d off y,b=some d->g.m d off=some y->w'.cell? ⟨d,off,none⟩=some y:=λd off y hd U=>by
  by_cases hdk:d=k
  .subst hdk;have C:=hin d hd off y U;exact I off y (by rw[bl (aJ.1 C).1];exact C)
  .have hlt:=G.store.rB U;have hold:w'.heap[d]? =w.heap[d]? :=hfr0.block d hlt λh=>by
    have h9:=h.2;simp only[Value.ownBlock,an] at h9;exact hdk h9.symm
   rw[World.cell?_of_block (w:=w) hold];exact(G.store.sat _ _ _ U).1
 have hD:∀off,(x.length+news.length)*q<=off->oQ g.m k (xs++Y) k off=none:=λoff hoff=>by
  unfold oQ;rw[if_pos rfl];exact cW (by
   have:(x.length+news.length)*q=x.length*q+news.length*q:=bQ _ _ _;rw[aN];omega)
 obtain⟨h1,h2⟩:=G.afl (w':=w') (m':=oQ g.m k (xs++Y)) (cap':=c') (n':=x.length+news.length) J hor R hfr2 V hcor hA hB' hC ⟨_,F⟩ hD hsl hob;refine hK _ _ _ _ (h1.wQ (s:=.own i q (x++news)) ht ⟨some k,c',?_,?_,?_,λ_=>⟨k,rfl,?_⟩⟩) h2 h
 .show (g.gs.set i _)[i]? =_;rw[bz (aJ.1 R).1];simp
 .simp
 .have:=(zw F).1;simpa using this
 .refine nT.append ?_ ?_
  .by_cases W:x=[]
   .subst W;trivial
   .obtain ⟨c,M,hdd⟩:=hden W;refine zb V hdd λj y hj U=>?_
    rw[bU] at U ⊢;have C:=hin c M j y U;show oQ _ _ _ _ _=_;unfold oQ;rw[if_pos rfl,bl (aJ.1 C).1];exact C
  .refine hden2 _ _ _ V λj y C=>?_
   show oQ _ _ _ _ _=_;unfold oQ;rw[if_pos rfl,bA O,show 0+x.length*q+j-xs.length=j by omega];exact C
theorem xO{ty:TypeId}{ls:List (List D)}(TS:rX P ty e q z)(ho:o.op=.call { callee:=.builtin .append,args:= #[s,x],argTypes:= #[ty,ty] })
 (hd:o.dst=some t) (ht:Nat.blt t n=true) (hs:jb GL J s=some (.own i q ls)\/(jb GL J s=some fK/\ls=[]/\or=.jd e q)) (hi:jo i ob=some or) (hor:or=.row e q\/or=.jd e q)
 (hx:∀B g a w,jE GL B ⟨n,J,ob⟩ g a w->(D.sl q r).Den g.m (a.eval x))
 (hsz:0<q) (V:r≠[]) (h63:ls.length+r.length<=maxLen) (C:(ls.length+r.length)*z<=140737488355328) (hsl:Ix i J=some M) (hob:Iy i ob=some R) (W:pD i (.row e q) R=some S)
 (h:K ⟨n,(t,.own i q (ls++r))::M,S⟩):jI P GL n0 Pn (λj=>j=i) o ⟨n,J,ob⟩ K:=
 LI (news:=r) hd ht hs hi hor (λB g a w hr xs Y=>by
  obtain⟨ax,capx,hvx,hlx,hdx⟩:=hx B g a w hr;obtain⟨bx,F,rfl,G⟩:=hdx V;obtain⟨nv,hnl,H⟩:=GH G;have hm:0<r.length:=eG.2 V;have U:∀j u,nv[j]? =some u->w.cell? ((⟨bx,F,none⟩:Addr).add j)=some u:=λj u hu=>by
   rw[pU];exact(hr.store.sat _ _ _ (H j u hu)).1
  have b:∀u∈nv,u.oneCell'=true:=λu hu=>by
   obtain⟨j,hj⟩:=b7 hu;exact(hr.store.sat _ _ _ (H j u hj)).2
  obtain⟨v',w',hrun,I,hfr0,k,hk1,hk2,hk3,c',rfl⟩:=QK (P:=P) (ty:=o.type) TS hsz Y (a:=⟨bx,F,none⟩) (c:=capx) hnl hm U b h63 C;refine⟨nv,_,w',?_,I,hfr0,⟨k,hk1,hk2,hk3,c',rfl⟩,hnl,b,λm c off hmm hj=>zb hmm G λi y hi hy=>?_⟩
  .unfold execOp;simp only[ho,resolve,invoke,builtin,Sem.run_bind,Sem.run_pure,Result.andThen_ok,ed,bG,de,hvx,hrun]
  .have h7:nv[i]? =some nv[i]:=aZ O;have:=H i _ h7;rw[hy] at this;cases this;exact hj i _ h7) hsl hob W h
theorem CQ(TS:rX P R e c r)(ho:o.op=.call { callee:=.builtin .append,args:= #[s,x],argTypes:= #[R,R] })
 (hd:o.dst=some t) (ht:Nat.blt t n=true) (hs:jb J H s=some (.own i c I)) (hx:jb J H x=some sx) (V:sx.p9=some (.sl c q)) (hi:jo i M=some S) (W:S=.row e c\/S=.jd e c)
 (Y:0<c) (hne:q≠[]) (F:I.length+q.length<=maxLen/\(I.length+q.length)*r<=140737488355328) (hsl:Ix i H=some y) (hob:Iy i M=some z) (G:pD i (.row e c) z=some C)
 (h:K ⟨n,(t,.own i c (I++q))::y,C⟩):jI P J n0 Pn (λj=>j=i) o ⟨n,H,M⟩ K:=
 xO TS ho hd ht (.inl hs) hi W (λB g a w hr=>SV.Den.p9 _ (hr.oe hx) V) Y hne F.1 F.2 hsl hob G h
theorem Ih(e k)(s:pY j [.jd e k]=some c)(R:∀i,i<j.length->T' i->T i)(h:jI P F G H T' o ⟨n,I,c⟩ K):jI P F G H T o ⟨n,I,j⟩ K:=λB S g a w V next Q W Y=>by
 rw[nM s] at h;obtain⟨q,r⟩:=V.Eh (w':=w) (Fr.refl _ w) (pV.refl _) (λb o x q r=>by rw[r] at q;cases q) (o':=.jd e k) (pl:=.row none 0 0) rfl (λb hb=>by simp[jP,np] at hb) (λi f dn cur e=>by cases e);refine h B S _ a w q next Q (λσ' g' a' w' y J z=>W σ' g' a' w' y ⟨r.1.trans J.1,λi b o hi C e2 M=>?_⟩ z) Y
 obtain⟨f1,f2⟩:=r.2 i b o (λx=>x) C e2 M;have U:=(aJ.1 C).1;exact J.2 i b o (λhx=>hi (R i U hx)) (by show(j++[_])[i]? =_;rw[bl U];exact C) f1 M
theorem Ae{k:Nat}(TS:rX P R e c r)(ho:o.op=.call { callee:=.builtin .append,args:= #[s,x],argTypes:= #[R,R] })
 (hd:o.dst=some t) (ht:Nat.blt t n=true) (hs:jb J I s=some fK) (hx:jb J I x=some sx) (S:sx.p9=some (.sl c q)) (hl:M.length=k) (F:pY M [.jd e c]=some y) (hi:jo k y=some (.jd e c))
 (V:0<c) (W:q≠[]) (G:q.length<=maxLen/\q.length*r<=140737488355328) (Y:Ix k I=some z) (hob:Iy k y=some C) (H:pD k (.row e c) C=some ob')
 (h:K ⟨n,(t,.own k c q)::z,ob'⟩):jI P J n0 Pn T o ⟨n,I,M⟩ K:=
 Ih (T':=λj=>j=k) e c F (λi hi hx=>O) (xO (ls:=[]) TS ho hd ht (.inr ⟨hs,rfl,rfl⟩) hi (.inr rfl) (λB g a w hr=>SV.Den.p9 _ (hr.oe hx) S) V W (by simpa using G.1) (by simpa using G.2) Y hob H h)
theorem Il{P:Program}{S:Nat->List D}{n0:Nat}{Pn:jO}{o:Oper}{σ:St}{K:St->Prop}{T:Nat->Prop}{f:FuncId}{h:List D}{C:List SV}{Q:D->Prop}(q:∀B g a w,jE S B σ g a w->∃M,(execOp a.eval o).run P w=.ok (.enter f ⟨M⟩) w/\iN g C M)(V:nQ σ.ob C (h.map .d))
 (ht:jT P S f [] (h.map .d) λout ob'=>ob'=[]/\∃d,out=.ret (.d d)/\Q d) (F:∀d,Q d->(∀ t,o.dst=some t->Nat.blt t σ.n=true/\K ⟨σ.n,(t,.d d)::σ.sl,σ.ob⟩)/\(o.dst=none->K σ)):jI P S n0 Pn T o σ K:=λB hB g a w R next Q' hK hP=>by
 obtain⟨M,q,hd⟩:=q B g a w R;have G:∀l:List D,qD [] (l.map .d)=some (l.map .d):=by
  intro l
  induction l with
  |nil=>rfl
  |cons x l W=>simp[qD,SV.j5,W]
 have r:=R.store.sub (obc:=[]) (ρ:=[]) .nil eF (λj i f dn cur hj=>by simp at hj);have Y:=qw r.2.1 _ (G h) (V.den R.store hd);unfold Oper.wp;rw[q,Oper.upon_enter];refine(ht _ w M r.1 Y).mono λe w' H=>?_
 obtain⟨g',ob',hs,hst,hle,I,H⟩:=H;cases e with
 |returned v=>
  obtain⟨s,hs1,rfl,d,e1,hq⟩:=H;cases e1;obtain⟨gn,y,U,J⟩:=R.after (obc:=[]) (ix:=[]) .nil eF rfl (λi hi=>by cases hi) hs hst hle I (obr:=[]) (ob1:=σ.ob) (obn:=σ.ob) (sl1:=σ.sl) rfl rfl (by
   have:∀l:List Ob,pY l []=some l:=by
    intro l
    induction l with
    |nil=>rfl
    |cons x l W=>simp[pY,W]
   exact this _) rfl
  have k:z8 T σ.ob g w gn w':=⟨U.1,λi b o _=>U.2 i b o (by simp)⟩;obtain⟨h1,h2⟩:=F d hq;show next (a.put o.dst v) w'
  cases z:o.dst with
  |none=>exact hK _ _ _ _ y k (h2 z)
  |some t=>
   obtain⟨e8,e9⟩:=h1 t z;exact hK _ _ _ _ (y.put (s:=.d d) e8 (J (.d d) (.d d) v rfl hs1)) k e9
 |panicked c=>
  obtain⟨v,s,_,_,_,d,e1,_⟩:=H;cases e1
 |outgrown=>exact H.elim
def PQ(c:List Oper)(j i:Nat):Bool:=match jo j c with
 |some o=>o.after.toList.any λe=>cond (Region.binds .any e) (Nat.beq e.on i) false
 |none=>false
abbrev Hd:=List (Nat×Addr×Value)
def Zj(c:Hd)(w:World):Prop:= ∀p∈c,w.cell? p.2.1=some p.2.2
def CHi(i:Nat)(c:Hd)(w:World):Prop:= ∀p∈c,p.1=i->w.cell? p.2.1=some p.2.2
def y6(c:List Oper)(j:Nat)(Hc:Hd):Hd:=Hc.filter λp=> !PQ c j p.1
def YI(P:Program)(c:Array Oper)(Q:Exit->Act->World->Prop):Nat->Hd->Array Bool->Act->World->Prop
 |0,_,listed,a,w=>Region.ready .any c listed=[]/\Q .normal a w
 |fuel+1,b,listed,a,w=>
  (Region.ready .any c listed=[]->Q .normal a w)/\
  ∀i∈Region.ready .any c listed,wpOp P c Q i (λU k=>Zj (y6 c.toList i b) k/\YI P c Q fuel (y6 c.toList i b) (listed.setIfInBounds i true) U k) a w
theorem Qq{P:Program}{c:Array Oper}{Q:Exit->Act->World->Prop}:∀(fuel:Nat) (b:Hd) (listed:Array Bool) (a:Act) (w:World),YI P c Q fuel b listed a w->wpAny P .any c Q fuel listed a w
 |0,_,_,_,_,h=>h
 |fuel+1,b,listed,_,_,h=>⟨h.1,λi k=>wpOp_mono (λU e j=>Qq fuel _ _ U e j.2) (h.2 i k)⟩
theorem ER{P:Program}{c:Array Oper}{Q:Exit->Act->World->Prop}:∀(fuel:Nat) (e b:Hd) (listed:Array Bool) (a:Act) (w:World),(∀ p∈e,p∈b)->YI P c Q fuel b listed a w->YI P c Q fuel e listed a w
 |0,_,_,_,_,_,_,h=>h
 |fuel+1,e,b,listed,_,_,q,h=>⟨h.1,λi r=>wpOp_mono (λs x j=>by
  have U:∀p∈y6 c.toList i e,p∈y6 c.toList i b:=λp k=>by
   unfold y6 at k ⊢;rw[ee] at k ⊢;exact⟨q p k.1,k.2⟩
  exact⟨λp k=>j.1 p (U p k),ER fuel _ _ _ s x U j.2⟩) (h.2 i r)⟩
def Yields(P:Program)(c:Array Oper)(i:Nat)(e:Hd)(o:Oper)(v:Value)(a:Act):Prop:=
 (Region.wanted o (yielded c a.tmps)=true/\∀w,CHi i e w->(execOp a.eval o).run P w=.ok (.value v) w)\/(Region.wanted o (yielded c a.tmps)=false/\v=undef)
theorem Yields.of_same(h:Yields P c i j o v a)(q:execOp e.eval o=execOp a.eval o)
 (r:Region.wanted o (yielded c e.tmps)=Region.wanted o (yielded c a.tmps)):Yields P c i j o v e:=by
 unfold Yields at *;rw[q,r];exact h
theorem Yields.y6{P:Program}{c:Array Oper}{i j:Nat}{q:Hd}{o:Oper}{v:Value}{a:Act}(h:Yields P c i q o v a)(r:PQ c.toList j i=false):Yields P c i (y6 c.toList j q) o v a:=by
 refine h.imp (λ⟨b,k⟩=>⟨b,λw U=>k w λp s e=>U p ?_ e⟩) (λh=>h);unfold Vd.y6;rw[ee];exact⟨s,by rw[e,r];rfl⟩
theorem Yields.op(j:c[i]? =some o)(q:Yields P c i e o v a)(r:Zj e w)(h:K (a.put o.dst v) w):
 wpOp P c Q i K a w:=by
 unfold wpOp;simp only[j];rcases q with⟨b,k⟩|⟨b,rfl⟩
 .rw [if_pos b];left;unfold Oper.wp;rw[k w (λp U _=>r p U)];exact h
 .rw [if_neg (by simp[b])];exact h
theorem wpOp_put(V:∀c (a:Act) v w,Q (.panic c) (a.put s.dst v) w->Q (.panic c) a w)(hj:q[j]? =some y)(I:s.apart q y=true)
 (z:∀cs b,s.op≠ .select cs b) (G:∀cs b,y.op≠ .select cs b)
 (W:Yields P q i F s v a) (h:wpOp P q Q j K (a.put s.dst v) w):
 wpOp P q Q j (λY J=>Yields P q i F s v Y/\K (Y.put s.dst v) J) a w:=by
 obtain⟨M,C,H⟩:=Oper.apart_spec I;have k:∀u,Yields P q i F s v (a.put y.dst u):=λu=>W.of_same (execOp_put s z a y.dst u H) (wanted_put s a y.dst u H)
 have U:∀d u,Yields P q i F s v (({ a with defers:=d::a.defers }:Act).put y.dst u):=λd u=>by
  have hb:Yields P q i F s v ({ a with defers:=d::a.defers }:Act):=W.of_same (execOp_congr s z λx _=>by cases x<;>rfl) rfl;exact hb.of_same (execOp_put s z _ y.dst u H) (wanted_put s _ y.dst u H)
 unfold wpOp at*
 simp only[hj] at*
 rw[wanted_put y a s.dst v M] at h;split
 .rename_i hw;simp only[hw,if_true] at h;rcases h with h|h
  .left;unfold Oper.wp at*
   rw[execOp_put y G a s.dst v M] at h;generalize(execOp a.eval y).run P w=r at*
   cases r with
   |ok n J=>
    cases n<;>simp only[Oper.upon] at h ⊢
    case value u=>exact⟨k u,by rw[<- Act.put_comm a v u C];exact h⟩
    case skip=>exact⟨k _,by rw[<- Act.put_comm a v undef C];exact h⟩
    case enter f args=>
     refine h.mono λe R S=>?_
     cases e with
     |returned u=>exact⟨k u,by rw[<- Act.put_comm a v u C];exact S⟩
     |panicked c=>exact V _ _ _ _ S
     |outgrown=>exact S
    case defer d=>
     refine⟨U d _,?_⟩;rw[<- Act.put_comm _ v undef C,<-Act.put_defers];exact h
    case row r args=>exact Rows.mono h λu R hu=>⟨k u,by rw[<- Act.put_comm a v u C];exact hu⟩
   |halt x J=>
    cases x<;>simp only[Oper.upon] at h ⊢;exact V _ _ _ _ h
  .right;obtain⟨hh,hl⟩:=h;refine⟨?_,hl⟩;unfold Oper.asks at*
   rw[execOp_put y G a s.dst v M] at hh;exact hh
 .rename_i hw;simp only[hw] at h;exact⟨k _,by rw[<- Act.put_comm a v undef C];exact h⟩
theorem Cj(hQ:∀c (a:Act) v w,Q (.panic c) (a.put I.dst v) w->Q (.panic c) a w)(hi:q[i]? =some I)
 (C:∀(j:Nat) (o:Oper) cs b,q[j]? =some o->o.op≠ .select cs b):
 ∀(fuel:Nat) (x:Hd) (listed:Array Bool) (a:Act) (w:World),
  (∀ (j:Nat) (J:Oper),q[j]? =some J->j≠i->listed.getD j true=false->(∀ e∈J.after,Region.binds .any e=true->e.on≠i)->I.apart q J=true)->
  i∈Region.ready .any q listed->Yields P q i x I v a->Zj x w->
  YI P q Q fuel x (listed.setIfInBounds i true) (a.put I.dst v) w->YI P q Q (fuel+1) x listed a w:=by
 intro fuel;have r:∀(x:Hd) (j:Nat) p,p∈y6 q.toList j x->p∈x:=λx j p S=>by unfold y6 at S;exact(ee.1 S).1
 induction fuel with
 |zero=>
  intro x listed a w _ M hy V H;refine⟨λh=>(by rw[h] at M;cases M),λj hj=>?_⟩;by_cases U:j=i
  .subst U;exact hy.op hi V ⟨λp S=>V p (r _ _ p S),H⟩
  .have:=ready_mono hj U;rw[H.1] at this;cases this
 |succ fuel ih=>
  intro x listed a w s M hy V H;refine⟨λh=>(by rw[h] at M;cases M),λj hj=>?_⟩;by_cases U:j=i
  .subst U;exact hy.op hi V ⟨λp S=>V p (r _ _ p S),ER _ _ _ _ _ _ (r _ _) H⟩
  .have R:=H.2 j (ready_mono hj U);obtain⟨F,J,y,W⟩:=mem_ready.1 hj;have G:∀e∈J.after,Region.binds .any e=true->e.on≠i:=λe he hb heq=>by
    have R:=W e he hb;have h0:=(mem_ready.1 M).1;rw[heq] at R;rcases bV i listed.size with h'|h'
    .simp [h'] at h0 R;rw[h0] at R;cases R
    .simp [eC h'] at R
   have Y:PQ q.toList j i=false:=by
    unfold PQ;split
    .rename_i o ho;have ho2:=iS ho;have ho3:q[j]? =some o:=by simpa using ho2
     rw[y] at ho3;cases ho3;rw[List.any_eq_false];intro e he;cases hb:Region.binds .any e with
     |false=>simp
     |true=>simpa using G e (by simpa using he) hb
    .rfl
   have h2:=wpOp_put hQ y (s j J y U F G) (λcs b=>C i I cs b hi) (λcs b=>C j J cs b y) hy R;have z:∀(k:Nat) (ok:Oper),q[k]? =some ok->k≠i->(listed.setIfInBounds j true).getD k true=false->
    (∀ e∈ok.after,Region.binds .any e=true->e.on≠i)->I.apart q ok=true:=λk ok hk hki hun hno=>by
    refine s k ok hk hki ?_ hno;by_cases hjk:j=k
    .subst hjk;exact F
    .rw [getD_set_ne true hjk] at hun;exact hun
   refine wpOp_mono (λa' w' h3=>⟨h3.2.1,ih _ (listed.setIfInBounds j true) a' w' z (ready_mono M (bd U)) (h3.1.y6 Y) h3.2.1 ?_⟩) h2;rw[Array.setIfInBounds_comm _ _ U];exact h3.2.2
def Gm(t:Nat->Bool):List (Nat×Nat)->List Ob->Bool
 |[],_=>true
 |p::r,ob=> !(t p.2)&&(match jo p.2 ob with|some (.cells _ _)=>true|_=>false)&&Gm t r ob
theorem xg{t:Nat->Bool}{e:List Ob}:∀{L:List (Nat×Nat)},Gm t L e=true->∀p∈L,t p.2=false/\∃c ty,jo p.2 e=some (.cells c ty)
 |q::r,h,p,hp=>by
  simp only[Gm,bY,Bool.not_eq_true'] at h;rcases bh.1 hp with rfl|hp
  .refine ⟨h.1.1,?_⟩;have b:=h.1.2;split at b
   .exact ⟨_,_,by assumption⟩
   .cases b
  .exact xg h.2 p hp
theorem Gp(h:Gm (λ_=>false) L e=true):∀p∈L,¬(λ_:Nat=>False) p.2/\∃c ty,jo p.2 e=some (.cells c ty):=λp b=>⟨λh=>h,(xg h p b).2⟩
theorem Gn(h:Gm (λj=>Nat.beq j i) L q=true):∀p∈L,¬(λj=>j=i) p.2/\∃c ty,jo p.2 q=some (.cells c ty):=λp b=>
 ⟨λe=>(by have:=(xg h p b).1;simp only[e] at this;simp at this),(xg h p b).2⟩
theorem DT(h:Gm (uw i) L q=true):∀p∈L,¬(λj=>j∈i) p.2/\∃c ty,jo p.2 q=some (.cells c ty):=λp b=>
 ⟨λe=>(by have:=(xg h p b).1;rw[xd.2 e] at this;cases this),(xg h p b).2⟩
def RT(g:Gh)(L:List (Nat×Nat))(c:Hd):Prop:=
 ∀p∈c,p.2.1.spot=none/\(g.m p.2.1.block p.2.1.off=some p.2.2\/∃k b,(p.1,k)∈L/\g.gs[k]? =some (.loc b)/\p.2.1.block=b)
def Ea(i:Nat):List Nat->List (Nat×Nat)->Option (List (Nat×Nat))
 |[],L=>some L
 |k::r,L=>(Ea i r L).bind λl=>some ((i,k)::l)
theorem KY{i:Nat}:∀{r:List Nat} {L l:List (Nat×Nat)},Ea i r L=some l->(∀ k∈r,(i,k)∈l)/\∀p∈L,p∈l
 |[],L,l,h=>by simp[Ea] at h;subst h;simp
 |k::r,L,l,h=>by
  simp only[Ea,ai,an] at h;obtain⟨e,U,rfl⟩:=h;have b:=KY U;exact⟨λj hj=>by rcases bh.1 hj with rfl|hj;exact bC;exact bB _ (b.1 j hj),λp c=>bB _ (b.2 p c)⟩
def uh(c:List Oper)(j:Nat):List (Nat×Nat)->Option (List (Nat×Nat))
 |[]=>some []
 |p::r=>(uh c j r).bind λl=>cond (PQ c j p.1) (some l) (some (p::l))
theorem Db{c:List Oper}{j:Nat}:∀{L l:List (Nat×Nat)},uh c j L=some l->∀p∈L,PQ c j p.1=false->p∈l
 |[],l,h,p,hp,_=>by cases hp
 |q::r,l,h,p,hp,hd=>by
  simp only[uh,ai] at h;obtain⟨e,k,b⟩:=h;cases U:PQ c j q.1<;>rw[U] at b<;>simp at b<;>subst b
  .rcases bh.1 hp with rfl|hp
   .exact bC
   .exact bB _ (Db k p hp hd)
  .rcases bh.1 hp with rfl|hp
   .rw [U] at hd;cases hd
   .exact Db k p hp hd
def iW(P:Program)(h:Nat->List D)(i:Nat)(Pn:jO)(l:List Oper)(e:Nat)(c:Array Bool)(L:List (Nat×Nat))(Q:Ex->St->Prop)(σ:St):Prop:=
 ∀B:Bs,B.n0=i->∀g a w b,jE h B σ g a w->Zj b w->RT g L b->YI P l.toArray (ye h B (Pn.dr l) Q) e b c a w
theorem V4{l:List Oper}{i:Nat}{t:Nat}(h:l[i]? =some o)(c:o.dst=some t):GF t l=true:=by
 induction l generalizing i with
 |nil=>simp at h
 |cons a r b=>
  unfold GF;cases i with
  |zero=>simp at h;subst h;rw[c];simp
  |succ i=>rw[b (by simpa using h)];simp
theorem CX{j:Nat->List D}{Pn:jO}{B:Bs}{Q:Ex->St->Prop}{l:List Oper}{i:Nat}{o:Oper}(q:l[i]? =some o):∀c (a:Act) v w,ye j B (Pn.dr l) Q (.panic c) (a.put o.dst v) w->ye j B (Pn.dr l) Q (.panic c) a w:=by
 intro c a v w h;rcases h with h|⟨k,g,sl,ob,x,s,U,r,y,z,C,F⟩
 .exact h.elim
 .refine .inr ⟨by cases hd:o.dst<;>rw[hd] at k<;>exact k,g,rQ l sl,ob,x,s,U,r,y,z,λt=>?_,?_⟩
  .rw [Dk];split
   .trivial
   .rename_i G;have:=C t;cases hd:o.dst with
    |none=>rw[hd] at this;exact this
    |some d=>
     rw[hd] at this;have b:d≠t:=λe=>G (by subst e;exact V4 q hd)
     have H:(a.put (some d) v).tmps.getD t undef=a.tmps.getD t undef:=by
      simp only[Act.put];rw[dQ,dQ,fu b]
     rwa [H] at this
  .show Pn.pn s (rQ l (rQ l sl)) ob;rw[GG];exact F
theorem Vb:∀e a w,ye i B (Pn.dr l) Q e a w->ye i B Pn Q e a w:=by
 intro e a w h;cases e with
 |normal=>exact h
 |exit j=>exact h
 |goto l=>exact h
 |ret=>exact .inr (h.resolve_left id)
 |panic c=>
  rcases h with h|⟨b,g,sl,ob,x,s,k,U,q,r,y,z⟩
  .exact h.elim
  .refine .inr ⟨b,g,rQ l sl,ob,x,s,k,U,q,r,λt=>?_,z⟩;rw[Dk];split
   .trivial
   .exact y t
 |outgrown=>exact h
theorem I8{id:Nat}(r:P.follows .mixedOrders=true)(s:l.length=e)(x:Array.replicate e false=c)(h:iW P j q Pn l e c [] Q σ):iK P j q Pn (.region id l.toArray true) Q σ:=λB y a w ⟨g,b⟩=>by
 subst s x;refine wp_mono (Q:=ye j B (Pn.dr l) Q) ?_ Vb;refine wp_region_any r ?_;have k:jE j B σ g a { w with drawn:=w.drawn+1 }:=⟨b.defers,b.size,b.j9,⟨b.store.len,λi o p z C=>by have:=b.store.qM i o p z C;cases o<;>cases p<;>first|exact this|exact⟨this.2.2 g.m g.m w _ (pV.refl _) (λ_ _=>rfl) (λ_ _ _ h=>h) this.1,this.2.1,this.2.2⟩,b.store.th,b.store.xk,b.store.sat,b.store.Pe⟩,
  ⟨⟨b.pG.fr.os,b.pG.fr.tape,b.pG.fr.output,b.pG.fr.size,b.pG.fr.block⟩,b.pG.mem,b.pG.new,b.pG.own,b.pG.at'⟩⟩
 have:=h B y g a _ [] k (λp U=>by cases U) (λp U=>by cases U)
 simpa using Qq _ _ _ _ _ this
theorem KF(h:iW P i j q l e c [] Q σ)(s:l.length=e:=by exact rfl)(x:Array.replicate e false=c:=by exact rfl)(hm:P.follows .mixedOrders=true:=by omega):iK P i j q (.region r l.toArray true) Q σ:=I8 hm s x h
theorem zU{n0:Nat}{l:List Oper}{fuel t:Nat}{L:List (Nat×Nat)}{n:Nat}{J:List (Nat×SV)}{M:List Ob}(i)(ho:l[i]? =some o)(hw:∀B g a w,jE I B ⟨n,J,M⟩ g a w->Region.wanted o (yielded l.toArray a.tmps)=true)(hd:o.dst=some t)(ht:Nat.blt t n=true)
 (hb:((Region.ready .any l.toArray c).contains i&&Region.free .any l.toArray c i&&Region.noSelect l.toArray)=true) (hl:c.setIfInBounds i true=e)
 (h:ik P I o ⟨n,J,M⟩ λs L'=> ∃L2,Ea i L' L=some L2/\iW P I n0 Pn l fuel e L2 Q ⟨n,(t,s)::J,M⟩):iW P I n0 Pn l (fuel+1) c L Q ⟨n,J,M⟩:=λB hB g a w R S hc r=>by
 subst hl;simp only[bY] at hb;obtain⟨⟨U,x⟩,z⟩:=hb;have C:l.toArray[i]? =some o:=by simpa using ho
 obtain⟨Hi,s,y,L',F,V,hh,G,L2,W,hk⟩:=h B g a w S;have H:=KY W;have j:Zj (Hi.map (λp=>(i,p))++R) w:=λp hp=>(bn.1 hp).elim (λhp=>by
  obtain⟨q,Y,rfl⟩:=bD.1 hp;exact V q Y) (hc p)
 have hh2:RT g L2 (Hi.map (λp=>(i,p))++R):=λp hp=>by
  rcases bn.1 hp with hp|hp
  .obtain ⟨q,Y,rfl⟩:=bD.1 hp;obtain⟨h1,h2⟩:=hh q Y;exact⟨h1,h2.imp (λh=>h) λ⟨k,b,e1,e2⟩=>⟨k,b,H.1 k e1,e2⟩⟩
  .obtain ⟨h1,h2⟩:=r p hp;exact⟨h1,h2.imp (λh=>h) λ⟨k,b,e1,e2⟩=>⟨k,b,H.2 _ e1,e2⟩⟩
 refine ER _ _ (Hi.map (λp=>(i,p))++R) _ _ _ (λp hp=>bn.2 (.inr hp)) ?_;refine Cj (CX ho) C (Region.noSelect_spec z) fuel _ c a w (Region.free_spec C x) (by simpa using U) (v:=y) (.inl ⟨hw B g a w S,λw' hc'=>F w' (λp hp=>hc' (i,p) (bn.2 (.inl (bD.2 ⟨p,hp,rfl⟩))) rfl)⟩) j ?_;rw[hd];exact hk B hB g _ w _ (S.put ht G) j hh2
theorem Wq(i)(C:l[i]? =some o)(F:o.guard=none)(G:o.dst=some t)(H:Nat.blt t n=true)
 (I:((Region.ready .any l.toArray c).contains i&&Region.free .any l.toArray c i&&Region.noSelect l.toArray)=true) (J:c.setIfInBounds i true=e)
 (h:ik P q o ⟨n,r,x⟩ λs b=> ∃L2,Ea i b L=some L2/\iW P q y z l j e L2 Q ⟨n,(t,s)::r,x⟩):iW P q y z l (j+1) c L Q ⟨n,r,x⟩:=
 zU i C (λB g a w k=>by simp[Region.wanted,F]) G H I J h
theorem A1(i)(C:l[i]? =some o)(h:ik P q o ⟨n,r,x⟩ λs b=> ∃L2,Ea i b L=some L2/\iW P q y z l j e L2 Q ⟨n,(t,s)::r,x⟩)(F:o.guard=none:=by exact rfl)(G:o.dst=some t:=by exact rfl)(H:Nat.blt t n=true:=by exact rfl)(hb:((Region.ready .any l.toArray c).contains i&&Region.free .any l.toArray c i&&Region.noSelect l.toArray)=true:=by kernel_rfl)(I:c.setIfInBounds i true=e:=by exact rfl):iW P q y z l (j+1) c L Q ⟨n,r,x⟩:=Wq i C F G H hb I h
theorem tp{h:Nat->List D}{B:Bs}{n:Nat}{e:List (Nat×SV)}{i:List Ob}{g:Gh}{a:Act}{w:World}{l:List Oper}{o:Oper}{j y:Nat}{c z:Bool}(q:jE h B ⟨n,e,i⟩ g a w)(r:o.guard=some (j,c))(s:rf l j=some y)(x:oV y e=some (fH z)):
 Region.wanted o (yielded l.toArray a.tmps)=(z==c):=by
 have k:a.tmps.getD y undef=.bool z:=by have:=q.j9 y;rw[ou x] at this;exact this
 exact Ck r (by simpa using s) k
theorem Qc(i)(H:l[i]? =some o)(I:o.guard=some (j,r))(J:rf l j=some W)(x:oV W y=some (fH r))(M:o.dst=some t)(R:Nat.blt t n=true)
 (S:((Region.ready .any l.toArray c).contains i&&Region.free .any l.toArray c i&&Region.noSelect l.toArray)=true) (V:c.setIfInBounds i true=e)
 (h:ik P z o ⟨n,y,C⟩ λs b=> ∃L2,Ea i b L=some L2/\iW P z F G l q e L2 Q ⟨n,(t,s)::y,C⟩):iW P z F G l (q+1) c L Q ⟨n,y,C⟩:=
 zU i H (λB g a w k=>by rw[tp k I J x];simp) M R S V h
theorem A6(i)(G:l[i]? =some o)(h:ik P y o ⟨n,x,z⟩ λs b=> ∃L2,Ea i b L=some L2/\iW P y C F l q e L2 Q ⟨n,(t,s)::x,z⟩)(H:o.guard=some (j,r):=by exact rfl)(I:rf l j=some V:=by exact rfl)(J:o.dst=some t:=by exact rfl)(hlit:oV V x=some (fH r):=by exact rfl)(M:Nat.blt t n=true:=by exact rfl)(R:((Region.ready .any l.toArray c).contains i&&Region.free .any l.toArray c i&&Region.noSelect l.toArray)=true:=by kernel_rfl)(S:c.setIfInBounds i true=e:=by exact rfl):iW P y C F l (q+1) c L Q ⟨n,x,z⟩:=Qc i G H I hlit J M R S h
theorem TF{P:Program}{G:Nat->List D}{H:Nat}{I:jO}{l:List Oper}{q t:Nat}{c e:Array Bool}{L:List (Nat×Nat)}{Q:Ex->St->Prop}{n:Nat}{z:List (Nat×SV)}{J:List Ob}(i){o:Oper}{j d:Nat}{r:Bool}(M:l[i]? =some o)(R:o.guard=some (j,r))(S:rf l j=some d)(hlit:oV d z=some (fH (!r))\/oV d z=some (.d (.v undef)))(Y:o.dst=some t)(ht:Nat.blt t n=true)
 (V:((Region.ready .any l.toArray c).contains i&&Region.free .any l.toArray c i&&Region.noSelect l.toArray)=true) (hl:c.setIfInBounds i true=e)
 (h:iW P G H I l q e L Q ⟨n,(t,.d (.v undef))::z,J⟩):iW P G H I l (q+1) c L Q ⟨n,z,J⟩:=λB hB g a w Hc C W k=>by
 subst hl;simp only[bY] at V;obtain⟨⟨b,U⟩,x⟩:=V;have y:l.toArray[i]? =some o:=by simpa using M
 have hw:Region.wanted o (yielded l.toArray a.tmps)=false:=by
  rcases hlit with hlit|hlit
  .rw [tp C R S hlit];cases r<;>rfl
  .have F:a.tmps.getD d undef=undef:=by have:=C.j9 d;rw[ou hlit] at this;exact this
   exact xv R (by simpa using S) (t:= #[]) (by rw[F];rfl)
 refine Cj (CX M) y (Region.noSelect_spec x) q _ c a w (Region.free_spec y U) (by simpa using b) (v:=undef) (.inr ⟨hw,rfl⟩) W ?_;rw[Y];exact h B hB g _ w _ (C.wQ (s:=.d (.v undef)) ht rfl) W k
theorem A7(i)(F:l[i]? =some o)(h:iW P x y z l q e L Q ⟨n,(t,.d (.v undef))::s,C⟩)(G:o.guard=some (j,r):=by exact rfl)(H:rf l j=some S:=by exact rfl)(I:o.dst=some t:=by exact rfl)(J:Nat.blt t n=true:=by exact rfl)(M:((Region.ready .any l.toArray c).contains i&&Region.free .any l.toArray c i&&Region.noSelect l.toArray)=true:=by kernel_rfl)(R:c.setIfInBounds i true=e:=by exact rfl)(hlit:oV S s=some (fH (!r))\/oV S s=some (.d (.v undef)):=by omega):iW P x y z l (q+1) c L Q ⟨n,s,C⟩:=TF i F G H hlit I J M R h
theorem Jb(H)(C:oV H h=some (fH I))
 (F:I=true->iW P i j q l e c L Q ⟨n,(H,fH true)::h,r⟩) (G:I=false->iW P i j q l e c L Q ⟨n,(H,fH false)::h,r⟩):iW P i j q l e c L Q ⟨n,h,r⟩:=λB s g a w x U y z=>by
 have k:a.tmps.getD H undef=.bool I:=by have:=U.j9 H;rw[ou C] at this;exact this
 cases I with
 |true=>exact F rfl B s g a w x (U.known (t:=H) k) y z
 |false=>exact G rfl B s g a w x (U.known (t:=H) k) y z
def jH(P:Program)(h:Nat->List D)(j:Nat)(Pn:jO)(l:List Oper)(e:Nat)(c:Array Bool)(L:List (Nat×Nat))(Q:Ex->St->Prop)(σ:St)(i:Nat):Prop:=
 ∀B:Bs,B.n0=j->∀g a w b,jE h B σ g a w->Zj b w->RT g L b->
  wpOp P l.toArray (ye h B (Pn.dr l) Q) i (λU k=>Zj (y6 l i b) k/\YI P l.toArray (ye h B (Pn.dr l) Q) e (y6 l i b) (c.setIfInBounds i true) U k) a w
def Nv(p:Nat->Prop):List Nat->Prop
 |[]=>True
 |i::r=>p i/\Nv p r
theorem Nv.mem{p:Nat->Prop}:∀{l:List Nat},Nv p l->∀i∈l,p i
 |[],_,i,h=>by cases h
 |j::r,h,i,hi=>by
  rcases bh.1 hi with rfl|hi
  .exact h.1
  .exact h.2.mem i hi
theorem ki(j:Region.ready .any l.toArray c=rs)(q:rs.isEmpty=false)(h:Nv (jH P r s x l i c L Q σ) rs):iW P r s x l (i+1) c L Q σ:=λB U g a w y z C F=>by
 refine⟨λe=>?_,λk b=>?_⟩
 .rw [j] at e;subst e;cases q
 .rw [j] at b;exact h.mem k b B U g a w y z C F
theorem Cb(i)(ho:l[i]? =some o)(hw:∀B g a w,jE M B σ g a w->Region.wanted o (yielded l.toArray a.tmps)=true)(hl:r.setIfInBounds i true=e)
 (hf:uh l i L=some H) (hL:∀p∈H,¬T p.2/\∃c ty,jo p.2 σ.ob=some (.cells c ty))
 (h:jI P M V (Pn.dr l) T o σ λσ'=>iW P M V Pn l y e H Q σ'):jH P M V Pn l y r L Q σ i:=λB hB g a w R W hc hh=>by
 subst hl;have Y:l.toArray[i]? =some o:=by simpa using ho
 unfold wpOp;simp only[Y,hw B g a w W,if_true];left;have z:∀p∈y6 l i R,p∈R/\∀q,(p.1,q)∈L->(p.1,q)∈H:=λp C=>by
  unfold y6 at C;obtain⟨G,F⟩:=ee.1 C;exact⟨G,λq hq=>Db hf _ hq (by simpa using F)⟩
 refine h B hB g a w W _ _ (λσ' g' a' w' I k hk=>?_) (λc w' C=>.inr ⟨W.defers,C⟩);have J:Zj (y6 l i R) w':=λp C=>by
  obtain⟨x,U⟩:=z p C;obtain⟨G,F⟩:=hh p x;have s:=hc p x;obtain⟨pi,⟨pb,po,ps⟩,pv⟩:=p;simp only at G F s U ⊢;subst G;rcases F with F|⟨j,b,S,e2,e3⟩
  .exact (I.store.sat _ _ _ (k.1 _ _ _ F)).1
  .obtain ⟨f1,c,ty,f2⟩:=hL _ (U j S);obtain⟨_,f4⟩:=k.2 j b _ f1 (iS f2) e2 rfl;subst e3;rw[World.cell?_of_block (w:=w) f4];exact s
 have hh':RT g' H (y6 l i R):=λp C=>by
  obtain⟨x,U⟩:=z p C;obtain⟨G,F⟩:=hh p x;refine⟨G,F.imp (k.1 _ _ _) λ⟨j,b,S,e2,e3⟩=>?_⟩;obtain⟨f1,c,ty,f2⟩:=hL _ (U j S);exact⟨j,b,U j S,(k.2 j b _ f1 (iS f2) e2 rfl).1,e3⟩
 exact⟨by simpa using J,by simpa using hk B hB g' a' w' _ I J hh'⟩
theorem Ja(i)(z:l[i]? =some o)(C:∀B g a w,jE r B σ g a w->Region.wanted o (yielded l.toArray a.tmps)=true)(y:Region.ready .any l.toArray e=[i])(F:e.setIfInBounds i true=j)
 (G:uh l i L=some x) (H:∀p∈x,¬T p.2/\∃c ty,jo p.2 σ.ob=some (.cells c ty))
 (h:jI P r s (Pn.dr l) T o σ λb=>iW P r s Pn l q j x Q b):iW P r s Pn l (q+1) e L Q σ:=
 ki y rfl ⟨Cb i z C F G H h,trivial⟩
theorem aeb(i)(y:l[i]? =some o)(z:o.guard=none)(C:j.setIfInBounds i true=e)
 (F:uh l i L=some x) (G:∀p∈x,¬T p.2/\∃c ty,jo p.2 σ.ob=some (.cells c ty))
 (h:jI P r s (Pn.dr l) T o σ λb=>iW P r s Pn l q e x Q b):jH P r s Pn l q j L Q σ i:=
 Cb i y (λB g a w k=>by simp[Region.wanted,z]) C F G h
theorem A4(i)(y:l[i]? =some o)(h:jI P r s (Pn.dr l) T o σ λb=>iW P r s Pn l q e x Q b)(z:o.guard=none:=by exact rfl)(C:j.setIfInBounds i true=e:=by exact rfl)(F:uh l i L=some x:=by exact rfl)(G:∀p∈x,¬T p.2/\∃c ty,jo p.2 σ.ob=some (.cells c ty):=by first|exact Gp rfl|exact Gn rfl|exact DT rfl):jH P r s Pn l q j L Q σ i:=aeb i y z C F G h
theorem TE(i)(H:l[i]? =some o)(I:o.guard=some (j,s))(J:rf l j=some V)(x:oV V F=some (fH s))(M:q.setIfInBounds i true=e)
 (R:uh l i L=some C) (S:∀p∈C,¬T p.2/\∃c ty,jo p.2 G=some (.cells c ty))
 (h:jI P y z (Pn.dr l) T o ⟨n,F,G⟩ λb=>iW P y z Pn l r e C Q b):jH P y z Pn l r q L Q ⟨n,F,G⟩ i:=
 Cb i H (λB g a w k=>by rw[tp k I J x];simp) M R S h
theorem A5(i)(H:l[i]? =some o)(h:jI P y z (Pn.dr l) T o ⟨n,F,G⟩ λb=>iW P y z Pn l r e C Q b)(I:o.guard=some (j,s):=by exact rfl)(J:rf l j=some V:=by exact rfl)(x:oV V F=some (fH s):=by exact rfl)(M:q.setIfInBounds i true=e:=by exact rfl)(R:uh l i L=some C:=by exact rfl)(S:∀p∈C,¬T p.2/\∃c ty,jo p.2 G=some (.cells c ty):=by first|exact Gp rfl|exact Gn rfl|exact DT rfl):jH P y z Pn l r q L Q ⟨n,F,G⟩ i:=TE i H I J x M R S h
theorem KC(i)(z:l[i]? =some o)(C:o.guard=none)(y:Region.ready .any l.toArray e=[i])(F:e.setIfInBounds i true=j)
 (G:uh l i L=some x) (H:∀p∈x,¬T p.2/\∃c ty,jo p.2 σ.ob=some (.cells c ty))
 (h:jI P r s (Pn.dr l) T o σ λb=>iW P r s Pn l q j x Q b):iW P r s Pn l (q+1) e L Q σ:=
 Ja i z (λB g a w k=>by simp[Region.wanted,C]) y F G H h
theorem A2(i)(z:l[i]? =some o)(h:jI P r s (Pn.dr l) T o σ λb=>iW P r s Pn l q j x Q b)(C:o.guard=none:=by exact rfl)(y:Region.ready .any l.toArray e=[i]:=by kernel_rfl)(F:e.setIfInBounds i true=j:=by exact rfl)(G:uh l i L=some x:=by exact rfl)(H:∀p∈x,¬T p.2/\∃c ty,jo p.2 σ.ob=some (.cells c ty):=by first|exact Gp rfl|exact Gn rfl|exact DT rfl):iW P r s Pn l (q+1) e L Q σ:=KC i z C y F G H h
theorem Qb(i)(I:l[i]? =some o)(J:o.guard=some (j,s))(M:rf l j=some W)(x:oV W F=some (fH s))(H:Region.ready .any l.toArray e=[i])(R:e.setIfInBounds i true=q)
 (S:uh l i L=some C) (V:∀p∈C,¬T p.2/\∃c ty,jo p.2 G=some (.cells c ty))
 (h:jI P y z (Pn.dr l) T o ⟨n,F,G⟩ λb=>iW P y z Pn l r q C Q b):iW P y z Pn l (r+1) e L Q ⟨n,F,G⟩:=
 Ja i I (λB g a w k=>by rw[tp k J M x];simp) H R S V h
theorem A3(i)(I:l[i]? =some o)(h:jI P y z (Pn.dr l) T o ⟨n,F,G⟩ λb=>iW P y z Pn l r q C Q b)(J:o.guard=some (j,s):=by exact rfl)(M:rf l j=some W:=by exact rfl)(x:oV W F=some (fH s):=by exact rfl)(H:Region.ready .any l.toArray e=[i]:=by kernel_rfl)(R:e.setIfInBounds i true=q:=by exact rfl)(S:uh l i L=some C:=by exact rfl)(V:∀p∈C,¬T p.2/\∃c ty,jo p.2 G=some (.cells c ty):=by first|exact Gp rfl|exact Gn rfl|exact DT rfl):iW P y z Pn l (r+1) e L Q ⟨n,F,G⟩:=Qb i I J M x H R S V h
theorem RL(j:Region.ready .any l.toArray c=[])(h:Q .normal σ):iW P q r s l e c L Q σ:=λB U g a w x b y z=>by
 cases e with
 |zero=>exact⟨j,σ,⟨g,b⟩,h⟩
 |succ n=>exact⟨λ_=>⟨σ,⟨g,b⟩,h⟩,λi k=>by rw[j] at k;cases k⟩
theorem iB(h:Q .normal σ)(i:Region.ready .any l.toArray c=[]:=by kernel_rfl):iW P j q r l e c L Q σ:=RL i h
theorem LD(C:o.guard=some (j,e))(F:rf i j=some H)(G:oV H q=some (fH I))(r:I=e)
 (h:iL P s x y i ({ o with guard:=none }::c) Q ⟨n,q,z⟩):iL P s x y i (o::c) Q ⟨n,q,z⟩:=by
 subst r;exact wv C F G h
theorem uA{d:Nat}(h:iL P r s x i ({ o with guard:=none }::c) Q ⟨n,q,y⟩)(z:o.guard=some (j,e):=by exact rfl)(C:rf i j=some d:=by exact rfl)(F:oV d q=some (fH G):=by exact rfl)(hbw:G=e:=by omega):iL P r s x i (o::c) Q ⟨n,q,y⟩:=LD z C F hbw h
theorem Xt(F:o.guard=some (j,e))(G:rf i j=some J)(H:oV J r=some (fH M))(s:M= !e)(q:o.dst=some t)(I:Nat.blt t n=true)
 (h:iL P x y z i c Q ⟨n,(t,.d (.v undef))::r,C⟩):iL P x y z i (o::c) Q ⟨n,r,C⟩:=by
 subst s;exact xM F G H q I h
theorem tZ{d:Nat}(h:iL P s x y i c Q ⟨n,(t,.d (.v undef))::r,z⟩)(C:o.guard=some (j,e):=by exact rfl)(F:rf i j=some d:=by exact rfl)(q:o.dst=some t:=by exact rfl)(G:oV d r=some (fH I):=by exact rfl)(H:Nat.blt t n=true:=by exact rfl)(hbw:I= !e:=by omega):iL P s x y i (o::c) Q ⟨n,r,z⟩:=Xt C F G hbw q H h
theorem ov(z v)(x:oV z i=some (fH C))(y:C=v)
 (h:iL P j q r c l Q ⟨n,(z,fH v)::i,s⟩):iL P j q r c l Q ⟨n,i,s⟩:=by
 subst y;cases C with
 |true=>exact Ig z x (λ_=>h) (λe=>by cases e)
 |false=>exact Ig z x (λe=>by cases e) (λ_=>h)
inductive TO (ops:List Oper) (sl:List (Nat×SV)) (o:Oper):Prop
 |none (h:o.guard=none)
 |yes {j d:Nat} {want b:Bool} (hg:o.guard=some (j,want)) (hd:rf ops j=some d) (hb:oV d sl=some (.d (.v (.bool b)))) (hbw:b=want)
def VB(t:Nat):List (Nat×SV)->Bool
 |[]=>false
 |(k,_)::r=>cond (Nat.beq k t) true (VB t r)
def rh:List (Nat×SV)->List (Nat×SV)->Bool
 |[],_=>true
 |(k,_)::r,sl=>cond (VB k sl) false (rh r sl)
theorem Mu{t:Nat}:∀{sl:List (Nat×SV)},VB t sl=false->oV t sl=none
 |[],_=>rfl
 |(k,s)::r,h=>by
  simp only[VB] at h;show cond (Nat.beq k t) (some s) (oV t r)=none;cases b:Nat.beq k t<;>rw[b] at h
  .exact Mu h
  .cases h
theorem qo{t:Nat}{s:SV}:∀{b sl:List (Nat×SV)},rh b sl=true->oV t sl=some s->oV t (b++sl)=some s
 |[],sl,_,h=>h
 |(k,x)::r,sl,hd,h=>by
  simp only[rh] at hd;cases U:VB k sl<;>rw[U] at hd
  .show cond (Nat.beq k t) (some x) (oV t (r++sl))=some s;cases c:Nat.beq k t
   .exact qo hd h
   .have e:k=t:=by simpa using c
    subst e;rw[Mu U] at h;cases h
  .cases hd
theorem Jx{t:Nat}:∀{sl:List (Nat×SV)},vO t sl=(oV t sl).getD .qe
 |[]=>rfl
 |(k,x)::r=>by
  show cond (Nat.beq k t) x (vO t r)=(cond (Nat.beq k t) (some x) (oV t r)).getD .qe;cases Nat.beq k t
  .exact Jx
  .rfl
theorem Bj{t:Nat}{s:SV}:∀{b sl:List (Nat×SV)},oV t b=some s->oV t (b++sl)=some s
 |[],sl,h=>by cases h
 |(k,x)::r,sl,h=>by
  change cond (Nat.beq k t) (some x) (oV t r)=some s at h
  show cond (Nat.beq k t) (some x) (oV t (r++sl))=some s;cases U:Nat.beq k t<;>rw[U] at h
  .exact Bj h
  .exact h
theorem zA(C:rh y i=true)(h:iL P j q r c l Q ⟨n,(t,s)::i,z⟩):iL P j q r c l Q ⟨n,(t,s)::(y++i),z⟩:=λB U a w ⟨g,k⟩=>
 h B U a w ⟨g,k.defers,k.size,λu=>by
  have b:=k.j9 u;show(vO u ((t,s)::i)).Den g _;rw[n5] at b ⊢;split
  .rename_i e;rw[if_pos e] at b;exact b
  .rename_i e;rw[if_neg e] at b;rw[Jx] at b ⊢;cases F:oV u i with
   |none=>trivial
   |some x=>rw[qo C F] at b;exact b,k.store,k.pG⟩
theorem v7(y:TO e i o)(z:rh j i=true)(h:iL P q r s e ({ o with guard:=none }::c) Q ⟨n,j++i,x⟩):iL P q r s e (o::c) Q ⟨n,j++i,x⟩:=by
 cases y with
 |none b=>
  have:({ o with guard:=none }:Oper)=o:=by cases o;simp only at b;subst b;rfl
  rwa [this] at h
 |yes b k U C=>exact LD b k (qo z U) C h
theorem QU{d:Nat}(R)(J:nW R l=some (o::e))(z:oV d i=some (fH M))(C:o.op=.pick (.tmp d) (.tmp yt) (.const (.bool false)))(F:TO c i o)(G:o.dst=some t)(H:Nat.blt t n=true)
 (h1:M=true->(∀ j,rh j i=true->oV yt j=some (fH p)->iL P q r s c (o::e) Q ⟨n,j++i,x⟩)->iL P q r s c l Q ⟨n,i,x⟩)
 (h2:M=false->(∀ j,rh j i=true->iL P q r s c (o::e) Q ⟨n,j++i,x⟩)->iL P q r s c l Q ⟨n,i,x⟩)
 (h:iL P q r s c e Q ⟨n,(t,fH (M&&p))::i,x⟩):iL P q r s c l Q ⟨n,i,x⟩:=by
 cases y:M with
 |true=>
  subst y;refine h1 rfl λj U I=>v7 F U (tB rfl G H (uV C (qo U z) (Bj I) ?_))
  exact zA U (by simpa using h)
 |false=>
  subst y;refine h2 rfl λj U=>v7 F U (tB rfl G H (uW C (qo U z) rfl ?_))
  exact zA U (by simpa using h)
theorem wu{d:Nat}(R)(J:nW R l=some (o::e))(z:oV d i=some (fH M))(C:o.op=.pick (.tmp d) (.const (.bool true)) (.tmp yt))(F:TO c i o)(G:o.dst=some t)(H:Nat.blt t n=true)
 (h1:M=false->(∀ j,rh j i=true->oV yt j=some (fH p)->iL P q r s c (o::e) Q ⟨n,j++i,x⟩)->iL P q r s c l Q ⟨n,i,x⟩)
 (h2:M=true->(∀ j,rh j i=true->iL P q r s c (o::e) Q ⟨n,j++i,x⟩)->iL P q r s c l Q ⟨n,i,x⟩)
 (h:iL P q r s c e Q ⟨n,(t,fH (M||p))::i,x⟩):iL P q r s c l Q ⟨n,i,x⟩:=by
 cases y:M with
 |false=>
  subst y;refine h1 rfl λj U I=>v7 F U (tB rfl G H (uW C (qo U z) (Bj I) ?_))
  exact zA U (by simpa using h)
 |true=>
  subst y;refine h2 rfl λj U=>v7 F U (tB rfl G H (uV C (qo U z) rfl ?_))
  exact zA U (by simpa using h)
def Cc(Q:D->Prop)(c:Out)(e:List Ob):Prop:=e=[]/\∃d,c=.ret (.d d)/\Q d
def jA(P:Program)(c:Nat->List D)(f:FuncId)(args:List D)(Q:D->Prop):Prop:=jT P c f [] (args.map .d) (Cc Q)
theorem oK(G:iA P M=true)(H:o.op=.call { callee:=.value (.func M),args:=args,argTypes:=F })
 (I:GC q r args.toList=some i) (h:o.dst=some t) (x:Nat.blt t n=true) (J:jA P q M c Q) (y:nQ s i (c.map .d)) (j:∀d,Q d->K ⟨n,(t,.d d)::r,s⟩):jI P q z C T o ⟨n,r,s⟩ K:=
 Il (xI G H I) y J λd b=>⟨λk e=>by rw[h] at e;cases e;exact⟨x,j d b⟩,λe=>by rw[h] at e;cases e⟩
theorem iX{f:FuncId}(hc:iA P f=true)(ho:o.op=.call { callee:=.value (.func f),args:=args,argTypes:=Y })
 (ha:GC H G args.toList=some y) (q:o.dst=some t) (I:Nat.blt t n=true) (ht:jT P H f r i Q) (c) (z:jh j c r c) (J:me c=true) (M:nF r=true) (R:qU c j=true) (S:qD c i=some m) (V:nQ j y m)
 (C:∀s ob',Q (.ret s) ob'->∃b k U h x,r6 (names c j.length (ob'.length-c.length)) ob'=some b/\vH c j=some k/\pM c k b=some U/\xW c G=some h/\s.j5 (names c j.length (ob'.length-c.length))=some x/\K ⟨n,(t,x)::h,U⟩)
 (F:∀s ob',Q (.vk s) ob'->∃b k U h x,r6 (names c j.length (ob'.length-c.length)) ob'=some b/\vH c j=some k/\pM c k b=some U/\xW c G=some h/\s.j5 (names c j.length (ob'.length-c.length))=some x/\Pn.pn x h U):jI P H W Pn (· ∈c) o ⟨n,G,j⟩ K:=
 Az ht c (xI hc ho ha) z J M (rM R) S V (λs ob' hq=>by
  obtain⟨b,k,U,h,x,e1,e2,e3,e4,e5,e6⟩:=C s ob' hq;exact⟨b,k,U,h,x,e1,e2,e3,e4,e5,λt' e=>by rw[q] at e;cases e;exact⟨I,e6⟩,λe=>by rw[q] at e;cases e⟩) F
theorem Ss{f:FuncId}(Y:iA P f=true)(ho:o.op=.call { callee:=.value (.func f),args:=args,argTypes:=W })
 (ha:GC H G args.toList=some x) (y:o.dst=none) (ht:jT P H f q i Q) (c) (z:jh j c q c) (I:me c=true) (J:nF q=true) (M:qU c j=true) (R:qD c i=some m) (S:nQ j x m)
 (C:∀s ob',Q (.ret s) ob'->∃b k U h r,r6 (names c j.length (ob'.length-c.length)) ob'=some b/\vH c j=some k/\pM c k b=some U/\xW c G=some h/\s.j5 (names c j.length (ob'.length-c.length))=some r/\K ⟨n,h,U⟩)
 (F:∀s ob',Q (.vk s) ob'->∃b k U h r,r6 (names c j.length (ob'.length-c.length)) ob'=some b/\vH c j=some k/\pM c k b=some U/\xW c G=some h/\s.j5 (names c j.length (ob'.length-c.length))=some r/\Pn.pn r h U):jI P H V Pn (· ∈c) o ⟨n,G,j⟩ K:=
 Az ht c (xI Y ho ha) z I J (rM M) R S (λs ob' hq=>by
  obtain⟨b,k,U,h,r,e1,e2,e3,e4,e5,e6⟩:=C s ob' hq;refine⟨b,k,U,h,r,e1,e2,e3,e4,e5,?_,λ_=>e6⟩;intro t' e;rw[y] at e;cases e) F
theorem pe(h:rv s P σ y l)(ρ i c)(z:pre 0 x ρ=true)(j:me ρ=true)(q:nF c=true)(r:jh σ.ob ρ c ρ)(e:SV.j5 ρ i=some t)(C:Fit σ.ob (ve l) t)(F:Q (.ret i) c):Fin P s x y Q σ:=
 ⟨l,h,ρ,i,c,t,z,j,q,r,e,C,F⟩
theorem tL(h:rv q P σ s l)(x:(ve l).p9=some C)(ρ c)(y:pre 0 r ρ=true)(e:me ρ=true)(i:nF c=true)(j:jh σ.ob ρ c ρ)(z:Q (.ret (.d C)) c):Fin P q r s Q σ:=
 ⟨l,h,ρ,.d C,c,.d C,y,e,i,j,rfl,.p9 x,z⟩
theorem pc(h:rv q P σ r l)(s:(ve l).p9=some z)(c)(x:KK z c)(ρ ob')(y:pre 0 n0 ρ=true)(e:me ρ=true)(i:nF ob'=true)(j:jh σ.ob ρ ob' ρ)(hq:Q (.ret (.d c)) ob'):Fin P q n0 r Q σ:=
 ⟨l,h,ρ,.d c,ob',.d c,y,e,i,j,rfl,.Yh s x,hq⟩
theorem iP(e I)(j:pY z [.jd e I]=some ob')(h:iK P q r s c Q ⟨n,y,ob'⟩):iK P q r s c Q ⟨n,y,z⟩:=λB U a w ⟨g,C⟩=>by
 rw[nM j] at h;obtain⟨h1,_⟩:=C.Eh (w':=w) (Fr.refl _ w) (pV.refl _) (λb o x h1 h2=>by rw[h2] at h1;cases h1) (o':=.jd e I) (pl:=.row none 0 0) rfl (λb F=>by simp[jP,np] at F) (λi f H G e=>by cases e);exact h B U a w ⟨_,h1⟩
def ur:Nat->List SV->Option (List (Nat×SV))
 |_,[]=>some []
 |k,s::r=>(ur (k+1) r).bind λl=>some ((k,s)::l)
theorem wH:∀{k:Nat} {l:List SV} {r:List (Nat×SV)},ur k l=some r->j9 k l=r
 |k,[],r,h=>by simp[ur] at h;subst h;rfl
 |k,s::l,r,h=>by
  simp only[ur,ai,an] at h;obtain⟨U,b,rfl⟩:=h;simp[j9,wH b]
theorem xy(C:P.funcs[I]? =some i)(F:i.body=some c)(r:i.ntmps=n)(s:i.results.toList=y)
 (G:Nat.ble e.length n=true) (x:ur 0 e=some z) (J) (H:q.length=J) (h:iK P j J (YW J Q) c (fin P j J y Q) ⟨n,z,q⟩):jT P j I q e Q:=by
 subst H;exact Dv C F r s (by simpa using G) (by rw[wH x];exact h)
theorem Jr(r:P.funcs[H]? =some j)(F:j.body=some c)(s:j.ntmps=n)(x:j.results.toList=z)
 (G:Nat.ble i.length n=true) (y:ur 0 (i.map .d)=some C) (h:iK P q 0 ⟨λ_ _ _=>False,λ_ _ _ _=>False⟩ c (fin P q 0 z (Cc Q)) ⟨n,C,[]⟩):jA P q H i Q:=by
 refine Dv r F s x (by simpa using G) ?_;rw[wH y];refine λB k a w U=>wp_mono (h B k a w U) λe a w b=>?_
 cases e with
 |panic c=>
  rcases b with b|⟨_,_,_,_,_,_,_,_,_,_,_,r⟩
  .exact b.elim
  .exact r.elim
 |normal=>exact b
 |exit id=>exact b
 |goto l=>exact b
 |ret=>exact b
 |outgrown=>exact b.elim
theorem Y2(h:rv c P σ e l)(i:(ve l).p9=some q)(j:Q q):Fin P c 0 e (Cc Q) σ:=
 ⟨l,h,[],.d q,[],.d q,rfl,rfl,rfl,.nil,rfl,.p9 i,rfl,q,rfl,j⟩
theorem aaf(h:oV t σ.sl=some s)(i:oV u σ.sl=some c)(j:(SV.jj [s,c]).p9=some r)(q:Q r):Fin P e 0 [.tmp t,.tmp u] (Cc Q) σ:=
 Y2 (l:=[s,c]) ⟨s,_,rfl,h,c,[],rfl,i,rfl⟩ j q
theorem aae(h:rv e P σ i l)(j:(ve l).p9=some s)(c)(q:KK s c)(r:Q c):Fin P e 0 i (Cc Q) σ:=
 ⟨l,h,[],.d c,[],.d c,rfl,rfl,rfl,.nil,rfl,.Yh j q,rfl,c,rfl,r⟩
theorem jB(h1:oV x σ.sl=some (.jk i c))(h2:jo i σ.ob=some (.cells l q))(y:iH P T=e)(z:e.ok=true)(C:nW c l=some h)(F:rJ e.size h=some j)(G:xh e.agg j=some s):Ra r P σ (.cell x T) s:=
 ⟨i,c,l,q,h,j,e,h1,h2,y,z,C,F,G⟩
theorem nQ.rfl{c:List Ob}:∀l:List SV,nQ c l l
 |[]=>.nil
 |s::r=>.cons (.refl s) (nQ.rfl r)
theorem Fit.of_eq(h:s=t):Fit c s t:=h▸ .refl s
def Ml:Nat->Nat->List Nat
 |_,0=>[]
 |k,n+1=>k::Ml (k+1) n
theorem Lb(x:ι->List (Nat×SV))(G)(q:ι->Prop)(m:ι->Nat)(z:ι)(J:uz y G=some e)(H:q z)
 (I:um s ⟨n,y,r⟩ ⟨n,x z++e,r⟩ (Ml 0 r.length))
 (h:∀i,q i->iK P C s F c (Ex.seq (λb=>yr s (λi=>⟨n,x i++e,r⟩) (λj=>q j/\m j<m i) b) Q) ⟨n,x i++e,r⟩):iK P C s F (.loop c) Q ⟨n,y,r⟩:=
 HU (λi=>⟨n,x i++e,r⟩) q m ⟨z,_,H,I⟩ h
theorem La(x:ι->List (Nat×SV))(q:ι->List Ob)(H)(r:ι->Prop)(m:ι->Nat)(y:ι)(ρ)(M:uz z H=some e)(I:r y)
 (J:um s ⟨n,z,G⟩ ⟨n,x y++e,q y⟩ ρ)
 (h:∀i,r i->iK P C s F c (Ex.seq (λb=>yr s (λi=>⟨n,x i++e,q i⟩) (λj=>r j/\m j<m i) b) Q) ⟨n,x i++e,q i⟩):iK P C s F (.loop c) Q ⟨n,z,G⟩:=
 HU (λi=>⟨n,x i++e,q i⟩) r m ⟨y,_,I,J⟩ h
theorem BH(z:pre 0 x ρ=true)(i:me ρ=true)(q:nF c=true)(r:jh h ρ c ρ)(s:tl h ρ y e):um x ⟨n,y,h⟩ ⟨n,e,c⟩ ρ:=
 ⟨rfl,z,i,λj k f U b C=>absurd C (oG q j k f U b),r,s⟩
theorem HX(S:ι->St)(q:ι->Prop)(F:iK P r h s y (Ex.seq (λk=>yr h S q k) Q) σ)(G:∀i,q i->iK P r h s z Q (S i)):iK P r h s y (Ex.seq (λk=>iK P r h s z Q k) Q) σ:=
 λB C a w H=>wp_mono (F B C a w H) λe J M b=>by
  cases e with
  |normal=>
   obtain⟨k,U,j,ρ,I,x⟩:=b;exact⟨_,x.rel C U,G j I⟩
  |exit id=>exact b
  |goto l=>exact b
  |ret=>exact b
  |panic c=>exact b
  |outgrown=>exact b
theorem Om(x:ι->List (Nat×SV))(C)(e:ι->Prop)(H:uz s C=some c)
 (F:iK P q h r y (Ex.seq (λb=>yr h (λi=>⟨n,x i++c,j⟩) e b) Q) ⟨n,s,j⟩) (G:∀i,e i->iK P q h r z Q ⟨n,x i++c,j⟩):iK P q h r y (Ex.seq (λb=>iK P q h r z Q b) Q) ⟨n,s,j⟩:=
 HX (λi=>⟨n,x i++c,j⟩) e F G
theorem Ol(x:ι->List (Nat×SV))(e:ι->List Ob)(F)(h:ι->Prop)(I:uz s F=some c)
 (G:iK P q j r y (Ex.seq (λb=>yr j (λi=>⟨n,x i++c,e i⟩) h b) Q) ⟨n,s,C⟩) (H:∀i,h i->iK P q j r z Q ⟨n,x i++c,e i⟩):iK P q j r y (Ex.seq (λb=>iK P q j r z Q b) Q) ⟨n,s,C⟩:=
 HX (λi=>⟨n,x i++c,e i⟩) h G H
theorem XZ(j:o.op=.makeFunc h first c)(q:GC i σ.sl first.toList=some l)(r:GC i σ.sl c.toList=some m)(s:K (.fn h l m) []):ik P i o σ K:=nG λB g a w b=>by
 refine⟨.fn h l m,.func h ⟨first.toList.map a.eval⟩ ⟨c.toList.map a.eval⟩,λk=>?_,⟨_,_,rfl,x4 b q,x4 b r⟩,s⟩;have e:∀x:Array Operand,x.map a.eval=⟨x.toList.map a.eval⟩:=λx=>by apply c7;simp
 simp only[execOp,j,Instr.makeFunc,e,Sem.run_bind,Sem.run_pure,Result.andThen_ok]
theorem AP(i:K (.fn h l m) [])(j:o.op=.makeFunc h first c:=by exact rfl)(q:GC e σ.sl first.toList=some l:=by exact rfl)(r:GC e σ.sl c.toList=some m:=by exact rfl):ik P e o σ K:=XZ j q r i
def xb(P:Program)(T:TypeId):Bool:=match P.underlying T with
 |some (.interface _)=>true
 |_=>false
theorem Vq(h:xb P T=true):∃b,P.underlying T=some (.interface b):=by
 unfold xb at h;split at h
 .exact ⟨_,by assumption⟩
 .cases h
theorem Ld(c:P.underlying T=some (.pointer e))(p w):(Op.equal T (.pointer p) (.pointer none)).run P w=.ok p.isNone w:=by
 have h:∀d:Nat,(Op.equalIn (d+1) T (.pointer p) (.pointer none)).run P w=.ok p.isNone w:=λd=>by
  cases p<;>simp[Op.equalIn,run_underlying c]
 simp[Op.equal,Op.maxDepth,h 9999]
theorem BU{b:Bool}{p:Option Addr->Prop}(j:o.op=.binOp c T x (.const (.pointer none)) C)(F:jb i σ.sl x=some s)(h:c=.eql\/c=.neq)(G:∀g y,s.Den g y->∃q,y=.pointer q/\q.isNone=b)(H:P.underlying T=some (.pointer e))(I:K (fH (if c=.eql then b else !b)) []):ik P i o σ K:=nG λB g a w J=>by
 obtain⟨q,k,U⟩:=G _ _ (J.oe F);refine⟨fH (if c=.eql then b else !b),_,λM=>?_,rfl,I⟩;have r:=Ld H q M;have z:a.eval (.const (.pointer none))=.pointer none:=rfl;rcases h with rfl|rfl
 .simp only[execOp,j,Sem.run_bind,k,z,qz (P:=P) (show(Value.pointer q).oneCell'=true from rfl) (show ¬(Value.pointer q=.nilIface/\Value.pointer none=.nilIface) by simp)];simp only[Result.andThen_ok,binOp,Sem.run_bind,r,Sem.run_pure,U,if_true]
 .simp only[execOp,j,Sem.run_bind,k,z,qz (P:=P) (show(Value.pointer q).oneCell'=true from rfl) (show ¬(Value.pointer q=.nilIface/\Value.pointer none=.nilIface) by simp)];simp only[Result.andThen_ok,binOp,Sem.run_bind,r,Sem.run_pure,U];rfl
theorem DW(i:P.underlying T=some (.pointer e))(j:o.op=.binOp .eql T x (.const (.pointer none)) h)(q:jb c σ.sl x=some (.d (.v (.pointer none))))(r:K (fH true) []):ik P c o σ K:=
 BU (b:=true) (p:=λ_=>True) j q (.inl rfl) (λg y hd=>⟨none,hd,rfl⟩) i r
theorem PA(i:P.underlying T=some (.pointer e))(j:K (fH true) [])(q:o.op=.binOp .eql T x (.const (.pointer none)) h:=by exact rfl)(r:jb c σ.sl x=some (.d (.v (.pointer none))):=by exact rfl):ik P c o σ K:=DW i q r j
theorem Mz(q:P.underlying T=some (.pointer e))(r:o.op=.binOp .eql T x (.const (.pointer none)) j)(s:jb h σ.sl x=some (.jk i c))(z:K (fH false) []):ik P h o σ K:=
 BU (b:=false) (p:=λ_=>True) r s (.inl rfl) (λg y hd=>by obtain⟨b,_,e⟩:=hd;exact⟨_,e,rfl⟩) q z
theorem GB(q:P.underlying T=some (.pointer e))(r:K (fH false) [])(s:o.op=.binOp .eql T x (.const (.pointer none)) j:=by exact rfl)(y:jb h σ.sl x=some (.jk i c):=by exact rfl):ik P h o σ K:=Mz q s y r
theorem My(q:P.underlying T=some (.pointer e))(r:o.op=.binOp .neq T x (.const (.pointer none)) j)(s:jb h σ.sl x=some (.jk i c))(z:K (fH true) []):ik P h o σ K:=
 BU (b:=false) (p:=λ_=>True) r s (.inr rfl) (λg y hd=>by obtain⟨b,_,e⟩:=hd;exact⟨_,e,rfl⟩) q z
theorem Gs(i:P.underlying T=some (.pointer e))(j:o.op=.binOp .eql T x (.const (.pointer none)) h)(q:jb c σ.sl x=some (.d (.cp l)))(r:K (fH false) []):ik P c o σ K:=
 BU (b:=false) (p:=λ_=>True) j q (.inl rfl) (λg y hd=>by obtain⟨b,off,e,_⟩:=hd;exact⟨_,e,rfl⟩) i r
theorem S8(i:P.underlying T=some (.pointer e))(j:K (fH false) [])(q:o.op=.binOp .eql T x (.const (.pointer none)) h:=by exact rfl)(r:jb c σ.sl x=some (.d (.cp l)):=by exact rfl):ik P c o σ K:=Gs i q r j
theorem Gr(i:P.underlying T=some (.pointer e))(j:o.op=.binOp .neq T x (.const (.pointer none)) h)(q:jb c σ.sl x=some (.d (.cp l)))(r:K (fH true) []):ik P c o σ K:=
 BU (b:=false) (p:=λ_=>True) j q (.inr rfl) (λg y hd=>by obtain⟨b,off,e,_⟩:=hd;exact⟨_,e,rfl⟩) i r
theorem wU(r:o.dst=some t)(x:Nat.blt t n=true)
 (h:∀B g a w,jE i B ⟨n,c,e⟩ g a w->∃s y,(execOp a.eval o).run P w=.ok (.value y) w/\s.Den g y/\K ⟨n,(t,s)::c,e⟩):jI P i j q T o ⟨n,c,e⟩ K:=λB F g a w b next Q k G=>by
 obtain⟨s,y,U,z,C⟩:=h B g a w b;unfold Oper.wp;rw[U];show next (a.put o.dst y) w
 rw[r];exact k _ _ _ _ (b.wQ x z) (z8.refl _ _ _ _) C
def Z3:Operand->Bool
 | .func _=>true
 |_=>false
theorem XN(h:Z3 x=false):∀f,x≠ .func f:=λf e=>by subst e;cases h
theorem BC{f:FuncId}(hc:iA P f=true)(S:Z3 x=false)(ho:o.op=.call { callee:=.value x,args:=args,argTypes:=ts })
 (hx:jb R G x=some (.fn (.func f) first q)) (ha:GC R G args.toList=some H) (h1:pY first H=some r) (h2:pY r q=some y) (z:o.dst=some t) (V:Nat.blt t n=true) (ht:jT P R f C i Q) (c) (I:jh j c C c) (W:me c=true) (Y:nF C=true) (hit:qU c j=true) (hra:qD c i=some m) (hfa:nQ j y m)
 (J:∀s ob',Q (.ret s) ob'->∃b k U h F,r6 (names c j.length (ob'.length-c.length)) ob'=some b/\vH c j=some k/\pM c k b=some U/\xW c G=some h/\s.j5 (names c j.length (ob'.length-c.length))=some F/\K ⟨n,(t,F)::h,U⟩)
 (M:∀s ob',Q (.vk s) ob'->∃b k U h F,r6 (names c j.length (ob'.length-c.length)) ob'=some b/\vH c j=some k/\pM c k b=some U/\xW c G=some h/\s.j5 (names c j.length (ob'.length-c.length))=some F/\Pn.pn F h U):jI P R n0 Pn (· ∈c) o ⟨n,G,j⟩ K:=
 Az ht c (On hc (XN S) ho hx ha h1 h2) I W Y (rM hit) hra hfa (λs ob' hq=>by
  obtain⟨b,k,U,h,F,e1,e2,e3,e4,e5,e6⟩:=J s ob' hq;exact⟨b,k,U,h,F,e1,e2,e3,e4,e5,λt' e=>by rw[z] at e;cases e;exact⟨V,e6⟩,λe=>by rw[z] at e;cases e⟩) M
theorem Ik(H:iA P W=true)(I:Z3 x=false)(J:o.op=.call { callee:=.value x,args:=args,argTypes:=G })
 (M:jb q r x=some (.d (.v (.func (.func W) #[] #[])))) (R:GC q r args.toList=some i) (h:o.dst=some t) (y:Nat.blt t n=true) (S:jA P q W c Q) (z:nQ s i (c.map .d)) (j:∀d,Q d->K ⟨n,(t,.d d)::r,s⟩):jI P q C F T o ⟨n,r,s⟩ K:=
 Il (λB g a w k=>by
  have e:a.eval x=.func (.func W) #[] #[]:=k.oe M;refine⟨args.toList.map a.eval,?_,x4 k R⟩;have b:(execOp a.eval o).run P w=(callFunc W ⟨args.toList.map a.eval⟩).run P w:=by
   simp only[execOp,J,resolve,e,Deferred.ofValue,Sem.run_bind,Sem.run_pure,Result.andThen_ok,invoke]
   congr 2
   apply c7;simp
  rw[b,uG H]) z S λd U=>⟨λV e=>by rw[h] at e;cases e;exact⟨y,j d U⟩,λe=>by rw[h] at e;cases e⟩
def wF(s:fB):List (List D):=s.data.toList.map λb=>[.v (.int .u8 b.toNat)]
theorem P2(s):(wF s).length=s.size:=by simp[wF]
theorem Tv(h:s≠ .empty):wF s≠[]:=λe=>h (by
 have:=congrArg List.length e;rw[P2] at this;apply eH;apply c7;have b:s.data.toList.length=0:=this;rw[ch b];rfl)
mutual
def SV.fz(i:Nat)(q:Option (Nat×List (List D)))(ds:List D):SV->Option SV
 | .jk j off=>cond (Nat.beq j i) ((nW off ds).bind λl=>some (.d (.cp l))) (some (.jk j off))
 | .agg l=>(XR i q ds l).bind λl'=>some (.agg l')
 | .jj l=>(XR i q ds l).bind λl'=>some (.jj l')
 | .fn f a b=>(XR i q ds a).bind λa'=>(XR i q ds b).bind λb'=>some (.fn f a' b')
 | .uU T s=>(s.fz i q ds).bind λs'=>some (.uU T s')
 | .d x=>some (.d x)
 | .own j k ls=>some (.own j k ls)
 | .map j=>some (.map j)
 | .rp j=>some (.rp j)
 | .arr j n=>cond (Nat.beq j i) (q.bind λr=>some (.d (.sl r.1 r.2))) (some (.arr j n))
 | .bp j off=>cond (Nat.beq j i) (some .qe) (some (.bp j off))
 | .G3 k ls=>some (.G3 k ls)
 | .qe=>some .qe
def XR(i:Nat)(q:Option (Nat×List (List D)))(ds:List D):List SV->Option (List SV)
 |[]=>some []
 |s::r=>(s.fz i q ds).bind λs'=>(XR i q ds r).bind λr'=>some (s'::r')
end
def AK(i:Nat)(q:Option (Nat×List (List D)))(c:List D):List (Nat×SV)->Option (List (Nat×SV))
 |[]=>some []
 |(k,s)::r=>(s.fz i q c).bind λb=>(AK i q c r).bind λU=>some ((k,b)::U)
def Ob.fz(i:Nat)(q:Option (Nat×List (List D)))(c:List D):Ob->Option Ob
 | .cells l ty=>(XR i q c l).bind λU=>some (.cells U ty)
 | .row e k=>some (.row e k)
 | .jd e k=>some (.jd e k)
 | .buf e k ls q=>some (.buf e k ls q)
 | .jc f=>some (.jc f)
 | .jK f=>some (.jK f)
 | .rU o k=>some (.rU o k)
 | .ru j f h b=>some (.ru j f h b)
 | .dead=>some .dead
def AL(i:Nat)(q:Option (Nat×List (List D)))(c:List D):List Ob->Option (List Ob)
 |[]=>some []
 |o::r=>(o.fz i q c).bind λb=>(AL i q c r).bind λk=>some (b::k)
structure Fz (i:Nat) (q:Option (Nat×List (List D))) (ds:List D) (g g':Gh):Prop where
 m:pV g.m g'.m
 gs:∀(j:Nat) q,g.gs[j]? =some q->g'.gs[j]? =some q
 cp:∀b,g.gs[i]? =some (.loc b)->oU g'.m b 0 ds
 ar:∀r n y,q=some r->(SV.arr i n).Den g y->(D.sl r.1 r.2).Den g'.m y
mutual
theorem SV.Pf{i:Nat}{q:Option (Nat×List (List D))}{ds:List D}{g g':Gh}(h:Fz i q ds g g'):∀(s:SV) {s':SV} {y:Value},s.fz i q ds=some s'->s.Den g y->s'.Den g' y
 | .jk j off,s',y,hr,hd=>by
  obtain⟨b,hb,e⟩:=hd;simp only[SV.fz] at hr;cases hj:Nat.beq j i with
  |false=>
   rw[hj] at hr;simp only[cond_false,an] at hr;subst hr;exact⟨b,h.gs _ _ hb,e⟩
  |true=>
   rw[hj] at hr;simp only[cond_true,ai,an] at hr;obtain⟨l,h1,rfl⟩:=hr;have hji:j=i:=by simpa using hj
   subst hji;refine⟨b,off,e,?_⟩;rw[<- (sQ h1).1];have:=(h.cp b hb).drop off
   rwa [bU] at this
 | .agg l,s',y,hr,⟨vs,e,hd⟩=>by
  simp only[SV.fz,ai,an] at hr;obtain⟨l',h1,rfl⟩:=hr;exact⟨vs,e,zM h l h1 hd⟩
 | .jj l,s',y,hr,⟨vs,e,hd⟩=>by
  simp only[SV.fz,ai,an] at hr;obtain⟨l',h1,rfl⟩:=hr;exact⟨vs,e,zM h l h1 hd⟩
 | .fn f a b,s',y,hr,⟨vs,us,e,d1,d2⟩=>by
  simp only[SV.fz,ai,an] at hr;obtain⟨a',h1,b',h2,rfl⟩:=hr;exact⟨vs,us,e,zM h a h1 d1,zM h b h2 d2⟩
 | .uU T s,s',y,hr,⟨x,e,hd⟩=>by
  simp only[SV.fz,ai,an] at hr;obtain⟨t,h1,rfl⟩:=hr;exact⟨x,e,SV.Pf h s h1 hd⟩
 | .d x,s',y,hr,hd=>by simp[SV.fz] at hr;subst hr;exact D.Den.mono h.m x hd
 | .own j k ls,s',y,hr,hd=>by simp[SV.fz] at hr;subst hr;exact SV.Den.mono ⟨h.m,h.gs⟩ _ hd
 | .map j,s',y,hr,hd=>by simp[SV.fz] at hr;subst hr;exact SV.Den.mono ⟨h.m,h.gs⟩ _ hd
 | .arr j n,s',y,hr,hd=>by
  simp only[SV.fz] at hr;cases hj:Nat.beq j i with
  |false=>
   rw[hj] at hr;simp only[cond_false,an] at hr;subst hr;exact SV.Den.mono ⟨h.m,h.gs⟩ _ hd
  |true=>
   rw[hj] at hr;simp only[cond_true,ai,an] at hr;obtain⟨r,h1,rfl⟩:=hr;have hji:j=i:=by simpa using hj
   subst hji;exact h.ar r n y h1 hd
 | .bp j off,s',y,hr,hd=>by
  simp only[SV.fz] at hr;cases hj:Nat.beq j i with
  |false=>
   rw[hj] at hr;simp only[cond_false,an] at hr;subst hr;exact SV.Den.mono ⟨h.m,h.gs⟩ _ hd
  |true=>
   rw[hj] at hr;simp only[cond_true,an] at hr;subst hr;trivial
 | .rp j,s',y,hr,hd=>by simp[SV.fz] at hr;subst hr;exact SV.Den.mono ⟨h.m,h.gs⟩ _ hd
 | .G3 k ls,s',y,hr,hd=>by simp[SV.fz] at hr;subst hr;exact SV.Den.mono ⟨h.m,h.gs⟩ _ hd
 | .qe,s',y,hr,hd=>by simp[SV.fz] at hr;subst hr;trivial
theorem zM{i:Nat}{q:Option (Nat×List (List D))}{ds:List D}{g g':Gh}(h:Fz i q ds g g'):∀(l:List SV) {l':List SV} {vs:List Value},XR i q ds l=some l'->iN g l vs->iN g' l' vs
 |[],l',vs,hr,hd=>by simp[XR] at hr;subst hr;exact hd
 |s::r,l',vs,hr,⟨x,v',e,h1,h2⟩=>by
  simp only[XR,ai,an] at hr;obtain⟨s',hs,r',hr',rfl⟩:=hr;exact⟨x,v',e,SV.Pf h s hs h1,zM h r hr' h2⟩
end
theorem BS{i:Nat}{q:Option (Nat×List (List D))}{j:List D}{g x:Gh}(h:Fz i q j g x):∀{l U:List (Nat×SV)},AK i q j l=some U->∀{t:Nat} {y:Value},(vO t l).Den g y->(vO t U).Den x y
 |[],U,b,t,y,hd=>by simp[AK] at b;subst b;trivial
 |(k,s)::r,U,b,t,y,hd=>by
  simp only[AK,ai,an] at b;obtain⟨C,z,F,c,rfl⟩:=b;rw[n5] at hd ⊢;by_cases e:k=t
  .rw [if_pos e] at hd ⊢;exact SV.Pf h s z hd
  .rw [if_neg e] at hd ⊢;exact BS h c hd
theorem BT{i:Nat}{q:Option (Nat×List (List D))}{c:List D}:∀{l b:List Ob},AL i q c l=some b->b.length=l.length/\∀(j:Nat) k,b[j]? =some k->∃o,l[j]? =some o/\o.fz i q c=some k
 |[],b,h=>by simp[AL] at h;subst h;simp
 |o::r,b,h=>by
  simp only[AL,ai,an] at h;obtain⟨y,s,z,x,rfl⟩:=h;have e:=BT x;refine⟨by simp[e.1],λj k U=>?_⟩;cases j with
  |zero=>simp at U;subst U;exact⟨o,rfl,s⟩
  |succ j=>simpa using e.2 j k (by simpa using U)
theorem Ob.yh(h:Fz i q s g x)(r:o.fz i q s=some c):tc g x o c/\(∀ j f k b,c=.ru j f k b->o=c)/\(∀ f,o=.jc f->c=.jc f):=by
 cases o<;>simp only[Ob.fz,ai,an] at r
 case cells l ty=>
  obtain⟨y,U,rfl⟩:=r;exact⟨⟨rfl,λz hd=>zM h l U hd⟩,(λ_ _ _ _ e=>by cases e),(λ_ e=>by cases e)⟩
 all_goals (subst r;exact⟨tc.refl ⟨h.m,h.gs⟩ _,(λ_ _ _ _ _=>rfl),(λ_ e=>e)⟩)
theorem jE.Mw{n:Nat}{sl sl':List (Nat×SV)}{ob R:List Ob}(h:jE GL B ⟨n,sl,ob⟩ g a w){i:Nat}{cs:List SV}{ty:TypeId}{ds:List D}(S:ob[i]? =some (.cells cs ty))(hcs:Am cs=some ds)(hone:pH cs=true)
 (hsl:AK i none ds sl=some sl') (hob:AL i none ds ob=some R):∃m',pV g.m m'/\jE GL B ⟨n,sl',R.set i .dead⟩ ⟨m',g.gs⟩ a w:=by
 obtain⟨pl,G⟩:=h.store.place S;have hok:=h.store.qM _ _ _ S G;cases pl with
 |row b c k=>exact hok.elim
 |loc b=>
  obtain⟨vs,hh,hd,hmn⟩:=hok;have hdd:=iN.p9 _ hd hcs;have V:=uk hone hd;have C:pV g.m (oQ g.m b vs):=pV.set λo x F=>by rw[hmn] at F;cases F
  have hF:Fz i none ds g ⟨oQ g.m b vs,g.gs⟩:=⟨C,λ_ _ h=>h,λc hc=>by
   rw[G] at hc;cases hc;refine oU.BE (nk.mono C _ hdd) λj x F=>?_
   show oQ _ _ _ _ _=_;unfold oQ;rw[if_pos rfl,bU];exact F,λr n y hq=>by cases hq⟩
  have U:=BT hob;have I:=(aJ.1 S).1;have hlen:=h.store.len;have hneb:∀(j:Nat) oj pj c,j≠i->ob[j]? =some oj->g.gs[j]? =some pj->jP oj pj c->c≠b:=λj oj pj c z s h2 J e=>by
   subst e;exact z (h.store.xk j i oj _ pj _ c s S h2 G J rfl)
  have hbl:b<w.heap.size:=(cV.1 hh).1;refine⟨oQ g.m b vs,C,h.defers,h.size,λt=>BS hF hsl (h.j9 t),?_,?_⟩
  .refine h.store.step (p:=λj=>j=i) C (λ_ _ h=>h) (λ_ _ _ h=>h) (λc off x F=>?_) (by simp[U.1,hlen]) (λj o1 z s=>?_) (λj k f dn W s=>?_) (λj k f dn W z s hk=>?_)
    (λj o1 q c z s h2 J=>⟨rfl,λoff hn=>?_⟩) (λj o1 z s=>?_) (λj o1 q c z s h2 J=>?_) (λi j oi oj pi pj b hi z _ _ _ _ _ _=>hi.trans z.symm)
   .simp only[oQ] at F;by_cases H:c=b
    .subst H;rw[if_pos rfl] at F;refine⟨?_,V x (aO F)⟩;simp only[World.cell?,hh]
     simpa using F
    .rw [if_neg H] at F;exact h.store.sat c off x F
   .rw [bg (bd z)] at s;obtain⟨o,Y,M⟩:=U.2 j o1 s;exact⟨o,Y,(Ob.yh hF M).1⟩
   .by_cases z:j=i
    .subst z;rw[bz (by rw[U.1];exact I)] at s;cases s
    .rw [bg (bd z)] at s;obtain⟨o,Y,M⟩:=U.2 j _ s;have e3:=(Ob.yh hF M).2.1 _ _ _ _ rfl;subst e3;have e4:=h.store.th j k f dn W Y;have hk:k≠i:=λe=>by subst e;rw[S] at e4;cases e4
     rw[bg (bd hk)];have hkl:=(aJ.1 e4).1;obtain⟨o5,e5,e6⟩:=U.2 k R[k] (by simp[U.1,hkl]);rw[e4] at e5;cases e5;rw[aZ (by rw[U.1];exact hkl),(Ob.yh hF e6).2.2 f rfl]
   .rw [bg (bd z)] at s;obtain⟨o,Y,M⟩:=U.2 j _ s;have e3:=(Ob.yh hF M).2.1 _ _ _ _ rfl;subst e3 hk;have e4:=h.store.th j k f dn W Y;rw[S] at e4;cases e4
   .show oQ _ _ _ _ _=_;unfold oQ;rw[if_neg (hneb j o1 q c z s h2 J)];exact hn
   .subst z;rw[bz (by rw[U.1];exact I)] at s;cases s;exact⟨_,G,trivial⟩
   .subst z;rw[bz (by rw[U.1];exact I)] at s;cases s;simp[jP,np] at J
  .refine h.pG.step (X:=λc=>c=b) (Fr.refl _ w) (λc e=>by subst e;exact h.pG.own i _ _ c S G rfl) C (λc off x F hn=>?_) (λj o1 p c s h2 J=>?_) (λ_ _ h=>h)
   .simp only[oQ] at F;by_cases H:c=b
    .exact .inl H
    .rw [if_neg H,hn] at F;cases F
   .by_cases z:j=i
    .subst z;rw[bz (by rw[U.1];exact I)] at s;cases s;simp[jP,np] at J
    .rw [bg (bd z)] at s;obtain⟨o,Y,M⟩:=U.2 j o1 s;refine .inl (h.pG.own j o p c Y h2 ?_);cases o<;>simp only[Ob.fz,ai,an] at M
     case cells l ty=>obtain⟨l',_,rfl⟩:=M;cases p<;>exact J
     all_goals (subst M;exact J)
theorem jE.Rd(h:jE C B ⟨n,F,q⟩ g a w)(H:q[i]? =some (.cells r G))(x:Am r=some s)(j:pH r=true)
 (y:AK i none s F=some c) (z:AL i none s q=some e):∃b,jE C B ⟨n,c,e.set i .dead⟩ b a w:=by
 obtain⟨U,_,k⟩:=h.Mw H x j y z;exact⟨_,k⟩
theorem OD(i)(S:jo i x=some (.cells y R))(C:Am y=some z)(r:pH y=true)(F:AK i none z M=some e)(G:AL i none z x=some j)(s:pD i .dead j=some q)
 (h:iL P H I J c l Q ⟨n,e,q⟩):iL P H I J c l Q ⟨n,M,x⟩:=λB k a w ⟨g,U⟩=>by
 obtain⟨V,b⟩:=U.Rd (iS S) C r F G;rw[<- (nL s).1] at b;exact h B k a w ⟨V,b⟩
theorem Lc(i)(S:jo i x=some (.cells y R))(C:Am y=some z)(r:pH y=true)(F:AK i none z M=some e)(G:AL i none z x=some j)(s:pD i .dead j=some q)
 (h:iK P H I J c Q ⟨n,e,q⟩):iK P H I J c Q ⟨n,M,x⟩:=λB k a w ⟨g,U⟩=>by
 obtain⟨V,b⟩:=U.Rd (iS S) C r F G;rw[<- (nL s).1] at b;exact h B k a w ⟨V,b⟩
def wB(P:Program)(T:TypeId):Bool:=match P.underlying T with
 |some (.interface _)=>false
 |some _=>true
 |none=>false
theorem CG(h:wB P T=true)(x w):(Instr.makeInterface T x).run P w=.ok (.iface T x) w:=by
 unfold wB at h;cases b:P.underlying T with
 |none=>rw[b] at h;cases h
 |some k=>
  rw[b] at h;cases k<;>first
   |(cases h;done)
   |simp only[Instr.makeInterface,Sem.run_bind,run_underlying b,Result.andThen_ok,Sem.run_pure]
theorem Pr(e:wB P T=true)(h:o.op=.makeInterface T x)(i:jb c σ.sl x=some (.d q))(j:K (.d (.uU T q)) []):ik P c o σ K:=nG λB g a w b=>
 ⟨.d (.uU T q),.iface T (a.eval x),λk=>by simp only[execOp,h,Sem.run_bind,CG e,Result.andThen_ok,Sem.run_pure],⟨_,rfl,b.oe i⟩,j⟩
theorem S9(e:K (.d (.uU T q)) [])(h:o.op=.makeInterface T x:=by exact rfl)(i:jb c σ.sl x=some (.d q):=by exact rfl)(j:wB P T=true:=by kernel_rfl):ik P c o σ K:=Pr j h i e
theorem VN(e:wB P T=true)(h:o.op=.makeInterface T x)(i:jb c σ.sl x=some s)(j:K (.uU T s) []):ik P c o σ K:=nG λB g a w b=>
 ⟨.uU T s,.iface T (a.eval x),λk=>by simp only[execOp,h,Sem.run_bind,CG e,Result.andThen_ok,Sem.run_pure],⟨_,rfl,b.oe i⟩,j⟩
theorem X6(e:K (.uU T s) [])(h:o.op=.makeInterface T x:=by exact rfl)(i:jb c σ.sl x=some s:=by exact rfl)(j:wB P T=true:=by kernel_rfl):ik P c o σ K:=VN j h i e
theorem ss(ρ c)(r:pre 0 j ρ=true)(e:me ρ=true)(h:nF c=true)(i:jh q ρ c ρ)(s:Q (.d x) c):WI j Q (.d x) q:=
 ⟨ρ,.d x,c,.d x,r,e,h,i,rfl,.refl _,s⟩
theorem UR(r:o.op=.panic x)(s:jb j c x=some (.d (.uU H I)))(h:Pn.pn (.d (.uU H I)) c e):jI P j q Pn T o ⟨n,c,e⟩ K:=λB F g a w k next Q G z=>by
 have hd:=k.oe s;obtain⟨y,C,i⟩:=hd;have b:(execOp a.eval o).run P w=.halt (.panic (.iface H y)) w:=by
  simp only[execOp,r,C,Instr.panic];rfl
 unfold Oper.wp;rw[b,Oper.upon_panic];refine z _ _ ⟨g,c,e,.iface H y,.d (.uU H I),rfl,k.store,k.pG,⟨y,rfl,i⟩,k.j9,h⟩
theorem Xy(h:Pn.pn (.d (.uU s y)) c i)(q:o.op=.panic x:=by exact rfl)(r:jb e c x=some (.d (.uU s y)):=by exact rfl):jI P e j Pn T o ⟨n,c,i⟩ K:=UR q r h
inductive Um where
 |ret
 |vk (d:D) (r:Bool)
def Um.Den(m:Mem):Um->FrameMode->Prop
 | .ret,u=>u=.returning
 | .vk d r,u=> ∃v,d.Den m v/\u=.panicking [{ v:=v,recovered:=r }]
def Um.settle:Um->Um
 | .ret=>.ret
 | .vk _ true=>.ret
 | .vk d false=>.vk d false
theorem Um.Og{U:Um}(h:U.Den m u):U.settle.Den m (Go.settle u):=by
 match U,h with
 | .ret,h=>cases h;rfl
 | .vk d true,⟨v,_,b⟩=>subst b;rfl
 | .vk d false,⟨v,k,b⟩=>subst b;exact⟨v,k,rfl⟩
theorem Um.Den.ne{U:Um}(h:U.Den m u):u≠ .run:=by
 match U,h with
 | .ret,h=>cases h;simp
 | .vk d r,⟨v,_,b⟩=>subst b;simp
theorem Um.Den.to(e:∀(d:D) v,d.Den m v->d.Den c v){U:Um}(h:U.Den m u):U.Den c u:=by
 match U,h with
 | .ret,h=>exact h
 | .vk d r,⟨v,b,k⟩=>exact⟨v,e _ _ b,k⟩
structure WO where
 f:FuncId
 args:List SV
def UO(c:Nat):SV->Bool
 | .d _=>true
 | .jk i _=>Nat.blt i c
 |_=>false
def Lu(c:Nat):List SV->Bool
 |[]=>true
 |s::r=>UO c s&&Lu c r
theorem Sq(r:pV g.m c.m)(h:∀(i b:Nat),i<z->g.gs[i]? =some (.loc b)->c.gs[i]? =some (.loc b))(j:UO z s=true)(q:s.Den g y):s.Den c y:=by
 cases s<;>simp only[UO,bu] at j
 case d x=>exact D.Den.mono r x q
 case jk i off=>
  obtain⟨b,U,e⟩:=q;exact⟨b,h i b (by simpa using j) U,e⟩
theorem Ic{F:Nat}{g h:Gh}(j:pV g.m h.m)(c:∀(i b:Nat),i<F->g.gs[i]? =some (.loc b)->h.gs[i]? =some (.loc b)):∀{l:List SV} {q:List Value},Lu F l=true->iN g l q->iN h l q
 |[],_,_,hd=>hd
 |s::r,_,U,⟨x,y,e,z,C⟩=>by
  simp only[Lu,bY] at U;exact⟨x,y,e,Sq j c U.1 z,Ic j c U.2 C⟩
def aeh(P:Program)(c:Nat)(g:Gh)(s:WO)(e:Deferred):Prop:=
 ∃U cap b,e.target=.fn U cap/\(∀ w,(invoke e.target e.args).run P w=.ok (.enter s.f ⟨b⟩) w)/\iN g s.args b/\Lu c s.args=true
def Qp(P:Program)(c:Nat)(g:Gh):List WO->List Deferred->Prop
 |[],l=>l=[]
 |s::r,l=> ∃d b,l=d::b/\aeh P c g s d/\Qp P c g r b
def PO(i:Nat->List D)(g:Gh)(w:World)(c:List Ob)(Q:Um->List Ob->Prop)(e:Ending)(j:FrameMode)(h:World):Prop:=
 (∃ v,e=.returned v)/\∃b ob' U',jX i ob' b h/\Ji ⟨g,w,lN c g,c.length,[]⟩ ob' b h/\c.length<=ob'.length/\nF ob'=true/\U'.Den b.m j/\Q U' ob'
def RP(P:Program)(e:Nat->List D)(i:FuncId)(h:List Ob)(c:List SV)(U:Um)(Q:Um->List Ob->Prop):Prop:=
 ∀(g:Gh) (w:World) (b:List Value) (u:FrameMode),jX e h g w->iN g c b->U.Den g.m u->
  CallsD P i ⟨b⟩ u w (PO e g w h Q)
def Bg(P:Program)(e:Func)(R:Ending->World->Prop)(h:List Deferred):Exit->Act->World->Prop
 | .ret,a,w=> ∃b,a.defers=b++h/\Leaves P e a.tmps R b .returning w
 | .panic c,a,w=> ∃b,a.defers=b++h/\Leaves P e a.tmps R b (.panicking c) w
 |_,_,_=>False
def adf(P:Program)(c:Nat->List D)(h:Func)(Q:Out->List Ob->Prop):Bs->Exit->Act->World->Prop:=
 λB e a w=>Bg P h (uF c B Q) B.df e a w
def LvR(P:Program)(e:Nat->List D)(i:Func)(j h:Nat)(q:Out->List Ob->Prop)(c:List WO)(U:Um)(σ:St):Prop:=
 ∀B0 B1:Bs,B0.n0=j->B1.n0=h->(∀ ob g w,Ji ⟨B1.g,B1.w,B1.X,B1.n0,[]⟩ ob g w->Ji ⟨B0.g,B0.w,B0.X,B0.n0,[]⟩ ob g w)->
  ∀b u g a w,Qp P h B1.g c b->U.Den g.m u->jE e B1 σ g a w->Leaves P i a.tmps (uF e B0 q) b u w
def RQ(P:Program)(h:Nat->List D)(i:Func)(j:Nat)(q:Out->List Ob->Prop)(e:List WO)(c:Code)(σ:St):Prop:=
 ∀B0:Bs,B0.n0=j->∀b g a w,Qp P σ.ob.length g e b->jE h ⟨B0.g,B0.w,B0.X,B0.n0,b++B0.df⟩ σ g a w->c.wp P (Bg P i (uF h B0 q) B0.df) a w
theorem Fp(h:RQ P i r q s [] c σ):iK P i q ⟨x,adf P i r s⟩ c Q σ:=λB k a w ⟨g,U⟩=>
 wp_mono (h B k [] g a w rfl U) λe a w b=>by
  cases e with
  |ret=>exact .inl b
  |panic c=>exact .inl b
  |normal=>exact b.elim
  |exit j=>exact b.elim
  |goto l=>exact b.elim
  |outgrown=>exact b.elim
theorem KM{P:Program}{c:Func}{e h:Code}{R:Ending->World->Prop}{i:List Deferred}{a:Act}{w:World}{K:Act->World->Prop}(j:∀Q:Exit->Act->World->Prop,(∀ a w,K a w->Q .normal a w)->e.wp P Q a w)(q:∀a w,K a w->h.wp P (Bg P c R i) a w):(Code.seq e h).wp P (Bg P c R i) a w:=
 wp_seq (j _ λa w b=>q a w b)
theorem Aw{P:Program}{q:Nat->List D}{y:Nat}{z:Func}{C:Out->List Ob->Prop}{i:List WO}{c:Code}{n:Nat}{r:List (Nat×SV)}{s:List Ob}{H:Nat}{o:Oper}{f:FuncId}{args:Array Operand}{I:Array TypeId}{e:List SV}(J:iA P f=true)(M:o.op=.defer { callee:=.value (.func f),args:=args,argTypes:=I })(R:o.guard=none)(j:o.dst=none)
 (S:GC q r args.toList=some e) (V:Lu s.length e=true) (h:RQ P q z y C (⟨f,e⟩::i) c ⟨n,r,s⟩):RQ P q z y C i (.seq (.region H [o].toArray false) c) ⟨n,r,s⟩:=λW Y F g a w U b=>by
 let d:Deferred:={ target:=.fn (.func f) #[],args:= #[]++args.map a.eval }
 have k:(execOp a.eval o).run P w=.ok (.defer d) w:=by
  simp only[execOp,M,resolve,Act.eval,Deferred.ofValue,Sem.run_bind,Sem.run_pure,Result.andThen_ok];rfl
 have hd:=x4 b S;refine KM (K:=λG x=>G={ a with defers:=d::a.defers }/\x=w) (λQ hQ=>wp_region_list ?_) ?_
 .simp only;refine wpList_step λK hK=>?_
  simp only[Region.wanted,R,if_true];unfold Oper.wp;rw[k,Oper.upon_defer,j];exact hK _ _ (wpList_nil (hQ _ _ ⟨rfl,rfl⟩))
 .rintro G x ⟨rfl,rfl⟩;refine h W Y (d::F) g _ x ⟨d,F,rfl,⟨.func f,#[],args.toList.map a.eval,rfl,λw=>?_,hd,V⟩,U⟩ ⟨by simp[b.defers],b.size,b.j9,b.store,⟨b.pG.fr,b.pG.mem,b.pG.new,b.pG.own,b.pG.at'⟩⟩;have:(invoke d.target d.args).run P w=(callFunc f ⟨args.toList.map a.eval⟩).run P w:=by
   simp only[d,invoke]
   congr 2
   apply c7;simp
  rw[this,uG J]
abbrev pnT(P:Program)(GL:Nat->List D)(fn:Func)(n0 n1:Nat)(Qf:Out->List Ob->Prop)(dfs:List WO):jO:=⟨λs sl ob=> ∃d,s=.d d/\∀n,LvR P GL fn n0 n1 Qf dfs (.vk d false) ⟨n,sl,ob⟩,λ_ _ _ _=>False⟩
def ad9(P:Program)(e:Nat->List D)(h:Func)(i j:Nat)(q:Out->List Ob->Prop)(c:List WO):Ex->St->Prop
 | .ret,σ=>LvR P e h i j q c .ret σ
 |_,_=>False
theorem Gy(h:LvR P e q i j r c .ret σ):ad9 P e q i j r c .ret σ:=h
theorem UC(n1)(y:q.length=n1)(h:iK P R n1 (pnT P R fn n0 n1 Qf H) c (ad9 P R fn n0 n1 Qf H) ⟨n,sl,q⟩):RQ P R fn n0 Qf H c ⟨n,sl,q⟩:=λB0 h0 J g a w I z=>by
 have hr1:jE R ⟨g,w,lN q g,q.length,J++B0.df⟩ ⟨n,sl,q⟩ g a w:=
  ⟨z.defers,z.size,z.j9,z.store,⟨Fr.refl _ _,pV.refl _,λb o x C F=>(by simp only at F;rw[F] at C;cases C),λi o p b C F S=>.inl ⟨i,o,p,C,F,S⟩,λ_ _ _ h=>h⟩⟩
 have G:=z.store.len;simp only at G;have k:∀ob' V M,Ji ⟨g,w,lN q g,q.length,[]⟩ ob' V M->Ji ⟨B0.g,B0.w,B0.X,B0.n0,[]⟩ ob' V M:=λob' V M U=>by
  refine(z.pG.forget []).step (X:=lN q g) U.fr (λb ⟨i,o,p,C,F,S⟩=>z.pG.own i o p b C F S) U.mem (λb o x hx hn=>U.new b o x hx hn) (λi o p b C F S=>?_) (λi b hb=>U.at' i b ?_ hb)
  .rcases U.own i o p b C F S with⟨i',o',p',h4,h5,h6⟩|h4
   .exact .inl (z.pG.own i' o' p' b h4 h5 h6)
   .exact .inr h4
  .show i<q.length;rw[G];exact(aJ.1 hb).1
 refine wp_mono (h ⟨g,w,lN q g,q.length,J++B0.df⟩ y a w ⟨g,hr1⟩) λe a' M r=>?_
 simp only[y] at I;cases e with
 |ret=>
  rcases r with r|⟨σ',⟨V,W⟩,hk⟩
  .exact r.elim
  .exact ⟨J,W.defers,hk B0 _ h0 y k J _ V a' M I rfl W⟩
 |panic c=>
  rcases r with r|⟨Y,g2,sl2,ob2,v,s,rfl,hs2,hst2,hd2,hsl,d,rfl,hlv⟩
  .exact r.elim
  .exact ⟨J,Y,hlv _ B0 _ h0 y k J _ g2 a' M I ⟨v,hd2,rfl⟩ ⟨Y,rfl,hsl,hs2,hst2⟩⟩
 |normal=>obtain⟨_,_,h⟩:=r;exact h.elim
 |exit j=>obtain⟨_,_,h⟩:=r;exact h.elim
 |goto l=>obtain⟨_,_,h⟩:=r;exact h.elim
 |outgrown=>exact r.elim
theorem BJ{n1:Nat}{U:Um}{f:FuncId}(ht:RP P GL f x c U Q)(h)(q:jh J h x h)(hnd:me h=true)(R:nF x=true)(hit:qU h J=true)(hra:qD h c=some m)(hfa:nQ J s m)
 (S:∀U' ob',Q U' ob'->∃y z C F,r6 (names h J.length (ob'.length-h.length)) ob'=some y/\vH h J=some z/\pM h z y=some C/\xW h sl=some F/\LvR P GL fn n0 n1 Qf M U'.settle ⟨n,F,C⟩):LvR P GL fn n0 n1 Qf (⟨f,s⟩::M) U ⟨n,sl,J⟩:=by
 intro B0 B1 h0 h1 G ds u g a w hds hu V;obtain⟨d,l',rfl,⟨fv,cap,vs,W,Y,hden,hp⟩,H⟩:=hds;have k:=rL hnd;have I:iN g s vs:=Ic V.pG.mem (λi b hi hb=>V.pG.at' i b (by rw[h1];exact hi) hb) hp hden;have r:=V.store.sub q k (λj i f dn cur hj=>absurd hj (oG R j i f dn cur));have hd2:=qw r.2.1 _ hra (hfa.den V.store I);refine⟨hu.ne,fv,cap,f,⟨vs⟩,W,Y w,(ht _ w vs u r.1 hd2 hu).mono ?_⟩;rintro e u' w' ⟨⟨v,rfl⟩,g',ob',U',hs,hst,hle,hno',hu',hq⟩;obtain⟨y,z,C,F,e1,e2,e3,e4,hk⟩:=S U' ob' hq;obtain⟨gn,hrel,hkeep,hdn⟩:=V.after q k R (rM hit) hs hst hle hno' e1 e2 e3 e4;exact hk B0 B1 h0 h1 G l' _ gn a w' H (Um.Og (hu'.to λd v hd=>hdn (.d d) (.d d) v rfl hd)) hrel
theorem FT(c:j.results.toList=r)(h:Fin P e i r q σ):LvR P e j i s q [] .ret σ:=by
 subst c;intro B0 z x C b F u g a w U y k;cases U;cases y;exact Gw (B:=⟨B0.g,B0.w,B0.X,B0.n0,a.defers⟩) x ⟨g,⟨rfl,k.size,k.j9,k.store,(b _ _ _ (k.pG.forget [])).forget _⟩⟩ h
theorem Aa{f:FuncId}{U:Um}{id:Nat}(hf:P.funcs[f]? =some y)(hb:y.body=some (.seq (.region id [o].toArray false) c))(Y:y.ntmps=n)(hrs:y.results.toList=rs)
 (hn:Nat.ble q.length n=true) (hsl:ur 0 q=some sl) (k) (hk:i.length=k) (hop:∀ρ w,(execOp ρ o).run P w=.ok .recover w) (hg:o.guard=none) (V:o.dst=some t) (ht:Nat.blt t n=true)
 (hU:(U=.ret/\s=.d (.v .nilIface)/\U'=.ret)\/(∃ d,U=.vk d false/\s=.d d/\U'=.vk d true)) (hQ:∀out ob',Q0 out ob'->(∃ s,out=.ret s)/\Q U' ob')
 (h:iK P z k (YW k Q0) c (fin P z k rs Q0) ⟨n,(t,s)::sl,i⟩):RP P z f i q U Q:=by
 subst Y hk;rw[<- wH hsl] at h;intro g w vs u hs hdv hu;refine callsD_of_wpS hf hb λC cs r=>?_
 have hr:=wM (n:=y.ntmps) (by simpa using hn) hs hdv;have key:∀(v:Value) (H:FrameMode),s.Den g v->U'.Den g.m H->∀F,F={ C with mode:=H }::cs->
  wpOpsS P [o].toArray (Exit.thenS (c.wpS P (bodyPostS P y C cs (PO z g w i Q))) (bodyPostS P y C cs (PO z g w i Q))) [] (Act.put { tmps:=(⟨vs⟩:Array Value)++Array.replicate (y.ntmps-(⟨vs⟩:Array Value).size) undef,defers:=[] } (some t) v) F w:=by
  intro v H W hu' F e;subst e;have hr1:=hr.put (t:=t) ht W;refine wpS_of_wp (wp_mono (EP (B:=⟨g,w,lN i g,i.length,[]⟩) rfl hrs h ⟨g,hr1⟩) λe a' w' I=>?_);have post:∀e,uF z ⟨g,w,lN i g,i.length,[]⟩ Q0 e w'->(∃ v,e=.returned v)/\∃R ob' U'',jX z ob' R w'/\Ji ⟨g,w,lN i g,i.length,[]⟩ ob' R w'/\i.length<=ob'.length/\nF ob'=true/\U''.Den R.m H/\Q U'' ob':=by
   rintro e ⟨R,ob',J,M,G,h4,h5⟩;cases e with
   |returned v=>
    obtain⟨s,_,hq⟩:=h5;exact⟨⟨v,rfl⟩,R,ob',U',J,M,G,h4,hu'.to λd v V=>D.Den.mono M.mem d V,(hQ _ _ hq).2⟩
   |panicked c=>
    obtain⟨v,s,_,_,hq⟩:=h5;obtain⟨⟨_,S⟩,_⟩:=hQ _ _ hq;cases S
   |outgrown=>exact h5.elim
  cases e with
  |normal=>obtain⟨J,v,M,G⟩:=I;exact⟨J,H,rfl,v,M,post _ G⟩
  |ret=>obtain⟨J,v,M,G⟩:=I;exact⟨J,H,rfl,v,M,post _ G⟩
  |panic c=>obtain⟨J,G⟩:=I;obtain⟨⟨_,S⟩,_⟩:=post _ G;cases S
  |exit j=>exact I.elim
  |goto l=>exact I.elim
  |outgrown=>obtain⟨_,_,_,_,_,_,S⟩:=I;exact S.elim
 apply wpS_seq;apply wpS_region;have x:List.range [o].toArray.size=[0]:=rfl;rw[x];unfold wpOpsS;have ho:[o].toArray[0]? =some o:=rfl;simp only[ho,Region.wanted,hg,if_true,hop];rcases hU with⟨rfl,rfl,rfl⟩|⟨d,rfl,rfl,rfl⟩
 .have hu0:u=.returning:=hu;subst hu0;have b:recoverD (C::cs)=none:=by simp[recoverD,r]
  rw[b,V];exact key _ .returning rfl rfl _ (by cases C;simp only at r;subst r;rfl)
 .obtain ⟨v,W,rfl⟩:=hu;have b:recoverD (C::cs)=some (v,{ C with mode:=.panicking [{ v:=v,recovered:=true }] }::cs):=by simp[recoverD,r]
  rw[b,V];exact key v _ W ⟨v,W,rfl⟩ _ rfl
theorem wj{f:FuncId}(M:P.funcs[f]? =some s)(R:s.body=some c)(C:s.ntmps=n)(F:s.results.toList=rs)
 (S:Nat.ble j.length n=true) (G:ur 0 j=some I) (k) (q:i.length=k) (h:iK P r k ⟨(YW k Q).pn,adf P r s Q⟩ c (fin P r k rs Q) ⟨n,I,i⟩):jT P r f i j Q:=by
 subst C q F;rw[<- wH G] at h;intro g w vs V hd;refine calls_of_wp_defers M R ?_;refine wp_mono (h ⟨g,w,lN i g,i.length,[]⟩ rfl _ w ⟨g,wM (by simpa using S) V hd⟩) λe H J hl=>?_
 have U:∀σ,Rel r ⟨g,w,lN i g,i.length,[]⟩ σ H J->Fin P r i.length s.results.toList Q σ->Leaves P s H.tmps (uF r ⟨g,w,lN i g,i.length,[]⟩ Q) H.defers .returning J:=λσ z q=>by
  obtain⟨v,x,y⟩:=Gw (B:=⟨g,w,lN i g,i.length,[]⟩) rfl z q;obtain⟨_,z⟩:=z;rw[z.defers];exact⟨v,x,y⟩
 cases e with
 |normal=>obtain⟨σ,b,q⟩:=hl;exact U σ b q
 |ret=>
  rcases hl with⟨W,x,y⟩|⟨σ,b,q⟩
  .show Leaves _ _ _ _ _ _ _;rw[x,bR];exact y
  .exact U σ b q
 |exit id=>obtain⟨σ,b,q⟩:=hl;exact q.elim
 |goto l=>obtain⟨σ,b,q⟩:=hl;exact q.elim
 |panic c=>
  rcases hl with⟨W,x,y⟩|⟨Y,hp⟩
  .show Leaves _ _ _ _ _ _ _;rw[x,bR];exact y
  .show Leaves _ _ _ _ _ _ _;rw[Y];exact LA (B:=⟨g,w,lN i g,i.length,[]⟩) hp
 |outgrown=>exact hl.elim
theorem Lf(c:xb P T=true)(x j)(e:(x=.nilIface/\j=true)\/(∃ U y,x=.iface U y/\j=false))(w):(Op.equal T x .nilIface).run P w=.ok j w:=by
 obtain⟨i,k⟩:=Vq c;have h:∀d:Nat,(Op.equalIn (d+1) T x .nilIface).run P w=.ok j w:=λd=>by
  rcases e with⟨rfl,rfl⟩|⟨U,y,rfl,rfl⟩<;>simp[Op.equalIn,run_underlying k]
 simp[Op.equal,Op.maxDepth,h 9999]
theorem Km{b:Bool}(G:o.op=.binOp c T x (.const .nilIface) F)(H:jb r σ.sl x=some s)(h:c=.eql\/c=.neq)(I:∀g y,s.Den g y->(y=.nilIface/\b=true)\/(∃ U z,y=.iface U z/\b=false))(J:xb P T=true)(M:K (fH (if c=.eql then b else !b)) []):ik P r o σ K:=nG λB g a w R=>by
 have i:=I _ _ (R.oe H);refine⟨fH (if c=.eql then b else !b),_,λk=>?_,rfl,M⟩;have C:=Lf J _ b i k;have S:a.eval (.const .nilIface)=.nilIface:=rfl;have j:∀c,(eqGuard c T x (.const .nilIface) (a.eval x) .nilIface).run P k=.ok () k:=λc=>by
  unfold eqGuard;rcases i with⟨e,_⟩|⟨U,z,e,_⟩<;>rw[e]<;>cases c<;>simp
 have q:∀c,c=.eql\/c=.neq->(binOp c T (a.eval x) .nilIface).run P k=.ok (.bool (if c=.eql then b else !b)) k:=λc h=>by
  rcases i with⟨e,_⟩|⟨U,z,e,_⟩<;>rw[e] at C ⊢ <;>rcases h with rfl|rfl<;>
   simp only[binOp,Sem.run_bind,C,Sem.run_pure,Result.andThen_ok,if_true]<;>rfl
 simp only[execOp,G,S,Sem.run_bind,j c,Result.andThen_ok,q c h,Sem.run_pure]
theorem DY(h:xb P T=true)(i:o.op=.binOp .eql T x (.const .nilIface) e)(j:jb c σ.sl x=some (.d (.v .nilIface)))(q:K (fH true) []):ik P c o σ K:=
 Km (b:=true) i j (.inl rfl) (λg y hd=>.inl ⟨hd,rfl⟩) h q
theorem vu(h:xb P T=true)(i:K (fH true) [])(j:o.op=.binOp .eql T x (.const .nilIface) e:=by exact rfl)(q:jb c σ.sl x=some (.d (.v .nilIface)):=by exact rfl):ik P c o σ K:=DY h j q i
theorem MC(h:xb P T=true)(i:o.op=.binOp .neq T x (.const .nilIface) e)(j:jb c σ.sl x=some (.d (.v .nilIface)))(q:K (fH false) []):ik P c o σ K:=
 Km (b:=true) i j (.inr rfl) (λg y hd=>.inl ⟨hd,rfl⟩) h q
theorem AO(h:xb P T=true)(i:K (fH false) [])(j:o.op=.binOp .neq T x (.const .nilIface) e:=by exact rfl)(q:jb c σ.sl x=some (.d (.v .nilIface)):=by exact rfl):ik P c o σ K:=MC h j q i
theorem IK(i:xb P T=true)(j:o.op=.binOp .eql T x (.const .nilIface) h)(q:jb c σ.sl x=some (.d (.uU s C)))(r:K (fH false) []):ik P c o σ K:=
 Km (b:=false) j q (.inl rfl) (λg y hd=>by obtain⟨z,e,_⟩:=hd;exact .inr ⟨_,_,e,rfl⟩) i r
theorem MG(h:xb P T=true)(i:K (fH false) [])(j:o.op=.binOp .eql T x (.const .nilIface) e:=by exact rfl)(q:jb c σ.sl x=some (.d (.uU r s)):=by exact rfl):ik P c o σ K:=IK h j q i
theorem EJ(h:o.op=.binOp .add T x y e)(i:jb c σ.sl x=some (fE m))(j:jb c σ.sl y=some (fE n))(q:K (fE (IntKind.i64.wrap (m+n))) []):ik P c o σ K:=
 rj h i j rfl (by simp) (λw=>by simp[binOp,Op.intArith]) q
theorem Gq(c:wB P z=true)(h:o.op=.typeAssert x X z true)(i:jb e σ.sl x=some (.d (.uU z C)))(j:K (.d (.jj [C,fF true])) []):ik P e o σ K:=nG λB g a w k=>by
 obtain⟨y,q,hd⟩:=k.oe i;refine⟨.d (.jj [C,fF true]),.tuple #[y,.bool true],λs=>?_,⟨_,rfl,y,_,rfl,hd,_,_,rfl,rfl,rfl⟩,j⟩;unfold wB at c;cases b:P.underlying z with
 |none=>rw[b] at c;cases c
 |some r=>
  rw[b] at c;cases r<;>first
   |(cases c;done)
   |simp only[execOp,h,q,Instr.typeAssert,Sem.run_bind,run_underlying b,Result.andThen_ok,if_true,Sem.run_pure]
theorem Ho(e:K (.d (.jj [r,fF true])) [])(h:o.op=.typeAssert x X q true:=by exact rfl)(i:jb c σ.sl x=some (.d (.uU q r)):=by exact rfl)(j:wB P q=true:=by kernel_rfl):ik P c o σ K:=Gq j h i e
theorem lP:(∀ (p:Prop) [Decidable p],(decide p=true)=p)/\(∀ (p:Prop) [Decidable p],(decide p=false)= ¬p)/\(∀ b:Bool,((!b)=true)=(b=false))/\(∀ b:Bool,((!b)=false)=(b=true))/\((!true)=false)/\((!false)=true)
 /\(∀ a b:Int,(¬ a<b)=(b<=a))/\(∀ a b:Int,(¬ a<=b)=(b<a))/\(∀ a b:Bool,((a&&b)=true)=(a=true/\b=true))/\(∀ a b:Bool,((a||b)=true)=(a=true\/b=true))/\(∀ a b:Bool,((a&&b)=false)=(a=false\/b=false))/\(∀ a b:Bool,((a||b)=false)=(a=false/\b=false))
 /\((false=true)=False)/\((true=false)=False)/\((¬ True)=False)/\((¬ False)=True)/\(∀ [Decidable True],decide True=true)/\(∀ [Decidable False],decide False=false)
 /\(∀ p:Prop,(True/\p)=p)/\(∀ p:Prop,(p/\True)=p)/\(∀ p:Prop,(False/\p)=False)/\(∀ p:Prop,(p/\False)=False)/\(∀ p:Prop,(True\/p)=True)/\(∀ p:Prop,(p\/True)=True)/\(∀ p:Prop,(False\/p)=p)/\(∀ p:Prop,(p\/False)=p)
 /\(∀ b:Bool,(true&&b)=b)/\(∀ b:Bool,(false&&b)=false)/\(∀ b:Bool,(b&&true)=b)/\(∀ b:Bool,(b&&false)=false)/\(∀ b:Bool,(true||b)=true)/\(∀ b:Bool,(false||b)=b)/\(∀ b:Bool,(b||true)=true)/\(∀ b:Bool,(b||false)=b)
 /\(∀ n:Nat,(n:Int).toNat=n)/\(∀ n:Nat,((n:Int)+1).toNat=n+1):=by
 repeat' apply And.intro
 all_goals first
  |rfl
  |(intros;simp;done)
  |(intro a b;exact propext dJ)
  |(intro a b;exact propext Int.not_le)
  |(intros;omega)
  |(intro a b;cases a<;>cases b<;>simp)
theorem sr(h:iL P c e i l l (Ex.seq (λb=>iK P c e i j Q b) Q) σ):iK P c e i (.seq (.region q l.toArray false) j) Q σ:=wJ (ue h)
theorem nx(h:iK P c e i q Q σ):iL P c e i j [] (Ex.seq (λb=>iK P c e i q Q b) Q) σ:=BB (Au h)
theorem kp(L)(h:iK P i j q c Q ⟨n,e,s⟩)(x:uz r L=some e:=by exact rfl):iK P i j q c Q ⟨n,r,s⟩:=HV L x h
theorem cd(h1:s=true->iK P e h i j Q σ)(h2:s=false->iK P e h i q Q σ)(r:jb e σ.sl c=some (fH s):=by exact rfl):iK P e h i (.cond c j q) Q σ:=tu r h1 h2
theorem EM(h2:s=false->iK P e h i q Q σ)(h1:s=true->iK P e h i j Q σ)(r:jb e σ.sl c=some (fH s):=by exact rfl):iK P e h i (.cond c j q) Q σ:=tu r h1 h2
theorem asp(z)
 (s:C=true->iW P i j q l e c L Q ⟨n,(z,fH true)::h,r⟩) (x:C=false->iW P i j q l e c L Q ⟨n,(z,fH false)::h,r⟩) (y:oV z h=some (fH C):=by exact rfl):iW P i j q l e c L Q ⟨n,h,r⟩:=Jb z y s x
theorem P6(z)
 (s:C=false->iW P i j q l e c L Q ⟨n,(z,fH false)::h,r⟩) (x:C=true->iW P i j q l e c L Q ⟨n,(z,fH true)::h,r⟩) (y:oV z h=some (fH C):=by exact rfl):iW P i j q l e c L Q ⟨n,h,r⟩:=Jb z y x s
theorem ck{f:FuncId}(hc:iA P f=true)(ho:o.op=.call { callee:=.value (.func f),args:=args,argTypes:=ts })(ha:GC G H args.toList=some z)(ht:jT P G f i e λout b=>out=.ret r/\b=ob')(c)(I:qD c e=some m)(C:jh h c i c)(J:nQ h z m)
 (hK:K ⟨n,(t,W)::j,y⟩) (F:o.dst=some t:=by exact rfl) (M:Nat.blt t n=true:=by exact rfl) (R:me c=true:=by exact rfl) (S:nF i=true:=by exact rfl) (V:qU c h=true:=by exact rfl)
 (e1:r6 (names c h.length (ob'.length-c.length)) ob'=some x:=by exact rfl) (e2:vH c h=some q:=by exact rfl) (e3:pM c q x=some y:=by exact rfl) (e4:xW c H=some j:=by exact rfl) (e5:r.j5 (names c h.length (ob'.length-c.length))=some W:=by exact rfl):jI P G Y Pn (· ∈c) o ⟨n,H,h⟩ K:=
 iX hc ho ha F M ht c C R S V I J (λs b hq=>by
  obtain⟨h1,rfl⟩:=hq;cases h1;exact⟨_,_,_,_,_,e1,e2,e3,e4,e5,hK⟩) (λs b hq=>by cases hq.1)
theorem cv(C:iA P J=true)(F:o.op=.call { callee:=.value (.func J),args:=args,argTypes:=z })(G:GC i j args.toList=some e)(H:jA P i J c (· =M))(r:nQ q e (c.map .d))(I:K ⟨n,(t,.d M)::j,q⟩)
 (h:o.dst=some t:=by exact rfl) (s:Nat.blt t n=true:=by exact rfl):jI P i x y (λ_=>False) o ⟨n,j,q⟩ K:=
 oK C F G h s H r λb hd=>by cases hd;exact I
theorem jw(h:nQ c l m):nQ c (s::l) (s::m):=.cons (.refl s) h
theorem oq(h:nQ c l m)(e:s.p9=some i:=by exact rfl):nQ c (s::l) (.d i::m):=.cons (.p9 e) h
theorem C9:nQ c [] []:=.nil
theorem XU(h:nQ c l m):nQ c (fK::l) (.d (.sl e [])::m):=.cons .U2 h
theorem nw:jh c ρ [] []:=.nil
theorem jN(s:jh c ρ r e)(x:jo i c=some (.cells l q):=by exact rfl)(h:qD ρ j=some l:=by exact rfl):jh c ρ (.cells j q::r) (i::e):=.cons x (.cells h (nQ.rfl _)) s
theorem Ky(s:nQ c l m)(x:jh c ρ r e)(y:jo i c=some (.cells l q):=by exact rfl)(h:qD ρ j=some m:=by exact rfl):jh c ρ (.cells j q::r) (i::e):=.cons y (.cells h s) x
theorem oT(j:jh c ρ r h)(q:jo i c=some (.row e s):=by exact rfl):jh c ρ (.row e s::r) (i::h):=.cons q .row j
theorem D3(j:jh c ρ r h)(q:jo i c=some (.jd e s):=by exact rfl):jh c ρ (.row e s::r) (i::h):=.cons q .acz j
theorem Tz(j:jh c ρ r h)(q:jo i c=some (.jd e s):=by exact rfl):jh c ρ (.jd e s::r) (i::h):=.cons q .QX j
theorem Nz(s:jh c ρ r h)(x:jo i c=some (.buf e y j q):=by exact rfl):jh c ρ (.buf e y j q::r) (i::h):=.cons x .buf s
theorem ab5(j:jh c ρ r h)(q:jo i c=some (.jd e s):=by exact rfl):jh c ρ (.buf e s [] none::r) (i::h):=.cons q .XC j
theorem uC{f:fB->Option Int}(h:jh c ρ r e)(j:jo i c=some (.jc f):=by exact rfl):jh c ρ (.jc f::r) (i::e):=.cons j .jc h
theorem bod(h:jh c ρ r e)(j:jo i c=some o:=by exact rfl):jh c ρ (.dead::r) (i::e):=.cons j .dead h
theorem rA:tl c ρ e []:=.nil
theorem yu(h:s.j5 ρ=some i)(j:Fit c (vO t e) i)(q:tl c ρ e r):tl c ρ e ((t,s)::r):=.cons h j q
theorem iU(i:tl e ρ c r)(h:s.j5 ρ=some (vO t c):=by exact rfl):tl e ρ c ((t,s)::r):=.cons h (.refl _) i
theorem mo(h:jh e ρ ob' ρ)(i:tl e ρ s c)(x:pre 0 r ρ=true:=by exact rfl)(j:me ρ=true:=by exact rfl)(q:nF ob'=true:=by exact rfl):um r ⟨n,s,e⟩ ⟨n,c,ob'⟩ ρ:=BH x j q h i
theorem vm{k:Nat}(M:o.op=.makeMap J none)(R:o.dst=some t)(S:Nat.blt t n=true)(V:j.length=k)(y:pY j [.jc λ_=>none]=some c)
 (h:K ⟨n,(t,.map k)::F,c⟩):jI P G H I T o ⟨n,F,j⟩ K:=λB hB g a w z next Q W hP=>by
 subst V;rw[nM y] at h;have U:(execOp a.eval o).run P w=.ok (.value (.map (some w.heap.size))) (w.alloc (.map #[] 0)):=by
  simp only[execOp,M,dK,Sem.run_bind,Sem.run_pure,run_makeMap,Result.andThen_ok]
 have C:∀o,g.m w.heap.size o=none:=λo=>by
  cases Y:g.m w.heap.size o with
  |none=>rfl
  |some x=>have:=z.store.rB Y;omega
 obtain⟨q,r⟩:=z.Eh ((Fr.refl _ w).alloc (.map #[] 0)) (pV.refl _) (λb o x q r=>by rw[r] at q;cases q) (o':=.jc λ_=>none) (pl:=.loc w.heap.size) ⟨te.made w,C⟩ (λb hb=>by simp only[jP,np,an] at hb;omega) (λi f dn cur e=>by cases e);unfold Oper.wp;rw[U];show next (a.put o.dst _) _
 rw[R];exact W _ _ _ _ (q.wQ (s:=.map j.length) S ⟨w.heap.size,by rw[z.store.len];simp,rfl⟩) ⟨r.1,λi b o _=>r.2 i b o (λx=>x)⟩ h
theorem Ii{k:TypeId}{f:fB->Option Int}(C:GV P I k e)(R:o.op=.lookup I x y c)(S:o.dst=some t)(V:Nat.blt t n=true)
 (W:jb r q x=some (.map i)) (Y:jb r q y=some (fI s)) (hi:jo i z=some (.jc f)) (h:K ⟨n,(t,.d (if c then .jj [fD ((f s).getD 0),fF (f s).isSome] else fD ((f s).getD 0)))::q,z⟩):jI P r J M T o ⟨n,q,z⟩ K:=
 wU S V λB g a w F=>by
  obtain⟨b,hb,G⟩:=F.oe W;have H:a.eval y=.string s:=F.oe Y;obtain⟨U,_⟩:=F.store.qM _ _ _ (iS hi) hb;have j:=U.lookup C.under C.key C.zero s c;refine⟨_,if c then .tuple #[.int .i64 ((f s).getD 0),.bool (f s).isSome] else .int .i64 ((f s).getD 0),by simp only[execOp,R,G,H,Sem.run_bind,j,Result.andThen_ok,Sem.run_pure],?_,h⟩;cases c
  .rfl
  .exact ⟨_,rfl,_,_,rfl,rfl,_,_,rfl,rfl,rfl⟩
theorem Ay(F:GV P r S e)(G:o.op=.lookup r x y false)(H:o.dst=some t)(I:Nat.blt t n=true)
 (J:jb j c x=some (.map i)) (M:jb j c y=some (fI s)) (R:jo i q=some (.jc V)) (h:K ⟨n,(t,fE ((V s).getD 0))::c,q⟩):jI P j z C (λ_=>False) o ⟨n,c,q⟩ K:=Ii F G H I J M R h
theorem FD(F:GV P r S e)(G:o.op=.lookup r x y true)(H:o.dst=some t)(I:Nat.blt t n=true)
 (J:jb j c x=some (.map i)) (M:jb j c y=some (fI s)) (R:jo i q=some (.jc V)) (h:K ⟨n,(t,.d (.jj [fD ((V s).getD 0),fF (V s).isSome]))::c,q⟩):jI P j z C (λ_=>False) o ⟨n,c,q⟩ K:=Ii F G H I J M R h
theorem zB{ty k:TypeId}{f:fB->Option Int}(hm:GV P ty k e)(ho:o.op=.mapUpdate ty x y z)(hd:o.dst=none)
 (hx:jb H c x=some (.map i)) (hy:jb H c y=some (fI s)) (hz:jb H c z=some (fE v)) (hi:jo i I=some (.jc f)) (J:py i I=true) (M:pD i (.jc (pW f s v)) I=some q) (h:K ⟨n,c,q⟩):jI P H n0 Pn (λj=>j=i) o ⟨n,c,I⟩ K:=λB hB g a w r next Q hK hP=>by
 obtain⟨b,hb,R⟩:=r.oe hx;have S:a.eval y=.string s:=r.oe hy;have V:a.eval z=.int .i64 v:=r.oe hz;obtain⟨C,F⟩:=r.store.qM _ _ _ (iS hi) hb;obtain⟨w',G,W,Y⟩:=C.update hm.under hm.key s v;have U:(execOp a.eval o).run P w=.ok .skip w':=by simp only[execOp,ho,R,S,V,Sem.run_bind,G,Result.andThen_ok,Sem.run_pure]
 unfold Oper.wp;rw[U];show next (a.put o.dst _) _
 rw[hd];obtain⟨h1,h2⟩:=r.NL (o':=.jc (pW f s v)) (iS hi) hb rfl Y ⟨W,F⟩ (.inl rfl) (rD J) (λk f dn cur h=>by cases h) F;rw[<- (nL M).1] at h1;exact hK _ _ _ _ h1 h2 h
theorem Ij{k:TypeId}{f:fB->Option Int}(Y:GV P I k e)(ho:o.op=.call { callee:=.builtin .delete,args:= #[x,y],argTypes:= #[I,k] })(hd:o.dst=none)
 (hx:jb H C x=some (.map i)) (hy:jb H C y=some (fI s)) (hi:jo i F=some (.jc f)) (J:py i F=true) (M:pD i (.jc (PR f s)) F=some c) (h:K ⟨n,C,c⟩):jI P H n0 Pn (λj=>j=i) o ⟨n,C,F⟩ K:=λB hB g a w G next Q hK hP=>by
 obtain⟨b,hb,R⟩:=G.oe hx;have S:a.eval y=.string s:=G.oe hy;obtain⟨q,r⟩:=G.store.qM _ _ _ (iS hi) hb;obtain⟨w',z,V,W⟩:=q.delete (ty:=o.type) Y.under Y.key s;have U:(execOp a.eval o).run P w=.ok (.value (.tuple #[])) w':=by
  simp only[execOp,ho,resolve,Sem.run_bind,Sem.run_pure,Result.andThen_ok,invoke,builtin,ed,bG,de,R,S,z]
 unfold Oper.wp;rw[U];show next (a.put o.dst _) _
 rw[hd];obtain⟨h1,h2⟩:=G.NL (o':=.jc (PR f s)) (iS hi) hb rfl W ⟨V,r⟩ (.inl rfl) (rD J) (λk f dn cur h=>by cases h) r;rw[<- (nL M).1] at h1;exact hK _ _ _ _ h1 h2 h
theorem FA{n0:Nat}{n t:Nat}{H:List (Nat×SV)}{c q:List Ob}{ty k:TypeId}{i j:Nat}{f:fB->Option Int}(hm:GV P ty k e)(ho:o.op=.range ty x)(hd:o.dst=some t)(ht:Nat.blt t n=true)
 (I:jb Y H x=some (.map i)) (hi:jo i c=some (.jc f)) (hl:c.length=j) (J:pY c [.ru i f [] none]=some q) (h:K ⟨n,(t,.jk j 0)::H,q⟩):jI P Y n0 Pn T o ⟨n,H,c⟩ K:=λB hB g a w r next Q hK hP=>by
 subst hl;rw[nM J] at h;obtain⟨b,y,M⟩:=r.oe I;obtain⟨z,_⟩:=r.store.qM _ _ _ (iS hi) y;obtain⟨w',m,C,R,S⟩:=z.range hm.under;have U:(execOp a.eval o).run P w=.ok (.value (.pointer (some ⟨w.heap.size,0,none⟩))) w':=by simp only[execOp,ho,M,Sem.run_bind,C,Result.andThen_ok,Sem.run_pure]
 have V:∀o,g.m w.heap.size o=none:=λo=>by
  cases I:g.m w.heap.size o with
  |none=>rfl
  |some x=>have:=r.store.rB I;omega
 have W:(g.gs++[Pl.loc w.heap.size])[i]? =some (.loc b):=by rw[bl (aJ.1 y).1];exact y
 obtain⟨F,G⟩:=r.Eh S (pV.refl _) (λb o x F G=>by rw[G] at F;cases F) (o':=.ru i f [] none) (pl:=.loc w.heap.size) ⟨b,W,⟨m,R⟩,(λs n e=>by cases e),V⟩ (λb y=>by simp only[jP,np,an] at y;omega) (λi' f' dn cur e=>by cases e;exact iS hi);unfold Oper.wp;rw[U];show next (a.put o.dst _) _
 rw[hd];exact hK _ _ _ _ (F.wQ (s:=.jk c.length 0) ht (EO r.store.len)) ⟨G.1,λi b o _=>G.2 i b o (λx=>x)⟩ h
theorem JT{f:fB->Option Int}(ho:o.op=.next x false)(hd:o.dst=some t)(ht:Nat.blt t n=true)
 (hx:jb GL M x=some (.jk j 0)) (R:jo j y=some (.ru i f z S)) (V:py j y=true)
 (h1:(∀ s n,f s=some n->(s,n)∈z)->K ⟨n,(t,.d (.jj [fF false]))::M,y⟩)
 (h2:∀s v,f s=some v->(s,v)∉z->∃ob',pD j (.ru i f ((s,v)::z) (some (s,v))) y=some ob'/\K ⟨n,(t,.d (.jj [fF true,fG s,fD v]))::M,ob'⟩):jI P GL n0 Pn (λk=>k=j) o ⟨n,M,y⟩ K:=λB hB g a w C next Q hK hP=>by
 obtain⟨b,hb,F⟩:=C.oe hx;obtain⟨c,hc,⟨m,W⟩,hat,G⟩:=C.store.qM _ _ _ (iS R) hb;have r:=C.store.th _ _ _ _ _ (iS R);rcases GX.next (P:=P) (ty:=o.type) W with⟨q,H⟩|⟨s,v,m',w',q,hf,Y,_,I,J,hfr⟩
 .have U:(execOp a.eval o).run P w=.ok (.value (.tuple #[.bool false])) w:=by simp only[execOp,ho,F,Sem.run_bind,q,Result.andThen_ok,Sem.run_pure]
  unfold Oper.wp;rw[U];show next (a.put o.dst _) _
  rw[hd];exact hK _ _ _ _ (C.wQ (s:=.d (.jj [fF false])) ht ⟨_,rfl,_,_,rfl,rfl,rfl⟩) (z8.refl _ _ _ _) (h1 H)
 .obtain ⟨ob',hob,hk⟩:=h2 s v hf Y;have U:(execOp a.eval o).run P w=.ok (.value (.tuple #[.bool true,.string s,.int .i64 v])) w':=by simp only[execOp,ho,F,Sem.run_bind,q,Result.andThen_ok,Sem.run_pure]
  have hij:i≠j:=λe=>by subst e;rw[iS R] at r;cases r
  obtain⟨h3,h4⟩:=C.NL (o':=.ru i f ((s,v)::z) (some (s,v))) (iS R) hb rfl hfr ⟨c,hc,⟨m',I⟩,(λs' n' e=>by cases e;exact J),G⟩ (.inl rfl) (rD V) (λk f' dn' cur' h=>by cases h;exact⟨hij,r⟩) G;unfold Oper.wp;rw[U];show next (a.put o.dst _) _
  rw[hd];rw[<- (nL hob).1] at h3;exact hK _ _ _ _ (h3.wQ (s:=.d (.jj [fF true,fG s,fD v])) ht ⟨_,rfl,_,_,rfl,rfl,_,_,rfl,rfl,_,_,rfl,rfl,rfl⟩) h4 hk
theorem FE(H:o.op=.entry x)(I:o.dst=some t)(J:Nat.blt t n=true)
 (M:jb y e x=some (.jk j 0)) (R:jo j q=some (.ru i W G (some (s,v)))) (h:K ⟨n,(t,.d (.jj [fG s,fD v]))::e,q⟩):jI P y C F T o ⟨n,e,q⟩ K:=
 wU I J λB g a w z=>by
  obtain⟨b,S,U⟩:=z.oe M;obtain⟨c,V,_,r,_⟩:=z.store.qM _ _ _ (iS R) S;have k:=(r s v rfl).entry (P:=P);exact⟨.d (.jj [fG s,fD v]),.tuple #[.string s,.int .i64 v],by simp only[execOp,H,U,Sem.run_bind,k,Result.andThen_ok,Sem.run_pure],⟨_,rfl,_,_,rfl,rfl,_,_,rfl,rfl,rfl⟩,h⟩
def Ek(c:List Ob):List Ob->Prop
 |[]=>True
 | .ru i f _ _::r=>jo i c=some (.jc f)/\Ek c r
 | .cells _ _::r=>Ek c r
 | .row _ _::r=>Ek c r
 | .jd _ _::r=>Ek c r
 | .buf _ _ _ _::r=>Ek c r
 | .jc _::r=>Ek c r
 | .jK _::r=>Ek c r
 | .rU _ _::r=>Ek c r
 | .dead::r=>Ek c r
theorem Mf{c:List Ob}:∀{l:List Ob},Ek c l->∀(j i:Nat) f k b,l[j]? =some (.ru i f k b)->c[i]? =some (.jc f)
 |[],_,j,i,f,k,b,h=>by simp at h
 |o::r,h,j,i,f,k,b,U=>by
  cases j with
  |zero=>
   simp at U;subst U;exact iS h.1
  |succ j=>
   have:Ek c r:=by cases o<;>first|exact h|exact h.2
   exact Mf this j i f k b (by simpa using U)
theorem mei(j:jh i ρ c ρ)(q:tl i ρ x e)(h:Ek c c)(y:pre 0 s ρ=true:=by exact rfl)(r:me ρ=true:=by exact rfl):um s ⟨n,x,i⟩ ⟨n,e,c⟩ ρ:=
 ⟨rfl,y,r,Mf h,j,q⟩
theorem boi{f:fB->Option Int}(s:jh c ρ r j)(x:jo i c=some (.ru h f q e):=by exact rfl)(y:jo z ρ=some h:=by exact rfl):jh c ρ (.ru z f q none::r) (i::j):=.cons x (.ru y (.inr rfl)) s
def Xb(m n:Int):Int:=IntKind.wrap .u8 (m-n)
theorem XV(h:o.op=.binOp .sub T x y e)(i:jb c σ.sl x=some (.d (.v (.int .u8 m))))(j:jb c σ.sl y=some (.d (.v (.int .u8 n))))(q:K (.d (.v (.int .u8 (Xb m n)))) []):ik P c o σ K:=
 rj h i j rfl (by simp) (λw=>by simp only[binOp,Op.intArith,ne_eq,not_true_eq_false,if_false];rfl) q
theorem NZ(h:48<=c/\c<=57):Xb c 48=c-48:=by
 unfold Xb IntKind.wrap;simp[IntKind.bits,IntKind.signed];omega
theorem ND(h:0<=c/\c<=255):IntKind.wrap .i64 c=c:=by
 unfold IntKind.wrap;simp[IntKind.bits,IntKind.signed];omega
theorem P1(s:fB):(s.data.toList.map λc=>(c.toNat:Int)).foldl (λr n=>r.push (UInt8.ofNat n.toNat)) ByteArray.empty=s:=by
 have h:∀(l:List UInt8) (r:fB),(l.map λc=>(c.toNat:Int)).foldl (λr n=>r.push (UInt8.ofNat n.toNat)) r=⟨⟨r.data.toList++l⟩⟩:=by
  intro l
  induction l with
  |nil=>intro r;simp
  |cons c l b=>
   intro r;simp only[bG,List.foldl_cons];rw[b];simp[ByteArray.push]
 rw[h];rfl
theorem Kr(hu:P.underlying h=some (.slice e))(he:P.underlying e=some (.int .u8))(hd:P.underlying q=some .string)(ho:o.op=.convert h q x)
 (hx:jb S σ.sl x=some (.own i 1 V)) (C:V=wF s) (F:s≠ .empty) (hK:K (fI s) []):ik P S o σ K:=λB g a w W=>by
 subst C;obtain⟨ad,cap,h1,hc,G⟩:(D.sl 1 (wF s)).Den g.m (a.eval x):=Fx (W.oe hx);obtain⟨b,off,rfl,H⟩:=G (Tv F);have Y:∀(j:Nat) c,s.data.toList[j]? =some c->g.m b (off+j)=some (.int .u8 c.toNat):=λj c k=>by
  have I:(wF s)[j]? =some [.v (.int .u8 c.toNat)]:=by simp only[wF,bt,k,bH]
  obtain⟨⟨y,hy,J⟩,_⟩:=(H.get I).2;rw[Nat.mul_one] at hy;rw[hy];exact congrArg some J
 refine⟨s.data.toList.zipIdx.map λp=>(⟨b,off+p.2,none⟩,.int .u8 p.1.toNat),fI s,.string s,[],λr M=>?_,λp R=>?_,λp R=>?_,rfl,hK⟩
 .have hl:(loadCells ⟨b,off,none⟩ (wF s).length).run P r=.ok ((s.data.toList.map λc=>(c.toNat:Int)).map (Value.int .u8)).toArray r:=by
   have:=run_loadCells_list (P:=P) r ⟨b,off,none⟩ ((s.data.toList.map λc=>(c.toNat:Int)).map (Value.int .u8)) (λj v k=>by
    rw[pU];simp only[bt] at k;cases U:s.data.toList[j]? with
    |none=>rw[U] at k;cases k
    |some c=>
     rw[U] at k;simp only[bH,an] at k;subst k;exact M _ (bD.2 ⟨(c,j),dg.2 U,rfl⟩))
   simpa[wF] using this
  simp only[execOp,ho,h1,Sem.run_bind,run_convert_bytes_string r h q e _ _ _ hu he hd,run_bytesToString r _ _ _ _ hl,Result.andThen_ok,P1];rfl
 .obtain ⟨⟨c,j⟩,z,rfl⟩:=bD.1 R;rw[dg] at z;exact(W.store.sat _ _ _ (Y j c z)).1
 .obtain ⟨⟨c,j⟩,z,rfl⟩:=bD.1 R;rw[dg] at z;exact⟨rfl,.inl (Y j c z)⟩
end
end Go.Vd
