/-
  What is proved here: ReduceRests: whatever script it is called on that is of bulk at most 1048576, it answers true, and the script reads as it did; on condition that the listed package variables start as the text lays them, which the card ties.
-/
import Derived.Test.YtndbnldjidciiaaGreatDoorP5
set_option linter.unusedSimpArgs false
set_option linter.unusedVariables false
set_option linter.unusedSectionVars false
namespace Go.Proofs.YtndbnldjidciiaaGreatDoor
variable{ι σ A B B' C F G H I J K M N P R S T V W X Y a a6 args az br c cty e es first fn g gl h i j k2 l l3 l4 m m' m3 m4 most n n' n0 ng nh o ob' p q q2 r r3 rp rs rt s s3 s4 sl sx t u us v w x y z}
open Go Go.Vd Go.RowKit
section
attribute [local irreducible] iK iL jI ik iW jH
def ShQ(z o:jR)(l:jC)(c:Out)(e:List Ob):Prop:=
 ∃n f q,c=.ret (.jj [.agg [.d (.v (.int .i64 n)),.map 2],.d (.v (.string q))])/\e=[.jc z,.jc o,.jc f]/\Shape l z o n f q
theorem CA(z o)(c:xq z)(i:xq o)(s):
 jT fC e 158 [.jc z,.jc o] [.d (jC.param s).iT.d,.map 0,.map 1] (ShQ z o (.param s)):=by
 have k:z s=none\/z s=some 1:=by
  cases h:z s with
  |none=>exact .inl rfl
  |some m=>rw[c s m h];exact .inr rfl
 unfold jC.iT;refine nR Tryz.func158 114 2 ?_;refine rF 9 ?_;refine oc (T:=λ_=>False) (vm rfl rfl rfl (by simp only[aj,aH,Nat.reduceAdd];rfl) rfl ?_);refine Eo 19 ?_;refine rF 6 ?_;refine oc (Ay vV rfl rfl rfl rfl rfl rfl ?_);refine j7 3 ?_ ?_<;>intro b
 .refine rF 12 ?_;refine fR<|pe ⟨_,_,rfl,(jB rfl rfl Bf rfl rfl rfl rfl),⟨_,_,rfl,rfl,rfl⟩⟩ [0,1,4] (.jj [.agg [fE 0,.map 2],fI .empty]) ([.jc z,.jc o,.jc (λ_=>none)]) rfl rfl rfl ?_ rfl ?_ ?_
  .repeat (first|exact nw|refine uC ?_)
  .exact .refl _
  .refine ⟨_,_,_,rfl,rfl,Jy s ?_⟩;intro h;rw[h] at b;simp at b
 refine rF 9 ?_;refine oc (Ay vV rfl rfl rfl rfl rfl rfl ?_);refine oc (zB vV rfl rfl rfl rfl rfl rfl rfl rfl ?_);refine rF 6 ?_;refine oc (Ay vV rfl rfl rfl rfl rfl rfl ?_);refine rF 14 ?_;refine fR<|pe ⟨_,_,rfl,(jB rfl rfl Bf rfl rfl rfl rfl),⟨_,_,rfl,rfl,rfl⟩⟩ [0,1,4] (.jj [.agg [fE ((o s).getD 0),.map 2],fI .empty]) ([.jc z,.jc o,.jc (pW (λ_=>none) s ((o s).getD 0))]) rfl rfl rfl ?_ rfl ?_ ?_
 .repeat (first|exact nw|refine uC ?_)
 .exact .refl _
 .refine ⟨_,_,_,rfl,rfl,K4 c i s ?_⟩;rcases k with h|h
  .exact h
  .rw [h] at b;simp at b
theorem uu(z o:jR)(l:jC)(k:Int)(ls:List jC)(hl:l.iT=.mk k .empty (ls.map jC.iT))(h3:¬k=3)(h4:¬k=4)(x:∀a∈ls,a.size<=1099511627776)(Y:ls.length<=2)
 (ih:∀a∈ls,jT fC W 158 [.jc z,.jc o] [.d a.iT.d,.map 0,.map 1] (ShQ z o a))
 (y:∀n f,TN (if k=1 then 1 else 0) z o ls.reverse n f->Shape l z o n f .empty)
 (j:∀i n f q,TN (if k=1 then 1 else 0) z o (ls.take i).reverse n f->q≠ .empty->(∃ a∈ls,a.has q)->z q=none->o q=none->Shape l z o n f q):
 jT fC W 158 [.jc z,.jc o] [.d l.iT.d,.map 0,.map 1] (ShQ z o l):=by
 rw[hl];have J:=jn (ls.map jC.iT);simp only[bc] at J;have C:(0:Int)<=(if k=1 then 1 else 0)/\(if k=1 then(1:Int) else 0)<=1:=by split<;>omega
 refine nR Tryz.func158 114 2 ?_;refine rF 9 ?_;refine oc (T:=λ_=>False) (vm rfl rfl rfl (by simp only[aj,aH,Nat.reduceAdd];rfl) rfl ?_);refine jq 19 ?_ ?_<;>intro h3
 .contradiction
 refine jq 6 ?_ ?_<;>intro h8
 .contradiction
 refine pt 13 (ι:=Nat×Int×jR) (λ⟨i,n,f⟩=>[(91,int i)]) (λ⟨i,n,f⟩=>[.jc z,.jc o,.cells [fE k,fI .empty,.d (.sl 3 (iR (ls.map jC.iT)))] 121,.cells [fE 0,.d (.v (.map none))] 216,.jc f,.cells [fE n,.map 4] 216]) [90,89,8,6,3,1,2] (λ⟨i,n,f⟩=>i<=ls.length/\TN (if k=1 then 1 else 0) z o (ls.take i).reverse n f) (λ⟨i,n,f⟩=>ls.length-i) (⟨0,0,λ_=>none⟩) ([0,1,2,3,4,5]) ?I1 ?H1 (hM:= ?M1)
 case I1=>
  exact⟨ak _,rfl,rfl⟩
 case M1=>
  refine mo ?_ (iU (iU (iU (iU (iU (iU (iU (iU rA))))))))
  repeat (first|exact nw|refine jN ?_|refine uC ?_)
 case H1=>
  rintro⟨i,n,f⟩ b
  try dsimp only at b
  refine j7 6 ?_ ?_<;>intro h23
  .refine rF 13 ?_;refine fR<|pe ⟨_,_,rfl,(jB rfl rfl Bf rfl rfl rfl rfl),⟨_,_,rfl,rfl,rfl⟩⟩ [0,1,4] (.jj [.agg [fE n,.map 2],fI .empty]) ([.jc z,.jc o,.jc f]) rfl rfl rfl ?_ rfl ?_ ?_
   .repeat (first|exact nw|refine uC ?_)
   .exact .refl _
   .exact ⟨_,_,_,rfl,rfl,y n f (by rw[<- aS (l:=ls) (i:=i) O];exact b.2)⟩
  have h:i<ls.length:=O;obtain⟨k',s',a',hX⟩:=iq.case ls[i].iT
  have F:(ls.map jC.iT)[i]? =some (.mk k' s' a'):=by simp[h,hX]
  have G:=ih ls[i] (bS h);have hsi:=x ls[i] (bS h);have hPb:=b.2.bound (M:=1099511627777) C.1 O (λa ha=>by
   have:=x a (bJ (fp.1 ha));omega)
  rw[hX] at G;refine ni 6 oz oP ?_ (hat:=(lj F));refine rF 10 ?_;refine oc (iX Nc rfl rfl rfl rfl (G) [0,1] (uC (uC .nil)) rfl rfl rfl rfl (oq (jw (jw .nil))) (λs ob' R=>?_) (λs ob' R=>?_));rotate_left
  .obtain ⟨_,_,_,r,_⟩:=R;cases r
  obtain⟨S,V,q,r,rfl,U⟩:=R;cases r;refine⟨_,_,_,_,_,rfl,rfl,rfl,rfl,rfl,?_⟩;refine jq 15 ?_ ?_<;>intro c
  .refine rF 15 ?_;refine fR<|pe ⟨_,_,rfl,(jB rfl rfl Bf rfl rfl rfl rfl),⟨_,_,rfl,rfl,rfl⟩⟩ [0,1,4] (.jj [.agg [fE n,.map 2],fI q]) ([.jc z,.jc o,.jc f]) rfl rfl rfl ?_ rfl ?_ ?_
   .repeat (first|exact nw|refine uC ?_)
   .exact .refl _
   .exact ⟨_,_,_,rfl,rfl,j i n f q b.2 c ⟨ls[i],bS h,(U.no c).1⟩ (U.no c).2.1 (U.no c).2.2⟩
  refine rF 3 ?_;replace c:q=.empty:=c;subst c;have hnb:=U.b.n0;have hnb1:=U.b.n1;refine rF 12 ?_;refine xc (ι:=Unit) (λ_=>[(17,int (if k=1 then 1 else 0))]) [15,91,90,89,8,6,3,1,2] (λ_=>True) rfl ?_ ?_
  .refine j7 0 ?_ ?_<;>intro H
   .refine rF 1 ?_;refine bi (()) rfl ?_ ?_
    .trivial
    .refine mo ?_ (yu rfl (by exact Fit.of_eq (by simp only[H,if_true,if_false];rfl)) (iU (iU (iU (iU (iU (iU (iU (iU (iU rA))))))))))
     repeat (first|exact nw|refine jN ?_|refine uC ?_)
   refine rF 3 ?_;refine bi (()) rfl ?_ ?_
   .trivial
   .refine mo ?_ (yu rfl (by exact Fit.of_eq (by simp only[H,if_true,if_false];rfl)) (iU (iU (iU (iU (iU (iU (iU (iU (iU rA))))))))))
    repeat (first|exact nw|refine jN ?_|refine uC ?_)
  .rintro _ I
   try dsimp only at I
   refine rF 3 ?_;refine oc (ck Wj rfl rfl (C0 n S (if k=1 then 1 else 0) f V (ls[i].params []) O O C (λp m e=>by have:=U.b.f0 p m e;omega) (λp m e=>ls[i].nX (U.b.sup p m e))) [5,4,7] rfl (jN (uC (uC .nil))) (jw (jw (jw .nil))) ?_);refine jS 4 ?_;refine rF 2 ?_;refine bk (⟨i+1,max n (S+if k=1 then 1 else 0),qO f V (if k=1 then 1 else 0)⟩) rfl ?_ ([0,1,2,3,4,5]) ?_
   .refine ⟨⟨O,?_⟩,by simp only;omega⟩;rw[List.take_succ_eq_append_getElem h,List.reverse_append];exact⟨n,f,S,V,b.2,U,rfl,rfl⟩
   .refine mo ?_ (iU (iU (iU (iU (iU (iU (iU (iU rA))))))))
    repeat (first|exact nw|refine jN ?_|refine uC ?_)
theorem Ed(z o)(ho:xq o)(a b)(S:U1 (.imax a b))(hsa:a.size<=1099511627776)(hsb:b.size<=1099511627776)
 (C:jT fC R 158 [.jc z,.jc o] [.d a.iT.d,.map 0,.map 1] (ShQ z o a))
 (F:jT fC R 158 [.jc z,.jc o] [.d b.iT.d,.map 0,.map 1] (ShQ z o b)):
 jT fC R 158 [.jc z,.jc o] [.d (jC.imax a b).iT.d,.map 0,.map 1] (ShQ z o (.imax a b)):=by
 obtain⟨V,W,Y,G⟩:=iq.case a.iT
 obtain⟨kb,sb,ab,H⟩:=iq.case b.iT
 rw[G] at C;rw[H] at F;unfold jC.iT;rw[G,H];refine nR Tryz.func158 114 2 ?_;refine rF 9 ?_;refine oc (T:=λ_=>False) (vm rfl rfl rfl (by simp only[aj,aH,Nat.reduceAdd];rfl) rfl ?_);refine vw 19 ?_;refine Eo 6 ?_;refine ni 4 oz oP ?_ (hat:=(show(iR [iq.mk V W Y,iq.mk kb sb ab])[((1:Nat):Int).toNat]? =_ from lj rfl));refine rF 3 ?_;refine oc (iX Nc rfl rfl rfl rfl (F) [0,1] (uC (uC .nil)) rfl rfl rfl rfl (oq (jw (jw .nil))) (λs ob' j=>?_) (λs ob' j=>?_));rotate_left
 .obtain ⟨_,_,_,c,_⟩:=j;cases c
 obtain⟨M,x,q,c,rfl,k⟩:=j;cases c;refine⟨_,_,_,_,_,rfl,rfl,rfl,rfl,rfl,?_⟩;refine jq 15 ?_ ?_<;>intro h
 .refine rF 12 ?_;refine fR<|pe ⟨_,_,rfl,(jB rfl rfl Bf rfl rfl rfl rfl),⟨_,_,rfl,rfl,rfl⟩⟩ [0,1,4] (.jj [.agg [fE 0,.map 2],fI q]) ([.jc z,.jc o,.jc (λ_=>none)]) rfl rfl rfl ?_ rfl ?_ ?_
  .repeat (first|exact nw|refine uC ?_)
  .exact .refl _
  .exact ⟨_,_,_,rfl,rfl,Jz k h⟩
 refine rF 4 ?_;replace h:q=.empty:=h;subst h;have hnb:=k.b.n0;have hnb1:=k.b.n1;refine j7 6 ?_ ?_<;>intro r
 .refine rF 5 ?_;refine oc (ck Wj rfl rfl (C0 0 M 0 (λ_=>none) x (b.params []) O O O (λp m e=>by have:=k.b.f0 p m e;omega) (λp m e=>b.nX (k.b.sup p m e))) [5,4,6] rfl (jN (uC (uC .nil))) (jw (jw (jw .nil))) ?_);refine ni 6 oz oP ?_ (hat:=(show(iR [iq.mk V W Y,iq.mk kb sb ab])[((0:Nat):Int).toNat]? =_ from lj rfl));refine rF 3 ?_;refine oc (iX Nc rfl rfl rfl rfl (C) [0,1] (uC (uC .nil)) rfl rfl rfl rfl (oq (jw (jw .nil))) (λs ob' j=>?_) (λs ob' j=>?_));rotate_left
  .obtain ⟨_,_,_,c,_⟩:=j;cases c
  obtain⟨na,fa,q2,c,rfl,U⟩:=j;cases c;have hna:=U.b.n0;have hna1:=U.b.n1;refine⟨_,_,_,_,_,rfl,rfl,rfl,rfl,rfl,?_⟩;refine rF 11 ?_;refine oc (ck Wj rfl rfl (C0 (max 0 (M+0)) na 0 (qO (λ_=>none) x 0) fa (a.params []) O O O (λp m e=>by have:=U.b.f0 p m e;omega) (λp m e=>a.nX (U.b.sup p m e))) [5,4,8] rfl (jN (uC (uC .nil))) (jw (jw (jw .nil))) ?_);refine rF 13 ?_;refine fR<|pe ⟨_,_,rfl,(jB rfl rfl Bf rfl rfl rfl rfl),⟨_,_,rfl,rfl,rfl⟩⟩ [0,1,4] (.jj [.agg [fE (max (max 0 (M+0)) (na+0)),.map 2],fI q2]) ([.jc z,.jc o,.jc (qO (qO (λ_=>none) x 0) fa 0)]) rfl rfl rfl ?_ rfl ?_ ?_
  .repeat (first|exact nw|refine uC ?_)
  .exact .refl _
  .exact ⟨_,_,_,rfl,rfl,Oa k r U⟩
 refine rF 5 ?_;refine oc (T:=λ_=>False) (FA vV rfl rfl rfl rfl rfl (by simp only[aj,aH,Nat.reduceAdd];rfl) rfl ?_);refine pt 3 (ι:=List (fB×Int)) (λy=>[]) (λy=>[.jc z,.jc o,.cells [fE 3,fI .empty,.d (.sl 3 (iR [iq.mk V W Y,iq.mk kb sb ab]))] 121,.cells [fE 0,.d (.v (.map none))] 216,.jc (λ_=>none),.cells [fE 0,.map 4] 216,.jc x,.cells [fE M,.map 6] 216,.ru 6 x y none]) [64,8,6] (λy=>y=[]) (λy=>0) ([]) ([0,1,2,3,4,5,6,7,8]) ?I3 ?H3 (hM:= ?M3)
 case I3=>
  rfl
 case M3=>
  refine mei ?_ (iU (iU (iU rA))) (by repeat (first|exact trivial|refine And.intro rfl ?_))
  repeat (first|exact nw|refine jN ?_|refine uC ?_|refine boi ?_)
 case H3=>
  rintro y i
  try dsimp only at i
  refine rF 2 ?_;refine oc (JT rfl rfl rfl rfl rfl rfl (λI=>?_) (λks kv J hnew=>⟨_,rfl,?_⟩))
  .refine vw 4 ?_;refine rF 16 ?_;refine fR<|pe ⟨_,_,rfl,(jB rfl rfl Bf rfl rfl rfl rfl),⟨_,_,rfl,rfl,rfl⟩⟩ [0,1,4] (.jj [.agg [fE 0,.map 2],fI .empty]) ([.jc z,.jc o,.jc (λ_=>none)]) rfl rfl rfl ?_ rfl ?_ ?_
   .repeat (first|exact nw|refine uC ?_)
   .exact .refl _
   .subst r i;refine⟨_,_,_,rfl,rfl,Ec k λp=>?_⟩;cases hp:x p with
    |none=>rfl
    |some m=>exact absurd (I p m hp) (by simp)
  refine Eo 4 ?_;refine rF 5 ?_;refine oc (T:=λ_=>False) (FE rfl rfl rfl rfl rfl ?_);refine rF 20 ?_;refine fR<|pe ⟨_,_,rfl,(jB rfl rfl Bf rfl rfl rfl rfl),⟨_,_,rfl,rfl,rfl⟩⟩ [0,1,4] (.jj [.agg [fE 0,.map 2],fI ks]) ([.jc z,.jc o,.jc (λ_=>none)]) rfl rfl rfl ?_ rfl ?_ ?_
  .repeat (first|exact nw|refine uC ?_)
  .exact .refl _
  .subst r;exact⟨_,_,_,rfl,rfl,G5 ho k J (S ks (.inr (k.b.sup ks kv J)))⟩
theorem Fe(z o)(M:xq z)(J:xq o)(l):U1 l->l.size<=1099511627776->
 jT fC gl 158 [.jc z,.jc o] [.d l.iT.d,.map 0,.map 1] (ShQ z o l):=by
 induction l with
 |param s=>exact λ_ _=>CA z o M J s
 |imax a b k j=>
  intro e r;simp only[jC.size] at r;exact Ed z o J a b e O O (k (λp h=>e p (.inl h)) O) (j (λp h=>e p (.inr h)) O)
 |zero=>exact λ_ _=>uu z o .zero 0 [] rfl Z Z (λa h=>by cases h) (by simp) (λa h=>by cases h) (λn f h=>by obtain⟨rfl,rfl⟩:=h;exact N8) (λi n f q _ _ h=>by obtain⟨a,h,_⟩:=h;cases h)
 |succ a k=>
  intro e r;simp only[jC.size] at r;have U:=k e O;refine uu z o (.succ a) 1 [a] rfl Z Z (λx h=>by simp at h;subst h;omega) (by simp) (λx h=>by simp at h;subst h;exact U) (λn f h=>N9 h) (λi n f q h F G H I=>DG h Z (λx c=>?_) F ⟨?_,H,I⟩)
  .have:=bJ (fp.1 c);simp at this;subst this;exact⟨by simp only[jC.size,if_true];omega,λp h=>h⟩
  .obtain ⟨x,c,C⟩:=G;simp at c;subst c;exact C
 |max a b k j=>
  intro e r;simp only[jC.size] at r;have U:=k (λp h=>e p (.inl h)) O;have y:=j (λp h=>e p (.inr h)) O;refine uu z o (.max a b) 2 [a,b] rfl Z Z (λx h=>by simp at h;rcases h with h|h<;>(subst h;omega)) (by simp) (λx h=>by
   simp at h;rcases h with h|h
   .subst h;exact U
   .subst h;exact y) (λn f h=>Sc h) (λi n f q h F G H I=>DG h Z (λx c=>?_) F ⟨?_,H,I⟩)
  .have:=bJ (fp.1 c);simp at this;rcases this with h|h
   .subst h;exact⟨by simp only[jC.size];simp;omega,λp h=>.inl h⟩
   .subst h;exact⟨by simp only[jC.size];simp;omega,λp h=>.inr h⟩
  .obtain ⟨x,c,C⟩:=G;simp at c;rcases c with h|h
   .subst h;exact .inl C
   .subst h;exact .inr C
theorem Vf(a b)(S:U1 a)(V:U1 b)(W:a.size<=1099511627776)(Y:b.size<=1099511627776):∀(n:Nat) (z o:jR),xq z->xq o->(∀ q,z q≠none->o q=none)->II z o (b.params (a.params []))<n->
 jT fC gl 146 [.jc z,.jc o] [.d a.iT.d,.d b.iT.d,.map 0,.map 1] λout ob'=> ∃c,out=.ret (fH c)/\ob'=[.jc z,.jc o]/\YD z o a b c:=by
 intro n
 induction n with
 |zero=>intro z o _ _ _ h;omega
 |succ n ih=>
  intro z o hz y hd hn;have sa:=Fe (gl:=gl) z o hz y a S W;have sb:=Fe (gl:=gl) z o hz y b V Y;obtain⟨ka,na,aa,C⟩:=iq.case a.iT
  obtain⟨kb,nb,ab,F⟩:=iq.case b.iT
  rw[C,F] at ih ⊢;rw[C] at sa;rw[F] at sb;refine nR Tryz.func146 55 2 ?_;refine rF 12 ?_;refine oc (iX Nc rfl rfl rfl rfl (sa) [0,1] (uC (uC .nil)) rfl rfl rfl rfl (oq (jw (jw .nil))) (λs ob' i=>?_) (λs ob' i=>?_));rotate_left
  .obtain ⟨_,_,_,k,_⟩:=i;cases k
  obtain⟨n1,f1,q1,k,rfl,j⟩:=i;cases k;refine⟨_,_,_,_,_,rfl,rfl,rfl,rfl,rfl,?_⟩;refine rF 15 ?_;refine xo (ι:=fB) (λq=>[(10,fI q)]) (λq=>[.jc z,.jc o,.cells [fE ka,fI na,.d (.sl 3 (iR aa))] 121,.cells [fE kb,fI nb,.d (.sl 3 (iR ab))] 121]) [5,4,2,3] (λq=>(a.has q\/b.has q)/\z q=none/\o q=none) rfl ?_ ?_
  .refine j7 0 ?_ ?_<;>intro G
   .refine rF 1 ?_;refine bk (q1) rfl ?_ ([0,1,2,3]) ?_
    .exact ⟨.inl (j.no G).1,(j.no G).2⟩
    .refine mo ?_ (iU (iU (iU (iU (iU rA)))))
     repeat (first|exact nw|refine jN ?_|refine uC ?_)
   refine rF 10 ?_;refine oc (iX Nc rfl rfl rfl rfl (sb) [0,1] (uC (uC .nil)) rfl rfl rfl rfl (oq (jw (jw .nil))) (λs ob' i=>?_) (λs ob' i=>?_));rotate_left
   .obtain ⟨_,_,_,k,_⟩:=i;cases k
   obtain⟨n2,f2,q2,k,rfl,r⟩:=i;cases k;refine⟨_,_,_,_,_,rfl,rfl,rfl,rfl,rfl,?_⟩;refine j7 13 ?_ ?_<;>intro H
   .refine rF 1 ?_;refine bk (q2) rfl ?_ ([0,1,2,3]) ?_
    .exact ⟨.inr (r.no H).1,(r.no H).2⟩
    .refine mo ?_ (iU (iU (iU (iU (iU rA)))))
     repeat (first|exact nw|refine jN ?_|refine uC ?_)
   refine rF 1 ?_;replace G:q1=.empty:=G
   replace H:q2=.empty:=H
   subst G H;refine rF 3 ?_;refine oc (iX adw rfl rfl rfl rfl (SX n1 n2 f1 f2 (a.params []) (λp x e=>a.nX (j.b.sup p x e))) [4,7] (uC (uC .nil)) rfl rfl rfl rfl (jw (jw .nil)) (λs ob' i=>?_) (λs ob' i=>?_));rotate_left
   .obtain ⟨_,k,_⟩:=i;cases k
   obtain⟨c,k,rfl,hF⟩:=i;cases k;refine⟨_,_,_,_,_,rfl,rfl,rfl,rfl,rfl,?_⟩;refine rF 5 ?_;refine fR<|pc ⟨_,_,rfl,rfl,rfl⟩ rfl (fF c) (by exact .refl _) ([0,1]) ([.jc z,.jc o]) rfl rfl rfl ?_ ?_
   .repeat (first|exact nw|refine uC ?_)
   .exact ⟨c,rfl,rfl,λe=>Oh (j.ok rfl) (r.ok rfl) (hF.1 e),λe=>P0 hz y hd (j.ok rfl) (r.ok rfl) (λh=>by rw[hF.2 h] at e;cases e)⟩
  .rintro q U
   try dsimp only at U
   have I:q∈b.params (a.params []):=U.1.elim (λh=>b.pZ (a.nX h)) (λh=>b.nX h);have hf0:=SW I U.2.1 U.2.2;have hf1:=VH I U.2.1 U.2.2;refine rF 4 ?_;refine oc (zB vV rfl rfl rfl rfl rfl rfl rfl rfl ?_);refine rF 8 ?_;refine oc (iX Wk rfl rfl rfl rfl (ih (pW z q 1) o (LJ hz) y (Te hd U.2.2) O) [0,1] (uC (uC .nil)) rfl rfl rfl rfl (oq (oq (jw (jw .nil)))) (λs ob' i=>?_) (λs ob' i=>?_));rotate_left
   .obtain ⟨_,k,_⟩:=i;cases k
   obtain⟨c1,k,rfl,J⟩:=i;cases k;refine⟨_,_,_,_,_,rfl,rfl,rfl,rfl,rfl,?_⟩;refine rF 7 ?_;refine oc (Ij vV rfl rfl rfl rfl rfl rfl rfl ?_);refine rF 4 ?_;rw[Qv U.2.1];refine jq 5 ?_ ?_<;>intro M
   .refine rF 7 ?_;refine fR<|pc ⟨_,_,rfl,rfl,rfl⟩ rfl (fF false) (by exact .refl _) ([0,1]) ([.jc z,.jc o]) rfl rfl rfl ?_ ?_
    .repeat (first|exact nw|refine uC ?_)
    .exact ⟨false,rfl,rfl,λe=>(by cases e),λ_=>(J.no M).zero⟩
   refine rF 6 ?_;refine oc (zB vV rfl rfl rfl rfl rfl rfl rfl rfl ?_);refine rF 8 ?_;refine oc (iX Wk rfl rfl rfl rfl (ih z (pW o q 1) hz (LJ y) (V5 hd U.2.1) O) [0,1] (uC (uC .nil)) rfl rfl rfl rfl (oq (oq (jw (jw .nil)))) (λs ob' i=>?_) (λs ob' i=>?_));rotate_left
   .obtain ⟨_,k,_⟩:=i;cases k
   obtain⟨c2,k,rfl,R⟩:=i;cases k;refine⟨_,_,_,_,_,rfl,rfl,rfl,rfl,rfl,?_⟩;refine rF 7 ?_;refine oc (Ij vV rfl rfl rfl rfl rfl rfl rfl ?_);refine rF 3 ?_;rw[Qv U.2.2];refine rF 6 ?_;refine fR<|pc ⟨_,_,rfl,rfl,rfl⟩ rfl (fF c2) (by exact .refl _) ([0,1]) ([.jc z,.jc o]) rfl rfl rfl ?_ ?_
   .repeat (first|exact nw|refine uC ?_)
   .exact ⟨c2,rfl,rfl,λe=>(Sd (q:=q) a b).2 ⟨J.yes M,R.yes e⟩,λe=>(R.no e).one⟩
theorem Ie(a b)(i:U1 a)(j:U1 b)(r:a.size<=1099511627776)(x:b.size<=1099511627776):
 jA fC gl 118 [a.iT.d,b.iT.d] (· =fF (Fj a b)):=by
 have U:=Vf (gl:=gl) a b i j r x (II UZ UZ (b.params (a.params []))+1) UZ UZ (λp m e=>by cases e) (λp m e=>by cases e) (λq h=>rfl) (dI _);unfold UZ at U;obtain⟨G,H,I,y⟩:=iq.case a.iT
 obtain⟨J,M,R,z⟩:=iq.case b.iT
 rw[y,z] at U ⊢;refine oN Tryz.func118 10 ?_;refine rF 11 ?_;refine oc (T:=λ_=>False) (vm rfl rfl rfl (by simp only[aj,aH,Nat.reduceAdd];rfl) rfl ?_);refine oc (T:=λ_=>False) (vm rfl rfl rfl (by simp only[aj,aH,Nat.reduceAdd];rfl) rfl ?_);refine oc (iX Wk rfl rfl rfl rfl (U) [2,3] (uC (uC .nil)) rfl rfl rfl rfl (oq (oq (jw (jw .nil)))) (λs ob' C=>?_) (λs ob' C=>?_));rotate_left
 .obtain ⟨_,k,_⟩:=C;cases k
 obtain⟨c,k,rfl,F⟩:=C;cases k;obtain rfl:=YD.eq F;refine⟨_,_,_,_,_,rfl,rfl,rfl,rfl,rfl,?_⟩;refine od 4 ?_;rfl
theorem Fw(a b)(c:U1 a)(e:U1 b)(h:a.size<=1099511627776)(i:b.size<=1099511627776):
 jA fC gl 77 [a.iT.d,b.iT.d] (· =fF (Fj a b&&Fj b a)):=by
 have j:=Ie (gl:=gl) a b c e h i;have q:=Ie (gl:=gl) b a e c i h;obtain⟨s,x,y,k⟩:=iq.case a.iT
 obtain⟨z,C,F,U⟩:=iq.case b.iT
 rw[k,U] at j q ⊢;refine oN Tryz.func77 13 ?_;refine ny 11 j ?_;refine' DM 1 11 8 3 ?a1 ?_
 case a1=>
  intro G r;refine ny 2 q ?_;exact r [_,_,_] rfl rfl
 refine od 4 ?_;rfl
theorem Dg{f:FuncId}(q:iA fC f=true){E:iq->iq->Bool}(h j)(R:h.length<=1099511627776)
 (H:∀(i:Nat) k s a k2 s2 a2,h[i]? =some (.mk k s a)->j[i]? =some (.mk k2 s2 a2)->jA fC gl f [(iq.mk k s a).d,(iq.mk k2 s2 a2).d] (· =fF (E (.mk k s a) (.mk k2 s2 a2)))):
 jA fC gl 73 [.sl 3 (iR h),.sl 3 (iR j),.v (.func (.func f) #[] #[])] (· =fF (qE E h j)):=by
 have C:=jn h;have r:=jn j;refine oN Tryz.func73 32 ?_;refine jq 15 ?_ ?_<;>intro S
 .refine od 7 ?_;rw[RM (a:=h) (b:=j) O]
 refine vq 11 (ι:=Nat) (λi=>[(17,int i)]) [16,15,1,2] (λi=>i<=h.length/\qE E (h.take i) (j.take i)=true) (λi=>h.length-i) (0) ⟨ak _,rfl⟩ ?_;rintro i e
 try dsimp only at e
 refine j7 6 ?_ ?_<;>intro V
 .refine od 11 ?_;have F:=e.2;rw[aS O,aS O] at F;rw[F]
 obtain⟨I,J,M,c⟩:=kj (show i<h.length by omega);obtain⟨x,y,z,U⟩:=kj (show i<j.length by omega);refine ni 7 oz oP ?_ (hat:=(lj c));refine ni 10 oz oP ?_ (hat:=(lj U));refine rF 10 ?_;refine oc (T:=λ_=>False) (Ik q rfl rfl rfl rfl rfl rfl (H i I J M x y z c U) (oq (oq .nil)) (λd hd=>?_));obtain rfl:=hd;refine jq 3 ?_ ?_<;>intro G
 .refine od 11 ?_;rw[AX c U G]
 refine jS 4 ?_;refine rF 2 ?_;refine bi (i+1) rfl ?_ ?_
 .exact ⟨⟨O,by rw[Jg c U];simp[e.2,G]⟩,O⟩
 .exact mz
theorem Ta{f:FuncId}(q:iA fC f=true){E:ie->ie->Bool}(h j)(hb:h.length<=1099511627776)
 (M:∀(i:Nat) k n s l a k2 n2 s2 r a2,h[i]? =some (.mk k n s l a)->j[i]? =some (.mk k2 n2 s2 r a2)->jA fC gl f [(ie.mk k n s l a).d,(ie.mk k2 n2 s2 r a2).d] (· =fF (E (.mk k n s l a) (.mk k2 n2 s2 r a2)))):
 jA fC gl 75 [.sl 5 (im h),.sl 5 (im j),.v (.func (.func f) #[] #[])] (· =fF (qE E h j)):=by
 have H:=ir h;have x:=ir j;refine oN Tryz.func75 32 ?_;refine jq 15 ?_ ?_<;>intro h1
 .refine od 7 ?_;rw[RM (a:=h) (b:=j) O]
 refine vq 11 (ι:=Nat) (λi=>[(17,int i)]) [16,15,1,2] (λi=>i<=h.length/\qE E (h.take i) (j.take i)=true) (λi=>h.length-i) (0) ⟨ak _,rfl⟩ ?_;rintro i e
 try dsimp only at e
 refine j7 6 ?_ ?_<;>intro h4
 .refine od 11 ?_;have I:=e.2;rw[aS O,aS O] at I;rw[I]
 obtain⟨R,S,V,W,Y,c⟩:=iZ (show i<h.length by omega);obtain⟨y,z,C,F,G,U⟩:=iZ (show i<j.length by omega);refine ni 7 iQ iY ?_ (hat:=(jr c));refine ni 10 iQ iY ?_ (hat:=(jr U));refine rF 10 ?_;refine oc (T:=λ_=>False) (Ik q rfl rfl rfl rfl rfl rfl (M i R S V W Y y z C F G c U) (oq (oq .nil)) (λd hd=>?_));obtain rfl:=hd;refine jq 3 ?_ ?_<;>intro J
 .refine od 11 ?_;rw[AX c U J]
 refine jS 4 ?_;refine rF 2 ?_;refine bi (i+1) rfl ?_ ?_
 .exact ⟨⟨O,by rw[Jg c U];simp[e.2,J]⟩,O⟩
 .exact mz
theorem Jo:∀(n:Nat) (k:Int) (s:fB) (args:List iq) (k2:Int) (s2:fB) (b:List iq),(iq.mk k s args).size<=n->(iq.mk k s args).size<=1099511627776->
 jA fC gl 115 [(iq.mk k s args).d,(iq.mk k2 s2 b).d] (· =fF (iq.same (.mk k s args) (.mk k2 s2 b))):=by
 intro n
 induction n with
 |zero=>intro k s args k2 s2 b h;simp[iq.size] at h
 |succ n c=>
  intro k s args k2 s2 b e j;simp only[iq.size] at e j;have q:=pO args;have U:=Dg (gl:=gl) (f:=115) gN (E:=iq.same) args b O λi k s a k2 s2 a2 h x=>by
   have:=pJ h;exact c k s a k2 s2 a2 O O
  rw[GQ] at U;rw[iq.r4];refine oN Tryz.func115 24 ?_;refine xP 15 15 10 5 ?_;refine' DM 1 22 17 5 ?a42 ?_
  case a42=>
   intro y r;refine ny 4 U ?_;exact r [_,_,_,_,_] rfl rfl
  refine od 4 ?_;rfl
theorem K9(a b)(c:U1 a)(e:U1 b)(h:a.size<=1099511627776)(i:b.size<=1099511627776):
 jA fC gl 74 [a.iT.d,b.iT.d] (· =fF (PK a.iT b.iT)):=by
 have j:=Fw (gl:=gl) a b c e h i;have q:=a.nq;unfold PK;rw[JB];obtain⟨r,s,x,k⟩:=iq.case a.iT
 obtain⟨y,z,C,U⟩:=iq.case b.iT
 rw[k,U] at j ⊢;rw[k] at q;have F:=Jo (gl:=gl) _ r s x y z C (ae _) O;refine oN Tryz.func74 13 ?_;refine ny 11 F ?_;refine' Cg 1 11 8 3 ?a43 ?_
 case a43=>
  intro H G;refine ny 2 j ?_;exact G [_,_,_] rfl rfl
 refine od 4 ?_;rfl
theorem KW:∀(n:Nat) (k m:Int) (s:fB) (ls:List iq) (args:List ie) (k2 c:Int) (s2:fB) (U:List iq) (b:List ie),(ie.mk k m s ls args).size<=n->(ie.mk k m s ls args).size<=1099511627776->(ie.mk k2 c s2 U b).size<=1099511627776->oD B (.mk k m s ls args)->oD B (.mk k2 c s2 U b)->
 jA fC gl 42 [(ie.mk k m s ls args).d,(ie.mk k2 c s2 U b).d] (· =fF (Yc PK (.mk k m s ls args) (.mk k2 c s2 U b))):=by
 intro n
 induction n with
 |zero=>intro k m s ls args k2 c s2 U b h;simp[ie.size] at h
 |succ n M=>
  intro k m s ls args k2 c s2 U b R S q F e;simp only[ie.size] at R S q;have V:=Cn args;have W:=pO ls;have r:=Dg (gl:=gl) (f:=74) gN (E:=PK) ls U O λi k s a k2 s2 a2 h j=>by
   have G:=pJ h;have H:=pJ j;obtain⟨x,I,Y⟩:=F.1 _ (aO h);obtain⟨y,J,fy⟩:=e.1 _ (aO j);rw[I,x.nq] at G;rw[J,y.nq] at H;rw[I,J];exact K9 x y (qd x Y) (qd y fy) O O
  have z:=Ta (gl:=gl) (f:=42) gN (E:=Yc PK) args b O λi k n s l a k2 n2 s2 c a2 h j=>by
   have G:=iO h;have H:=iO j;exact M k n s l a k2 n2 s2 c a2 O O O (yC F.2.1 h) (yC e.2.1 j)
  rw[aao];refine oN Tryz.func42 38 ?_;refine xP 15 15 10 5 ?_;refine xP 1 22 17 5 ?_;refine' DM 1 29 24 5 ?a46 ?_
  case a46=>
   intro hc C;refine ny 4 r ?_;exact C [_,_,_,_,_] rfl rfl
  refine' DM 1 36 31 5 ?a47 ?_
  case a47=>
   intro hc C;refine ny 4 z ?_;exact C [_,_,_,_,_] rfl rfl
  refine od 4 ?_;rfl
def NB(R:ie->ie->Nat->Bool->Nat->Prop):List ie->List ie->Nat->Bool->Nat->Prop
 |a::l,b::m,d,r,k=> ∃U d1,R a b d U d1/\((U=false/\r=false/\k=d1)\/(U=true/\NB R l m d1 r k))
 |_,_,d,r,k=>r=true/\k=d
theorem NB.cons{l m:List ie}{i:Nat}{b:ie}{q:Nat}{r:Bool}{c:Nat}(e:l[i]? =some a)(j:m[i]? =some b)(h:NB R (l.drop i) (m.drop i) q r c):∃k d1,R a b q k d1/\((k=false/\r=false/\c=d1)\/(k=true/\NB R (l.drop (i+1)) (m.drop (i+1)) d1 r c)):=by
 rw[drop_cons e,drop_cons j] at h;exact h
set_option maxRecDepth 4000 in
theorem IM(e y)(hll:e.length=y.length)(hb:e.length<=1099511627776)
 (hf:∀(i:Nat) k n s l a k2 n2 s2 H a2 d r q,e[i]? =some (.mk k n s l a)->y[i]? =some (.mk k2 n2 s2 H a2)->G<=d->d<=c->R (.mk k n s l a) (.mk k2 n2 s2 H a2) d r q->d<=q/\q<=c/\jT fC gl 44 (jv x d c p) [.jk 3 0,.d (ie.mk k n s l a).d,.d (ie.mk k2 n2 s2 H a2).d] λout ob'=>out=.ret (fH r)/\ob'=jv x q c p)
 (d r q) (I:G<=d) (hd:d<=c) (hR:NB R e y d r q):
 jT fC gl 75 (jv x d c p) [.d (.sl 5 (im e)),.d (.sl 5 (im y)),.fn (.func 44) [.jk 3 0] []] λout ob'=>out=.ret (fH r)/\ob'=jv x q c p:=by
 have hlen:=ir e;have J:=ir y;have M:iA fC 44=true:=gN;unfold jv at hf ⊢;refine nR Tryz.func75 32 4 ?_;refine jq 15 ?_ ?_<;>intro h1
 .omega
 refine pt 11 (ι:=Nat×Nat) (λ⟨i,d2⟩=>[(17,int i)]) (λ⟨i,d2⟩=>[pE (x.map (·.d)),dR,.jK (o7 x),mO d2 c p]) [16,15,1,2] (λ⟨i,d2⟩=>i<=e.length/\(G<=d2/\d2<=c)/\NB R (e.drop i) (y.drop i) d2 r q) (λ⟨i,d2⟩=>e.length-i) ((0,d)) ([0,1,2,3]) ⟨ak _,⟨I,hd⟩,hR⟩ ?_;rintro⟨i,d2⟩ b
 try dsimp only at b
 refine j7 6 ?_ ?_<;>intro h4
 .refine jD 11 (fF true) [0,1,2,3] (jv x d2 c p) ?_
  .obtain ⟨_,_,h9⟩:=b;rw[dM O,dM O] at h9;obtain⟨rfl,rfl⟩:r=true/\q=d2:=h9;exact⟨rfl,rfl⟩
 obtain⟨k',n',s',m',a',j⟩:=iZ (show i<e.length by omega);obtain⟨S,V,W,Y,a2',U⟩:=iZ (show i<y.length by omega);obtain⟨r1,d3,hr1,C⟩:=b.2.2.cons j U;obtain⟨hd4,hd3,z⟩:=hf i k' n' s' m' a' S V W Y a2' d2 r1 d3 j U b.2.1.1 b.2.1.2 hr1;refine ni 7 iQ iY ?_ (hat:=(jr j));refine ni 10 iQ iY ?_ (hat:=(jr U));refine rF 10 ?_;refine oc (BC M rfl rfl rfl rfl rfl rfl rfl rfl (z) ([0,1,2,3]) (jN (oT (.cons rfl .jK (jN .nil)))) rfl rfl rfl rfl (jw (oq (oq .nil))) (λs ob' F=>?_) (λs ob' F=>?_));rotate_left
 .first|exact F.elim|cases F.1
 obtain⟨hq1,rfl⟩:=F;cases hq1;refine⟨_,_,_,_,_,rfl,rfl,rfl,rfl,rfl,?_⟩;refine jq 3 ?_ ?_<;>intro h7
 .refine jD 11 (fF false) [0,1,2,3] (jv x d3 c p) ?_
  ·(rcases C with⟨rfl,rfl,rfl⟩|⟨rfl,_⟩;exact⟨rfl,rfl⟩;simp at h7)
 have hnx:r1=true/\NB R (e.drop (i+1)) (y.drop (i+1)) d3 r q:=(by rcases C with⟨rfl,_⟩|h;simp at h7;exact h);refine jS 4 ?_;refine ml 2 (i+1,d3) [0,1,2,3] ?_;exact⟨⟨O,⟨O,hd3⟩,hnx.2⟩,show e.length-(i+1)<e.length-i by omega⟩
theorem NB.le{R:ie->ie->Nat->Bool->Nat->Prop}{most d0:Nat}:∀{l m:List ie} {d:Nat} {r:Bool} {k:Nat},(∀ (i:Nat) a b d r k,l[i]? =some a->m[i]? =some b->d0<=d->d<=most->R a b d r k->d<=k/\k<=most)->d0<=d->d<=most->NB R l m d r k->d<=k/\k<=most
 |[],_,d,r,k,_,_,h,⟨_,e⟩=>⟨O,O⟩
 |_::_,[],d,r,k,_,_,h,⟨_,e⟩=>⟨O,O⟩
 |a::l,b::m,d,r,k,H,U,h,⟨c,d1,j,q⟩=>by
  obtain⟨k1,k2⟩:=H 0 a b d c d1 rfl rfl U h j;rcases q with⟨_,_,rfl⟩|⟨_,s⟩
  .exact ⟨k1,k2⟩
  .obtain ⟨G,z⟩:=NB.le (λi x y d r k C F=>H (i+1) x y d r k (by simpa using C) (by simpa using F)) O k2 s;exact⟨O,z⟩
theorem Se(h:FV l):Sf l l=true:=by
 obtain⟨x,rfl,_⟩:=h;have:Fj x x=true:=Fi.2 λσ _=>aP _
 rw[JB,this];rfl
theorem Jh{c:iq->iq->Bool}:∀{l:List iq},(∀ x∈l,c x x=true)->qE c l l=true
 |[],_=>rfl
 |a::r,h=>by rw[qE,h a bC,Jh λx b=>h x (bB _ b)];rfl
theorem Bo(c e)(h:∀l∈c,FV l)(r:∀l∈e,FV l)(J:iG c<=1000000000000)(z:iG e<=1000000000000):
 jA fC gl 73 [.sl 3 (iR c),.sl 3 (iR e),.v (.func (.func 77) #[] #[])] (· =fF (qE Sf c e)):=by
 have C:=pO c;exact Dg (gl:=gl) (f:=77) gN (E:=Sf) c e O λi k s a k2 s2 a2 b U=>by
  have F:=pJ b;have G:=pJ U;obtain⟨x,j,H⟩:=h _ (aO b);obtain⟨y,q,I⟩:=r _ (aO U);rw[j,x.nq] at F;rw[q,y.nq] at G;rw[j,q,JB];exact Fw x y (qd x H) (qd y I) O O
theorem DI(c)(h:∀l∈c,FV l)(e:iG c<=1000000000000):
 jA fC gl 73 [.sl 3 (iR c),.sl 3 (iR c),.v (.func (.func 77) #[] #[])] (· =fF true):=by
 have:=Bo (gl:=gl) c c h h e e
 rwa [Jh λx b=>Se (h x b)] at this
def RE(e:List iI)(c:Nat):Nat->ie->ie->Nat->Bool->Nat->Prop
 |0,_,_,_,_,_=>False
 |n+1,a,b,d,r,U=> ∃m j u d1 v d2,RW e c m a d (.ok u d1)/\RW e c j b d1 (.ok v d2)/\
  ((∃ q s1 l1 A x z s2 l2 B y,u=.mk 4 q s1 l1 [A,x]/\v=.mk 4 z s2 l2 [B,y]/\RE e c n x y d2 r U)\/
  (∃ k1 n1 s1 l1 a1 k2 n2 s2 l2 a2,(ig u).1=.mk k1 n1 s1 l1 a1/\(ig v).1=.mk k2 n2 s2 l2 a2/\¬k1=4/\¬k2=4/\¬s1=s2/\r=false/\U=d2)\/
  ∃k n1 s ls ar h,¬k=4/\(ig u).1=.mk k n1 s ls ar/\(ig v).1=.mk k n1 s ls h/\ar.length=h.length/\(ig u).2.length=(ig v).2.length/\∃i d3,NB (RE e c n) ar h d2 i d3/\((i=false/\r=false/\U=d3)\/(i=true/\NB (RE e c n) (ig u).2 (ig v).2 d3 r U)))
def EqM(x:Nat->List D)(h:List iI)(q:List fB)(e n:Nat):Prop:=
 ∀(k m:Int) (s:fB) (ls:List iq) (args:List ie) (k2 i:Int) (s2:fB) (U:List iq) (b:List ie) (c:Int) (d:Nat) (r:Bool) (j:Nat) (p:Int),0<=c->d<=e->RE h e n (.mk k m s ls args) (.mk k2 i s2 U b) d r j->c+(ie.mk k m s ls args).size+30000*(e-d)<=1000000000->c+(ie.mk k2 i s2 U b).size+30000*(e-d)<=1000000000->Wt (jY h) q (.mk k m s ls args) c->Wt (jY h) q (.mk k2 i s2 U b) c->
  d<=j/\j<=e/\jT fC x 44 (jv h d e p) [.jk 3 0,.d (ie.mk k m s ls args).d,.d (ie.mk k2 i s2 U b).d] λout ob'=>out=.ret (.d (.v (.bool r)))/\ob'=jv h j e p
theorem zL(r:nS q)(x:0<=c/\c<=1000000000)(M:e<=1000000){k:Int}{d:Nat}(p)(R:d<=e)(S:RW q e N (.mk k m s j i) d (.ok u y))(V:(ie.mk k m s j i).size+30000*(e-d)<=1000000000000)(W:Wt (jY q) J (.mk k m s j i) c)(Y:ig u=(.mk z C F G H,I)):
 jT fC gl 68 (jv q d e p) [.jk 3 0,.d (ie.mk k m s j i).d] λout ob'=>out=.ret (.d (.jj [(ie.mk z C F G H).d,.sl 5 (im I)]))/\ob'=jv q y e p:=
 (C3 (gl:=gl) r x M N k m s j i d (.ok u y) p R S V W).mono λo b h=>by
  obtain⟨k,m,s,j,i,as1,U,h2,h3⟩:=h;rw[Y] at U;cases U;exact⟨h2,h3⟩
theorem equalA{d:Nat}{k:Int}
 (hA:jT fC gl 68 (jv h d c p) [.jk 3 0,.d (ie.mk k m s z i).d] λout ob'=>out=.ret (.d (.jj [(ie.mk 4 m3 s3 l3 [A,.mk H I J M R]).d,.sl 5 (im [])]))/\ob'=jv h x c p)
 (hB:jT fC gl 68 (jv h x c p) [.jk 3 0,.d (ie.mk C F G j e).d] λout ob'=>out=.ret (.d (.jj [(ie.mk 4 m4 s4 l4 [B,.mk S V W Y a6]).d,.sl 5 (im [])]))/\ob'=jv h y c p)
 (hC:jT fC gl 44 (jv h y c p) [.jk 3 0,.d (ie.mk H I J M R).d,.d (ie.mk S V W Y a6).d] λout ob'=>out=.ret (fH r)/\ob'=jv h q c p):
 jT fC gl 44 (jv h d c p) [.jk 3 0,.d (ie.mk k m s z i).d,.d (ie.mk C F G j e).d] λout ob'=>out=.ret (fH r)/\ob'=jv h q c p:=by
 unfold jv at hA hB hC ⊢;refine nR Tryz.func44 111 4 ?_;refine nC 11 hA [0,1,2,3] ?_;refine nC 12 hB [0,1,2,3] ?_;refine rF 15 ?_;refine ov 26 true rfl Z<|tZ ?_ (hbw:=by exact rfl);refine tZ ?_ (hbw:=by exact rfl);refine tZ ?_ (hbw:=by exact rfl);refine o1 (oH ?_);refine Eo 2 ?_;refine Eo 10 ?_;refine ma 1 [0,1,2] mixed ?_;refine pQ 3 iQ iY ?_ (hat:=rfl);refine ga [4,5,6] ?_;refine pQ 7 iQ iY ?_ (hat:=rfl);refine ga [8] ?_;refine A2 9 rfl (ck adp rfl rfl (hC) [0,1,2,3] rfl (jN (oT (.cons rfl .jK (jN .nil)))) (jw (oq (oq .nil))) ?_);refine ga [10] ?_;refine iB<|jD 4 (fF r) [0,1,2,3] (jv h q c p) ⟨rfl,rfl⟩
theorem Ya{d:Nat}{k:Int}(hk:¬F=4)
 (hA:jT fC q 68 (jv e d most p) [.jk 3 0,.d (ie.mk k m s M h).d] λout ob'=>out=.ret (.d (.jj [(ie.mk F W Y x y).d,.sl 5 (im i)]))/\ob'=jv e I most p)
 (hB:jT fC q 68 (jv e I most p) [.jk 3 0,.d (ie.mk R S V r c).d] λout ob'=>out=.ret (.d (.jj [(ie.mk F W Y x z).d,.sl 5 (im j)]))/\ob'=jv e J most p)
 (hl1:y.length=z.length) (hl2:i.length=j.length) (G:∀l∈x,FV l) (H:iG x<=1000000000000)
 (hC:jT fC q 75 (jv e J most p) [.d (.sl 5 (im y)),.d (.sl 5 (im z)),.fn (.func 44) [.jk 3 0] []] λout ob'=>out=.ret (fH false)/\ob'=jv e C most p):
 jT fC q 44 (jv e d most p) [.jk 3 0,.d (ie.mk k m s M h).d,.d (ie.mk R S V r c).d] λout ob'=>out=.ret (fH false)/\ob'=jv e C most p:=by
 have b:=DI (gl:=q) x G H;have e1:=ir y;have e2:=ir z;have e3:=ir i;have e4:=ir j;unfold jv at hA hB hC ⊢;refine nR Tryz.func44 111 4 ?_;refine nC 11 hA [0,1,2,3] ?_;refine nC 12 hB [0,1,2,3] ?_;refine rV 15 29 26 3 ?_;refine jq 2 ?_ ?_<;>intro h3
 .omega
 refine rV 11 64 59 5 ?_;refine rV 1 71 66 5 ?_;refine rV 1 78 73 5 ?_;refine rV 1 87 80 7 ?_;refine' Cg 1 95 89 6 ?a6 ?_
 case a6=>
  intro hc hK;refine ny 4 b ?_;refine rF 1 ?_;exact hK [_,_,_,_,_,_] rfl rfl
 refine jq 2 ?_ ?_<;>intro h7
 .omega
 refine rF 9 ?_;refine o1 (AP ?_);refine nC 0 hC [0,1,2,3] ?_;refine rF 1 ?_;refine ov 104 false rfl Z<|tZ ?_ (hbw:=by exact rfl);refine ov 104 false rfl Z<|tZ ?_ (hbw:=by exact rfl);refine ov 104 false rfl Z<|tZ ?_ (hbw:=by exact rfl);refine ov 104 false rfl Z<|tZ ?_ (hbw:=by exact rfl);refine ov 104 false rfl Z<|tZ ?_ (hbw:=by exact rfl);refine o1 (sP ?_);refine jD 4 (fF false) [0,1,2,3] (jv e C most p) ⟨rfl,rfl⟩
theorem X9{d:Nat}{k:Int}{sh:fB}(hk:¬G=4)
 (hA:jT fC gl 68 (jv e d c p) [.jk 3 0,.d (ie.mk k m s S q).d] λout ob'=>out=.ret (.d (.jj [(ie.mk G nh sh y z).d,.sl 5 (im i)]))/\ob'=jv e J c p)
 (hB:jT fC gl 68 (jv e J c p) [.jk 3 0,.d (ie.mk V W Y x h).d] λout ob'=>out=.ret (.d (.jj [(ie.mk G nh sh y C).d,.sl 5 (im j)]))/\ob'=jv e M c p)
 (hl1:z.length=C.length) (hl2:i.length=j.length) (H:∀l∈y,FV l) (I:iG y<=1000000000000)
 (hC:jT fC gl 75 (jv e M c p) [.d (.sl 5 (im z)),.d (.sl 5 (im C)),.fn (.func 44) [.jk 3 0] []] λout ob'=>out=.ret (fH true)/\ob'=jv e R c p)
 (hD:jT fC gl 75 (jv e R c p) [.d (.sl 5 (im i)),.d (.sl 5 (im j)),.fn (.func 44) [.jk 3 0] []] λout ob'=>out=.ret (fH r)/\ob'=jv e F c p):
 jT fC gl 44 (jv e d c p) [.jk 3 0,.d (ie.mk k m s S q).d,.d (ie.mk V W Y x h).d] λout ob'=>out=.ret (fH r)/\ob'=jv e F c p:=by
 have b:=DI (gl:=gl) y H I;have e1:=ir z;have e2:=ir C;have e3:=ir i;have e4:=ir j;unfold jv at hA hB hC hD ⊢;refine nR Tryz.func44 111 4 ?_;refine nC 11 hA [0,1,2,3] ?_;refine nC 12 hB [0,1,2,3] ?_;refine rV 15 29 26 3 ?_;refine jq 2 ?_ ?_<;>intro h3
 .omega
 refine rV 11 64 59 5 ?_;refine rV 1 71 66 5 ?_;refine rV 1 78 73 5 ?_;refine rV 1 87 80 7 ?_;refine' Cg 1 95 89 6 ?a12 ?_
 case a12=>
  intro hc hK;refine ny 4 b ?_;refine rF 1 ?_;exact hK [_,_,_,_,_,_] rfl rfl
 refine jq 2 ?_ ?_<;>intro h7
 .omega
 refine rF 9 ?_;refine o1 (AP ?_);refine nC 0 hC [0,1,2,3] ?_;refine rF 1 ?_;refine ov 104 true rfl Z<|uA ?_ (hbw:=by exact rfl);refine rF 1 ?_;refine ov 104 true rfl Z<|uA ?_ (hbw:=by exact rfl);refine rF 1 ?_;refine ov 104 true rfl Z<|uA ?_ (hbw:=by exact rfl);refine rF 1 ?_;refine ov 104 true rfl Z<|uA ?_ (hbw:=by exact rfl);refine o1 (AP ?_);refine ov 104 true rfl Z<|uA ?_ (hbw:=by exact rfl);refine nC 0 hD [0,1,2,3] ?_;refine o1 (oH ?_);refine jD 4 (fF r) [0,1,2,3] (jv e F c p) ⟨rfl,rfl⟩
theorem aan{d:Nat}{k:Int}{sg:fB}{ar:List ie}(hk:¬V=4)(hk2:¬W=4)(hs:¬Y=sg)(G:∀l∈z,FV l)(x:∀l∈C,FV l)(H:iG z<=1000000000000)(y:iG C<=1000000000000)
 (hA:jT fC gl 68 (jv i d c p) [.jk 3 0,.d (ie.mk k m s J h).d] λout ob'=>out=.ret (.d (.jj [(ie.mk V nh Y z ar).d,.sl 5 (im q)]))/\ob'=jv i I c p)
 (hB:jT fC gl 68 (jv i I c p) [.jk 3 0,.d (ie.mk M R S j e).d] λout ob'=>out=.ret (.d (.jj [(ie.mk W ng sg C br).d,.sl 5 (im r)]))/\ob'=jv i F c p):
 jT fC gl 44 (jv i d c p) [.jk 3 0,.d (ie.mk k m s J h).d,.d (ie.mk M R S j e).d] λout ob'=>out=.ret (fH false)/\ob'=jv i F c p:=by
 have b:=Bo (gl:=gl) z C G x H y;have e1:=ir ar;have e2:=ir br;have e3:=ir q;have e4:=ir r;unfold jv at hA hB ⊢;refine nR Tryz.func44 111 4 ?_;refine nC 11 hA [0,1,2,3] ?_;refine nC 12 hB [0,1,2,3] ?_;refine rV 15 29 26 3 ?_;refine jq 2 ?_ ?_<;>intro h3
 .omega
 refine rV 11 64 59 5 ?_;refine rV 1 71 66 5 ?_;refine rV 1 78 73 5 ?_;refine rV 1 87 80 7 ?_;refine' Cg 1 95 89 6 ?a18 ?_
 case a18=>
  intro hc hK;refine ny 4 b ?_;refine rF 1 ?_;exact hK [_,_,_,_,_,_] rfl rfl
 refine j7 2 ?_ ?_<;>intro h7
 .exfalso;(simp[hs] at h7)
 refine jD 7 (fF false) [0,1,2,3] (jv i F c p) ⟨rfl,rfl⟩
theorem PH(q:nS F){ps:List fB}(W:e<=1000000):∀n,EqM gl F ps e n:=by
 intro n
 induction n with
 |zero=>intro k m s ls args k2 z s2 ls2 M c d r U p _ _ h;exact h.elim
 |succ n ih=>
  intro k m s ls args k2 z s2 ls2 M c d r U p j hd G hz hz2 hw H;obtain⟨m3,m4,u,d1,v,d2,I,J,hcs⟩:=G;obtain⟨i1,i2,i3,i4⟩:=vB q.ok j m3 I hd hw;obtain⟨j1,j2,j3,j4⟩:=vB q.ok j m4 J i3 H;rcases hcs with⟨m5,s5,l5,A,x,m6,s6,l6,B,y,rfl,rfl,hr⟩|⟨k3,n3,s3,l3,a3,k4,n4,s4,l4,a4,e1,e2,h1,h2,Y,rfl,rfl⟩|⟨kh,nh,sh,lh,ar,br,h1,e1,e2,e3,e4,r1,d3,h2,Y⟩
  .obtain ⟨kx,mx,sx,lx,ax,rfl⟩:=ie.case x
   obtain⟨ky,my,sy,ly,ay,rfl⟩:=ie.case y
   have R:Wt (jY F) ps (.mk kx mx sx lx ax) (c+1):=i1.2.1.2.1;have S:Wt (jY F) ps (.mk ky my sy ly ay) (c+1):=j1.2.1.2.1;have z1:(ie.mk 4 m5 s5 l5 [A,.mk kx mx sx lx ax]).size=1+(iG l5+(A.size+((ie.mk kx mx sx lx ax).size+0))):=by simp only[ie.size,ij];try omega
   have z2:(ie.mk 4 m6 s6 l6 [B,.mk ky my sy ly ay]).size=1+(iG l6+(B.size+((ie.mk ky my sy ly ay).size+0))):=by simp only[ie.size,ij];try omega
   obtain⟨g1,g2,g3⟩:=ih kx mx sx lx ax ky my sy ly ay (c+1) d2 r U p O j3 hr O O R S;exact⟨O,g2,equalA (zL (gl:=gl) q ⟨j,O⟩ W p hd I O hw (oE Z)) (zL (gl:=gl) q ⟨j,O⟩ W p i3 J O H (oE Z)) g3⟩
  .have su:ig u=(.mk k3 n3 s3 l3 a3,(ig u).2):=by rw[<- e1]
   have sv:ig v=(.mk k4 n4 s4 l4 a4,(ig v).2):=by rw[<- e2]
   obtain⟨_,hH,_,_⟩:=Wt.spine _ (ae _) i1;obtain⟨_,C,_,_⟩:=Wt.spine _ (ae _) j1;have z1:=qa i1;have z2:=qa j1;rw[e1] at hH z1;rw[e2] at C z2;simp only[ie.size] at z1 z2;exact⟨O,j3,aan h1 h2 Y (λl hl=>(hH.1 l hl).ok) (λl hl=>(C.1 l hl).ok) O O (zL (gl:=gl) q ⟨j,O⟩ W p hd I O hw su) (zL (gl:=gl) q ⟨j,O⟩ W p i3 J O H sv)⟩
  .have su:ig u=(.mk kh nh sh lh ar,(ig u).2):=by rw[<- e1]
   have sv:ig v=(.mk kh nh sh lh br,(ig v).2):=by rw[<- e2]
   obtain⟨_,hH,hA,_⟩:=Wt.spine _ (ae _) i1;obtain⟨_,C,hA2,_⟩:=Wt.spine _ (ae _) j1;have z1:=qa i1;have z2:=qa j1;rw[e1] at hH z1;rw[e2] at C z2;simp only[ie.size] at z1 z2;have b1:=iJ ar;have b2:=iJ (ig u).2;have F1:∀(i:Nat) k n0 s l a k2 n2 s2 z a2 d r U,ar[i]? =some (.mk k n0 s l a)->br[i]? =some (.mk k2 n2 s2 z a2)->d2<=d->d<=e->RE F e n (.mk k n0 s l a) (.mk k2 n2 s2 z a2) d r U->d<=U/\U<=e/\jT fC gl 44 (jv F d e p) [.jk 3 0,.d (ie.mk k n0 s l a).d,.d (ie.mk k2 n2 s2 z a2).d] λout ob'=>out=.ret (fH r)/\ob'=jv F U e p:=λi k n0 s l a k2 n2 s2 z a2 d r U R S h0 V G=>by
    have y1:=iO R;have y2:=iO S;exact ih k n0 s l a k2 n2 s2 z a2 (c+1) d r U p O V G O O ((hH.2.1.get R).up (by split<;>omega)) ((C.2.1.get S).up (by split<;>omega))
   have F2:∀(i:Nat) k n0 s l a k2 n2 s2 z a2 d r U,(ig u).2[i]? =some (.mk k n0 s l a)->(ig v).2[i]? =some (.mk k2 n2 s2 z a2)->d2<=d->d<=e->RE F e n (.mk k n0 s l a) (.mk k2 n2 s2 z a2) d r U->d<=U/\U<=e/\jT fC gl 44 (jv F d e p) [.jk 3 0,.d (ie.mk k n0 s l a).d,.d (ie.mk k2 n2 s2 z a2).d] λout ob'=>out=.ret (fH r)/\ob'=jv F U e p:=λi k n0 s l a k2 n2 s2 z a2 d r U R S h0 V G=>by
    have y1:=iO R;have y2:=iO S;exact ih k n0 s l a k2 n2 s2 z a2 c d r U p j V G O O (hA _ (aO R)) (hA2 _ (aO S))
   obtain⟨p1,p2⟩:=NB.le (most:=e) (d0:=d2) (λi a b d r U ha hb h0 h9 G=>by
    obtain⟨_,_,_,_,_,rfl⟩:=ie.case a
    obtain⟨_,_,_,_,_,rfl⟩:=ie.case b
    obtain⟨q1,q2,_⟩:=F1 i _ _ _ _ _ _ _ _ _ _ d r U ha hb h0 h9 G;exact⟨q1,q2⟩) (ae _) j3 h2
   have hE1:=IM (gl:=gl) (p:=p) ar br e3 O F1 d2 r1 d3 (ae _) j3 h2;have hh1:=zL (gl:=gl) q ⟨j,O⟩ W p hd I O hw su;have hh2:=zL (gl:=gl) q ⟨j,O⟩ W p i3 J O H sv;have hlv:∀l∈lh,FV l:=λl hl=>(hH.1 l hl).ok
   rcases Y with⟨rfl,rfl,rfl⟩|⟨rfl,Y⟩
   .exact ⟨O,p2,Ya h1 hh1 hh2 e3 e4 hlv O hE1⟩
   .obtain ⟨p3,p4⟩:=NB.le (most:=e) (d0:=d2) (λi a b d r U ha hb h0 h9 G=>by
     obtain⟨_,_,_,_,_,rfl⟩:=ie.case a
     obtain⟨_,_,_,_,_,rfl⟩:=ie.case b
     obtain⟨q1,q2,_⟩:=F2 i _ _ _ _ _ _ _ _ _ _ d r U ha hb h0 h9 G;exact⟨q1,q2⟩) p1 p2 Y
    exact⟨O,p4,X9 h1 hh1 hh2 e3 e4 hlv O hE1 (IM (gl:=gl) (p:=p) (ig u).2 (ig v).2 e4 O F2 d3 r U p1 p2 Y)⟩
end
section
open Go.Mt (E Ty)
theorem qF.some{sg:Sg}{ps:List fB}{b:Bool}(j:0<=c)(h:qF sg ps b l c)(e:x∈l):∃ps c,0<=c/\Wt sg ps x c:=by
 obtain⟨i,k⟩:=b7 e;exact⟨ps,_,by split<;>omega,h.get k⟩
theorem xB(h:¬ie.kd t=3):ig t=(t,[]):=rK h []
theorem wk.len(q:wk c h i)(e:j.length=i.length):wk c h j:=
 ⟨λx=>q.1 ⟨x.1,λy=>x.2 (bE.1 (by rw[e,y];rfl))⟩,q.2⟩
def Hd(v y:ie):Prop:= ∀s us,(ig y).1=.mk 2 0 s us []->(ig v).1=.mk 2 0 s us []/\(ig v).2.length=(ig y).2.length
def Gd(c:List iI)(n:Nat)(x y:ie)(e:Int):Prop:=
 0<e/\Fz c y 0/\(∀ {b m d:Nat} {v:ie} {d2:Nat},RW c b m x d (.ok v d2)->Hd v y)/\∀(b d0:Nat) (q:Int),d0<=b->q+e<=20000->RN c b n y d0 q (.ok y d0 (q+e))
theorem Qj{s:List iI}{c n:Nat}{P:ie->Prop}(H:∀{x y:ie} {d j:Nat} {p b:Int},P x->RN s c n x d p (.ok y j b)->d<=c->j<=c/\Gd s n x y (b-p)):
 ∀{l U:List ie} {d j:Nat} {p b:Int},(∀ x∈l,P x)->Ch (RN s c n) l d p (.ok U j b)->d<=c->U.length=l.length/\p<=b/\(∀ (i:Nat) x,l[i]? =some x->∃y k,U[i]? =some y/\Gd s n x y k)/\∀(r d0:Nat) (q:Int),d0<=r->q+(b-p)<=20000->Ch (RN s r n) U d0 q (.ok U d0 (q+(b-p)))
 |[],U,d,j,p,b,C,h,hd=>by
  cases h;exact⟨rfl,aP _,λi x e=>by simp at e,λr d0 q _ _=>by rw[Int.sub_self,dW];rfl⟩
 |a::l,U,d,j,p,b,C,h,hd=>by
  rcases h with⟨_,F⟩|⟨y,d2,z,J,F,M,I⟩
  .cases F
  .cases J with
   |ja=>cases I
   |ok l2 d3 p3=>
    cases I;obtain⟨R,G⟩:=H (C _ bC) F hd;obtain⟨k1,k2,S,V⟩:=Qj H (λx W=>C x (bB _ W)) M R;have Y:=G.1;refine⟨by rw[aj,aj,k1],O,λi x e=>?_,λr d0 q hd hq=>?_⟩
    .cases i with
     |zero=>simp at e;subst e;exact⟨y,_,rfl,G⟩
     |succ i=>simpa using S i x (by simpa using e)
    .refine .inr ⟨y,d0,q+(z-p),.ok l2 d0 (q+(b-p)),G.2.2.2 r d0 q hd O,?_,rfl⟩;have:=V r d0 (q+(z-p)) hd O
     rwa [show q+(z-p)+(b-z)=q+(b-p) by omega] at this
theorem Ze(hE:ko C):∀(n:Nat) {t y:ie} {d d':Nat} {p J:Int},(∃ ps c,0<=c/\Wt (jY C) ps t c)->RN C most n t d p (.ok y d' J)->d<=most->d'<=most/\Gd C n t y (J-p):=by
 intro n
 induction n with
 |zero=>intro t y d d' p J _ h;exact h.elim
 |succ n ih=>
  intro t y d d' p J hw h hd;obtain⟨ps,c,hc,hw⟩:=hw;have hw2:=D7 hE _ h hd hc hw;refine⟨hw2.2.2.1,O,?_⟩;rcases h with⟨_,_,h⟩|⟨m,v,d1,H,h1,h2,W⟩
  .cases h
  obtain⟨hv,e1,e2,e3⟩:=vB hE hc m h1 hd hw;obtain⟨k,hk,hf⟩:=Wz _ h1;obtain⟨_,hH,hA,_⟩:=Wt.spine _ (ae _) hv;have M:=Wt.yy _ (ae _) hv;have key:∀{U:List ie} {d3:Nat} {p3:Int},Ch (RN C most n) (ig v).2 d1 (p+1) (.ok U d3 p3)->y=iF (ig v).1 U->Fz C y 0/\Hd v y:=by
   intro U d3 p3 R hy;obtain⟨g1,_,g3,_⟩:=Qj ih (P:=λx=> ∃ps c,0<=c/\Wt (jY C) ps x c) (λx hx=>⟨ps,c,hc,hA x hx⟩) R e2;have F:ig y=((ig v).1,U):=by rw[hy];exact rK M U
   refine⟨?_,λs us e=>by rw[F] at e;exact⟨e,by rw[F,g1]⟩⟩;rcases hf with⟨f1,_⟩|⟨s,us,e,⟨r1,r2,r3⟩,f2⟩
   .exact .inl ⟨by rw[F];exact f1.len g1,rfl⟩
   .refine .inr ⟨s,us,e,⟨by rw[F];exact r1,r2,r3⟩,?_⟩;rw[F];rcases f2 with⟨f2,_⟩|⟨x,mj,f2,⟨N,f3⟩,f4⟩
    .exact .inl ⟨by rw[g1];exact f2,rfl⟩
    .obtain ⟨z,kz,z1,z2,z3,z4,z5⟩:=g3 _ x f2;obtain⟨N2,S⟩:=z3.rw;refine .inr ⟨z,z,z1,⟨N2,S⟩,λi cty us2 hc2=>?_⟩;obtain⟨s2,e2,nm,c1,c2,c3,c4,c5⟩:=hc2;obtain⟨y1,y2⟩:=z4 (f3 0 k O) s2 us2 c1;exact f4 i cty us2 ⟨s2,e2,nm,y1,c2,c3,c4,by rw[y2];exact c5⟩
  have low:∀{U:List ie} {d3:Nat} {p3:Int} {l:List ie},Ch (RN C most n) l d1 (p+1) (.ok U d3 p3)->(∀ x∈l,∃ps c,0<=c/\Wt (jY C) ps x c)->U.length=l.length/\∀(j d0:Nat) (q:Int),d0<=j->q+(p3-p)<=20000->Ch (RN C j n) U d0 (q+1) (.ok U d0 (q+(p3-p))):=by
   intro U d3 p3 l R hl;obtain⟨g1,g2,_,g4⟩:=Qj ih hl R e2;refine⟨g1,λj d0 q hd Y=>?_⟩;have:=g4 j d0 (q+1) hd O
   rwa [show q+1+(p3-(p+1))=q+(p3-p) by omega] at this
  have I:∀{so':Int->xr},Fz C y 0->(p<J)->(∀ (j d0:Nat) (q:Int),d0<=j->q+(J-p)<=20000->((ie.kd y=3/\∃H,Ch (RN C j n) (ig y).2 d0 (q+1) H/\tQ.ok y d0 (q+(J-p))=H.to (iF (ig y).1))\/(ie.kd y≠3/\∃H,Ch (RN C j n) (ie.ars y) d0 (q+1) H/\tQ.ok y d0 (q+(J-p))=H.to (ie.wa y))))->∀(j d0:Nat) (q:Int),d0<=j->q+(J-p)<=20000->RN C j (n+1) y d0 q (.ok y d0 (q+(J-p))):=by
   intro _ hz hp hh j d0 q hd Y;obtain⟨N,hN⟩:=hz.rw;refine .inr ⟨N,y,d0,?_⟩;rcases hh j d0 q hd Y with⟨a1,H,a2,a3⟩|⟨a1,H,a2,a3⟩
   .exact ⟨H,hN d0 j hd,O,.inl ⟨a1,a2,a3⟩⟩
   .exact ⟨H,hN d0 j hd,O,.inr ⟨a1,a2,a3⟩⟩
  rcases W with⟨W,R,S⟩|⟨W,R,S⟩
  .cases H with
   |ja=>cases S
   |ok U d3 p3=>
    cases S;obtain⟨k1,k2⟩:=key R rfl;obtain⟨l1,l2⟩:=low R λx hx=>⟨ps,c,hc,hA x hx⟩
    have F:ig (iF (ig v).1 U)=((ig v).1,U):=rK M U;refine⟨k1,λr=>by rw[<- Wy _ h1 r];exact k2,I (so':=λ_=>.ja) k1 O λj d0 q hd Y=>.inl ⟨?_,by rw[F];exact⟨_,l2 j d0 q hd Y,rfl⟩⟩⟩
    .match U,l1 with
     |[],l1=>
      have e:(ig v).2=[]:=bE.1 l1.symm;have:=(Wt.spine _ (ae _) hv).2.2.2;rw[e] at this;rw[show(ig v).1=v from this] at M;exact absurd W M
     |a::r,_=>
      obtain⟨r',b,hb⟩:∃r' b,a::r=r'++[b]:=⟨_,_,(eM (List.cons_ne_nil a r)).symm⟩;rw[hb,qR];rfl
  .cases H with
   |ja=>cases S
   |ok U d3 p3=>
    have V:=xB W;obtain⟨kk,n1,s,ls,args⟩:=v;cases S;simp only[ie.ars,ie.wa] at R ⊢;have hky:¬ie.kd (.mk kk n1 s ls U)=3:=W;have G:=xB hky;have hws:∀x∈args,∃ps c,0<=c/\Wt (jY C) ps x c:=λx hx=>qF.some hc hv.2.1 hx
    obtain⟨l1,l2⟩:=low R hws;have k2:Hd (.mk kk n1 s ls args) (.mk kk n1 s ls U):=λs' us e=>by
     rw[G] at e;cases e;rw[V,G];rw[bE.1 l1.symm];exact⟨rfl,rfl⟩
    have k1:Fz C (.mk kk n1 s ls U) 0:=by
     rcases hf with⟨f1,_⟩|⟨s2,us,e,⟨r1,r2,r3⟩,f2⟩
     .rw [V] at f1;refine .inl ⟨?_,rfl⟩;rw[G];refine⟨λx=>x.2 rfl,f1.2.1,λs' us e=>?_⟩;cases e;obtain rfl:=bE.1 l1.symm;exact f1.2.2 _ _ rfl
     .rw [V] at r1 f2;cases r1;rw[bE.1 l1] at G ⊢;refine .inr ⟨_,_,e,⟨by rw[G],r2,r3⟩,.inl ⟨?_,rfl⟩⟩;rw[G];exact ak _
    exact⟨k1,λr=>by rw[<- Wy _ h1 r];exact k2,I (so':=λ_=>.ja) k1 O λj d0 q hd Y=>.inr ⟨hky,_,l2 j d0 q hd Y,rfl⟩⟩
end
section
variable (es:List iI)
def ctX(e:iI)(h:ie):Option (Nat×ie×List iq):=match (ig h).1 with
 | .mk k m s us args=>if k=2/\m=0/\args.isEmpty/\(iw s es).1=4/\(iw s es).2.1.d.nm=e.d.nm then match e.d.cs[(iw s es).2.2]? with
  |some c=>if (ig h).2.length=iv c.2 then some ((iw s es).2.2,c.2,us) else none
  |none=>none else none
variable (most:Nat)
def WV : Nat -> ie -> Nat -> Option qZ
  | 0, _, _ => none
  | n + 1, t, d => match (ig t).1 with
    | .mk k m s ls args => if k = 4 then (match args, (ig t).2 with
        | [A, b], a :: r => if m = 0 /\ s = .empty /\ ls.isEmpty then (if most <= d then some .ja else if (jJ b a).size <= 20000 then WV n (iF (jJ b a) r) (d + 1) else none) else none
        | _, _ => none)
      else if k = 2 /\ m = 0 /\ args.isEmpty then
        (if (iw s es).1 = 2 /\ (iw s es).2.1.d.ps.length = ls.length then (if most <= d then some .ja else if (ld (iw s es).2.1.d.ps ls (iw s es).2.1.d.vl).size <= 20000 then WV n (iF (ld (iw s es).2.1.d.ps ls (iw s es).2.1.d.vl) (ig t).2) (d + 1) else none)
         else if (iw s es).1 = 5 /\ (iw s es).2.1.rp.length = ls.length then (match (ig t).2[ym (iw s es).2.1]? with
          | some x => match WV n x d with
            | some .ja => some .ja
            | some (.ok c d1) => match ctX es (iw s es).2.1 c with
              | some (i, U, us) => if most <= d1 then some .ja else if (ld (iw s es).2.1.d.ps us U).size <= 20000 /\ (rb (iw s es).2.1 (.mk 2 0 s ls []) (ig t).2 (ig c).2 i U us).size <= 20000 then WV n (rb (iw s es).2.1 (.mk 2 0 s ls []) (ig t).2 (ig c).2 i U us) (d1 + 1) else none
              | none => none
            | none => none
          | none => none)
         else some (.ok t d))
      else none
def U3(R:ie->Nat->Int->Option tQ):List ie->Nat->Int->Option xr
 |[],d,p=>some (.ok [] d p)
 |x::r,d,p=>match R x d p with
  |some .ja=>some .ja
  |some (.ok y d1 b)=>(U3 R r d1 b).map (·.cons y)
  |none=>none
def nfX:Nat->ie->Nat->Int->Option tQ
 |0,_,_,_=>none
 |n+1,t,d,p=>match WV es most (n+1) t d with
  |some .ja=>some .ja
  |some (.ok u d1)=>if p+1<=20000 then(if ie.kd u=3 then(U3 (nfX n) (ig u).2 d1 (p+1)).map (·.to (iF (ig u).1)) else(U3 (nfX n) (ie.ars u) d1 (p+1)).map (·.to (ie.wa u))) else none
  |none=>none
def Yb(R:ie->ie->Nat->Option (Bool×Nat)):List ie->List ie->Nat->Option (Bool×Nat)
 |a::l,b::m,d=>match R a b d with
  |some (true,d1)=>Yb R l m d1
  |o=>o
 |_,_,d=>some (true,d)
def eqX:Nat->ie->ie->Nat->Option (Bool×Nat)
 |0,_,_,_=>none
 |n+1,a,b,d=>match WV es most (n+1) a d with
  |some (.ok u d1)=>match WV es most (n+1) b d1 with
   |some (.ok v d2)=>match (ig u).1,(ig v).1 with
    | .mk k n1 s l a1,.mk U c e h a2=>if k=2/\U=2 then(if s=e then(if n1=c/\l.isEmpty/\h.isEmpty/\a1.isEmpty/\a2.isEmpty/\(ig u).2.length=(ig v).2.length then Yb (eqX n) (ig u).2 (ig v).2 d2 else none) else some (false,d2)) else none
   |_=>none
  |_=>none
theorem aaz{h:ie}(I:ctX q e r=some (i,j,x)):qQ q e (ig r).1 (ig r).2 i j x:=by
 unfold ctX at I;split at I;rename_i H m s U args y;split at I
 .rename_i z;obtain⟨rfl,rfl,ha,C,F⟩:=z;split at I
  .rename_i c b;split at I
   .rename_i G;cases I;rw[ei] at ha;subst ha;exact⟨s,(iw s q).2.1,c.1,y,by rw[<- C],F,b,G⟩
   .cases I
  .cases I
 .cases I
theorem tn{q:List iI}{c:Nat}:∀(n:Nat) {t:ie} {d:Nat} {o:qZ},WV q c n t d=some o->RW q c n t d o
 |0,t,d,o,h=>by cases h
 |n+1,t,d,o,h=>by
  unfold WV at h;split at h;rename_i k m s ls args C;split at h
  .rename_i R;subst R;split at h
   .rename_i A b a r ha;split at h
    .rename_i H;obtain⟨rfl,rfl,S⟩:=H;rw[ei] at S;subst S;refine .inl ⟨A,b,a,r,C,ha,?_⟩;split at h
     .rename_i F;cases h;exact .inl ⟨F,rfl⟩
     .split at h
      .rename_i hz;exact .inr ⟨O,hz,tn n h⟩
      .cases h
    .cases h
   .cases h
  split at h
  .rename_i R H;obtain⟨rfl,rfl,ha⟩:=H;rw[ei] at ha;subst ha;split at h
   .rename_i hd;refine .inr (.inr (.inl ⟨s,ls,(iw s q).2.1,(iw s q).2.2,C,by rw[<- hd.1],hd.2,?_⟩));split at h
    .rename_i F;cases h;exact .inl ⟨F,rfl⟩
    .split at h
     .rename_i hz;exact .inr ⟨O,hz,tn n h⟩
     .cases h
   .rename_i I;split at h
    .rename_i V;refine .inr (.inr (.inr (.inl ?_)));split at h
     .rename_i x W;have mk:∀io,((RW q c n x d .ja/\io=.ja)\/∃y d1,RW q c n x d (.ok y d1)/\((∃ i U us,qQ q (iw s q).2.1 (ig y).1 (ig y).2 i U us/\((c<=d1/\io=.ja)\/(d1<c/\(ld (iw s q).2.1.d.ps us U).size<=20000/\(rb (iw s q).2.1 (.mk 2 0 s ls []) (ig t).2 (ig y).2 i U us).size<=20000/\io=.step (rb (iw s q).2.1 (.mk 2 0 s ls []) (ig t).2 (ig y).2 i U us) (d1+1))))))->Tb (RW q c n) t o io->∃G us e j io,(ig t).1=.mk 2 0 G us []/\iw G q=(5,e,j)/\e.rp.length=us.length/\RI q c (RW q c n) e (.mk 2 0 G us []) (ig t).2 d io/\Tb (RW q c n) t o io:=by
       intro io J Y;refine⟨s,ls,(iw s q).2.1,(iw s q).2.2,io,C,by rw[<- V.1],V.2,.inr ⟨x,W,?_⟩,Y⟩;rcases J with J|⟨y,d1,h3,h4⟩
       .exact .inl J
       .exact .inr ⟨y,d1,h3,.inr h4⟩
      split at h
      .rename_i hw;cases h;exact mk .ja (.inl ⟨tn n hw,rfl⟩) rfl
      .rename_i y d1 hw;split at h
       .rename_i i U us z;have z:=aaz (h:=t) z;split at h
        .rename_i F;cases h;exact mk .ja (.inr ⟨y,d1,tn n hw,i,U,us,z,.inl ⟨F,rfl⟩⟩) rfl
        .split at h
         .rename_i F hz;exact mk _ (.inr ⟨y,d1,tn n hw,i,U,us,z,.inr ⟨O,hz.1,hz.2,rfl⟩⟩) (tn n h)
         .cases h
       .cases h
      .cases h
     .cases h
    .rename_i M;cases h;refine .inr (.inr (.inr (.inr ⟨⟨λx=>?_,λx=>?_,λG us e=>?_⟩,rfl⟩)))
     .rw [C] at x;exact absurd x.1 (show ¬(2:Int)=4 by decide)
     .rw [C] at x;exact absurd x (show ¬(2:Int)=6 by decide)
     .rw [C] at e;cases e;exact⟨I,M⟩
  .cases h
theorem JY{R:ie->Nat->Int->Option tQ}{e:ie->Nat->Int->tQ->Prop}(c:∀{t d p o},R t d p=some o->e t d p o):∀{l:List ie} {d:Nat} {p:Int} {o:xr},U3 R l d p=some o->Ch e l d p o
 |[],d,p,o,h=>by cases h;rfl
 |x::r,d,p,o,h=>by
  unfold U3 at h;split at h
  .rename_i b;cases h;exact .inl ⟨c b,rfl⟩
  .rename_i y d1 k b;obtain⟨U,i,rfl⟩:=bO.1 h;exact .inr ⟨y,d1,k,U,c b,JY c i,rfl⟩
  .cases h
theorem JZ{e:List iI}{most:Nat}:∀(n:Nat) {t:ie} {d:Nat} {p:Int} {o:tQ},nfX e most n t d p=some o->RN e most n t d p o
 |0,t,d,p,o,h=>by cases h
 |n+1,t,d,p,o,h=>by
  unfold nfX at h;split at h
  .rename_i b;cases h;exact .inl ⟨_,tn _ b,rfl⟩
  .rename_i u d1 b;split at h
   .rename_i i;split at h
    .rename_i k;obtain⟨U,c,rfl⟩:=bO.1 h;exact .inr ⟨_,u,d1,U,tn _ b,i,.inl ⟨k,JY (JZ n) c,rfl⟩⟩
    .rename_i k;obtain⟨U,c,rfl⟩:=bO.1 h;exact .inr ⟨_,u,d1,U,tn _ b,i,.inr ⟨k,JY (JZ n) c,rfl⟩⟩
   .cases h
  .cases h
theorem Rm{R:ie->ie->Nat->Option (Bool×Nat)}{e:ie->ie->Nat->Bool->Nat->Prop}(c:∀{a b d r k},R a b d=some (r,k)->e a b d r k):∀{l m:List ie} {d:Nat} {r:Bool} {k:Nat},Yb R l m d=some (r,k)->NB e l m d r k
 |a::l,b::m,d,r,k,h=>by
  unfold Yb at h;split at h
  .rename_i d1 U;exact⟨true,d1,c U,.inr ⟨rfl,Rm c h⟩⟩
  .rename_i U;cases r with
   |true=>exact absurd h (U _)
   |false=>exact⟨false,k,c h,.inl ⟨rfl,rfl,rfl⟩⟩
 |[],m,d,r,k,h=>by cases h;exact⟨rfl,rfl⟩
 |_::_,[],d,r,k,h=>by cases h;exact⟨rfl,rfl⟩
theorem PI{e:List iI}{most:Nat}:∀(n:Nat) {a b:ie} {d:Nat} {r:Bool} {U:Nat},eqX e most n a b d=some (r,U)->RE e most n a b d r U
 |0,a,b,d,r,U,h=>by cases h
 |n+1,a,b,d,r,U,h=>by
  unfold eqX at h;split at h
  .rename_i u d1 i;split at h
   .rename_i v d2 j;split at h;rename_i k n1 s l a1 I z C F a2 q x;split at h
    .rename_i G;obtain⟨rfl,rfl⟩:=G;split at h
     .rename_i c;subst c;split at h
      .rename_i y;simp only[ei] at y;obtain⟨rfl,rfl,rfl,rfl,rfl,H⟩:=y;exact⟨_,_,u,d1,v,d2,tn _ i,tn _ j,.inr (.inr ⟨2,n1,s,[],[],[],Z,q,x,rfl,H,true,d2,⟨rfl,rfl⟩,.inr ⟨rfl,Rm (PI n) h⟩⟩)⟩
      .cases h
     .rename_i c;cases h;exact⟨_,_,u,d1,v,U,tn _ i,tn _ j,.inr (.inl ⟨2,n1,s,l,a1,2,z,C,F,a2,q,x,Z,Z,c,rfl,rfl⟩)⟩
    .cases h
   .cases h
  .cases h
end
def Sa:ie:=D6 (D6 (.mk 2 0 nmA [] []) (.mk 2 0 nmT [] [])) (.mk 2 0 nmT [] [])
def n4:ie:=D6 kS (D6 kS (D6 kS (D6 kS kZ)))
theorem Zv:nfX AQ 100 20 Sa 0 0=some (.ok n4 12 5):=gN
theorem R9:nfX AQ 11 20 Sa 0 0=some .ja:=gN
theorem Zx:eqX AQ 100 20 Sa n4 0=some (true,12):=gN
theorem Zw:eqX AQ 100 20 Sa (D6 kS n4) 0=some (false,12):=gN
section
attribute [local irreducible] iK iL jI ik iW jH
theorem MP(C:nS j){ps:List fB}(H:e<=1000000)(S m s q h x y z i c r G)(I:RE j e n (.mk S m s q h) (.mk x y z i c) 0 r G)(R:(ie.mk S m s q h).size+30000*e<=1000000000)(J:(ie.mk x y z i c).size+30000*e<=1000000000)(M:Wt (jY j) ps (.mk S m s q h) 0)(F:Wt (jY j) ps (.mk x y z i c) 0):
 jT fC gl 43 (B6 j) [.jk 0 0,.d (ie.mk S m s q h).d,.d (ie.mk x y z i c).d,fE e] λout ob'=>out=.ret (.d (.jj [fF r,.v .nilIface]))/\ob'=B6 j:=by
 have heq:=(PH (gl:=gl) C H n S m s q h x y z i c 0 0 r G 0 (aP _) (ak _) I O O M F).2.2;unfold B6;unfold jv at heq;refine wj Tryz.func43 rfl Tryz.ntmps43 (rs:=[.tmp 8,.cell 9 49]) rfl rfl rfl 3 rfl ?_;refine sr<|oc (T:=λ_=>False) (bx jz ?_ (hl:=by simp only[aj,aH,Nat.reduceAdd];rfl));refine oc (T:=λ_=>False) (bx jz ?_ (hl:=by simp only[aj,aH,Nat.reduceAdd];rfl));refine o1 (Wl ?_);refine oc (T:=λ_=>False) (Yz Cp ?_ (hl:=by simp only[aj,aH,Nat.reduceAdd];rfl));refine nx<|sr<|o1 (mv ?_);refine o1 (mv ?_);refine o1 (bld Js ?_);refine oc (T:=λ_=>False) (bx Js ?_ (hl:=by simp only[aj,aH,Nat.reduceAdd];rfl));refine o1 (Wl ?_);refine nx<|Fp ?_;refine Aw ab2 rfl rfl rfl rfl rfl ?_;refine UC 7 rfl ?_;refine kp [10,9,8,6,5] ?_;refine sr<|o1 (mv ?_);refine o1 (Hg jz ?_);refine o1 (Hg jz ?_);refine oc (ck adp rfl rfl (heq) [0,1,2,6] rfl (jN (oT (.cons rfl .jK (jN .nil)))) (jw (oq (oq .nil))) ?_);refine o1 (Wl ?_);refine oc (Ug Cp ?_);refine nx<|yH ?_;refine Gy ?_;refine BJ (C4 _) [5] (.cons rfl (.cells rfl (nQ.rfl _)) .nil) rfl rfl rfl rfl (.cons (.refl _) .nil) (λU ob' b=>?_);obtain⟨rfl,rfl⟩:=b;refine⟨_,_,_,_,rfl,rfl,rfl,rfl,?_⟩;refine FT rfl ?_;refine pc ⟨_,_,rfl,rfl,⟨_,_,rfl,(jB rfl rfl Cp rfl rfl rfl rfl),rfl⟩⟩ rfl (.jj [fF r,.v .nilIface]) (by exact .refl _) ([0,1,2]) ([pE (j.map (·.d)),dR,.jK (o7 j)]) rfl rfl rfl ?_ ?_
 .repeat (first|exact nw|refine jN ?_|refine oT ?_|refine rl ?_)
 .exact ⟨rfl,rfl⟩
theorem y8(F:nS i){ps:List fB}(M:most<=1000000)(V m s j args x y z h e r H)(R:RE i most n (.mk V m s j args) (.mk x y z h e) 0 r H)(S:(ie.mk V m s j args).size+30000*most<=1000000000)(G:(ie.mk x y z h e).size+30000*most<=1000000000)(I:Wt (jY i) ps (.mk V m s j args) 0)(C:Wt (jY i) ps (.mk x y z h e) 0):
 jT fC gl 20 (B6 i) [.jk 0 0,.d (ie.mk V m s j args).d,.d (ie.mk x y z h e).d,fE most] λout ob'=>out=.ret (.d (.jj [fF (Yc PK (.mk V m s j args) (.mk x y z h e)||r),.v .nilIface]))/\ob'=B6 i:=by
 have b:=MP (gl:=gl) F M V m s j args x y z h e r H R S G I C;have b1:=Wt.sh (sg:=jY i) (ps:=ps) (c:=0) (B:=(ie.mk V m s j args).size) (t:=.mk V m s j args) I O;have b2:=Wt.sh (sg:=jY i) (ps:=ps) (c:=0) (B:=(ie.mk x y z h e).size) (t:=.mk x y z h e) C O;have b1:=rr (B':=(ie.mk V m s j args).size+(ie.mk x y z h e).size) O b1;have b2:=rr (B':=(ie.mk V m s j args).size+(ie.mk x y z h e).size) O b2;have U:=KW (gl:=gl) _ V m s j args x y z h e (ae _) O O b1 b2;generalize Yc PK (.mk V m s j args) (.mk x y z h e)=q at U ⊢;unfold B6 at b ⊢;refine nR Tryz.func20 43 3 ?_;refine ny 13 U ?_;refine jq 2 ?_ ?_<;>intro J
 .refine jD 8 (.jj [fF true,.v .nilIface]) [0,1,2] [pE (i.map (·.d)),dR,.jK (o7 i)] ?_
  ·(obtain rfl:q=true:=by simpa using J);exact⟨rfl,rfl⟩
 refine nC 9 b [0,1,2] ?_;refine rF 10 ?_;refine o1 (vu Gl ?_);refine Eo 2 ?_;refine jD 9 (.jj [fF r,.v .nilIface]) [0,1,2] [pE (i.map (·.d)),dR,.jK (o7 i)] ?_
 ·(obtain rfl:q=false:=by simpa using J);exact⟨rfl,rfl⟩
theorem wC(h:jY AQ s=some e.length)(j:∀l∈e,qV i l):Wt (jY AQ) i (.mk 2 0 s e []) c:=⟨j,trivial,.inr (.inr (.inl ⟨rfl,rfl,h,rfl⟩))⟩
theorem wN:Wt (jY AQ) e kN c:=wC gN nofun
theorem wZ:Wt (jY AQ) e kZ c:=wC gN nofun
theorem wS{ps:List fB}:Wt (jY AQ) ps kS c:=wC gN nofun
theorem wA{ps:List fB}(e:Wt (jY AQ) ps a c)(h:Wt (jY AQ) ps i c):Wt (jY AQ) ps (D6 a i) c:=⟨nofun,⟨e,h,trivial⟩,.inr (.inr (.inr (.inl ⟨.inl rfl,rfl,rfl,rfl,rfl⟩)))⟩
theorem wL(h:Wt (jY AQ) e a c)(i:Wt (jY AQ) e j (c+1)):Wt (jY AQ) e (Z0 a j) c:=⟨nofun,⟨h,i,trivial⟩,.inr (.inr (.inr (.inl ⟨.inr (.inl rfl),rfl,rfl,rfl,rfl⟩)))⟩
theorem wP(h:Wt (jY AQ) e a c)(i:Wt (jY AQ) e j (c+1)):Wt (jY AQ) e (pT a j) c:=⟨nofun,⟨h,i,trivial⟩,.inr (.inr (.inr (.inl ⟨.inr (.inr rfl),rfl,rfl,rfl,rfl⟩)))⟩
theorem wV(h:0<=n/\n<c):Wt (jY AQ) e (vT n) c:=⟨nofun,trivial,.inl ⟨rfl,h,rfl,rfl,rfl⟩⟩
theorem wSo(h:qV e l):Wt (jY AQ) e (.mk 1 0 .empty [l] []) c:=⟨λx b=>(by obtain rfl:=bF.1 b;exact h),trivial,.inr (.inl ⟨rfl,rfl,rfl,rfl,rfl⟩)⟩
theorem lv1:qV c XG:=⟨.succ .zero,rfl,⟨Z,Z,λh=>absurd h Z,⟨Z,Z,λh=>absurd h Z,trivial⟩,trivial⟩,λp h=>h.elim⟩
theorem GA:nS AQ:=by
 have k:∀{P:iI->Prop},P En->P MN->P Ye->∀e∈AQ,P e:=λU j q e he=>by
  rcases bh.1 he with rfl|he
  .exact U
  rcases bh.1 he with rfl|he
  .exact j
  obtain rfl:=bF.1 he;exact q
 have b:∀{ps c},Wt (jY AQ) ps (pT kN kN) c:=wP wN wN;have r:Wt (jY AQ) [] Yo.vl 0:=wL wN (wL wN (wA (wA (wA (wA (wC gN λl s=>by obtain rfl:=bF.1 s;exact lv1) (wL wN wN)) (wV Z)) (wL wN (wL wN (wA wS (wV Z))))) (wV Z)));have y:Wt (jY AQ) [⟨#[114]⟩] En.rt 0:=wP (wP wN (wSo ⟨.param ⟨#[114]⟩,rfl,⟨Z,Z,λ_=>Z,trivial⟩,λp h=>by rw[show p=⟨#[114]⟩ from h];exact bC⟩)) (wP (wA (wV Z) wZ) (wP (wP wN (wP (wA (wV Z) (wV Z)) (wA (wV Z) (wA wS (wV Z))))) (wP wN (wA (wV Z) (wV Z)))));refine⟨⟨Z,by decide +kernel,k ?_ ?_ ?_⟩,by decide +kernel,k ?_ nofun nofun,k (λh=>absurd rfl h) (λ_=>rfl) (λ_=>rfl),k (by decide +kernel) (by decide +kernel) (by decide +kernel)⟩
 .refine ⟨Z,Z,Z,⟨wSo lv1,by decide +kernel⟩,nofun,Z,λ_=>by decide +kernel,λx hx=>?_,Z,λ_=>⟨y,by decide +kernel⟩⟩;rcases bh.1 hx with rfl|hx
  .exact ⟨wN,by decide +kernel,by decide +kernel⟩
  .obtain rfl:=bF.1 hx;exact⟨b,by decide +kernel,by decide +kernel⟩
 .exact ⟨Z,Z,Z,⟨wN,by decide +kernel⟩,λ_=>⟨wA wS (wA wS wZ),by decide +kernel⟩,Z,nofun,nofun,Z,nofun⟩
 .exact ⟨Z,Z,Z,⟨wP wN b,by decide +kernel⟩,λ_=>⟨r,by decide +kernel⟩,Z,nofun,nofun,Z,nofun⟩
 .intro _ x hx i a z ha;rcases bh.1 hx with rfl|hx
  .exact absurd ha (by rw[show lQ (iv kN) kN=[] from rfl];simp)
  .obtain rfl:=bF.1 hx;rw[show lQ (iv (pT kN kN)) (pT kN kN)=[kN] from rfl] at ha;cases i with
   |zero=>simp at ha;subst ha;exact λ_=>⟨0,[],[],rfl,Z⟩
   |succ i=>simp at ha
theorem RX:jT fC (xt g) 22 [] [fI Wf] (KG λes w=>es=AQ/\w=false):=
 ET Wf We (λes w h=>by rw[h.1];exact GA) Py
def tx4:fB:=⟨#[40,97,112,112,32,40,97,112,112,32,40,99,111,110,115,116,32,97,100,100,41,32,40,99,111,110,115,116,32,116,119,111,41,41,32,40,99,111,110,115,116,32,116,119,111,41,41]⟩
def tx5:fB:=⟨#[40,97,112,112,32,40,99,111,110,115,116,32,115,117,99,99,41,32,40,97,112,112,32,40,99,111,110,115,116,32,115,117,99,99,41,32,40,97,112,112,32,40,99,111,110,115,116,32,115,117,99,99,41,32,40,97,112,112,32,40,99,111,110,115,116,32,115,117,99,99,41,32,40,99,111,110,115,116,32,122,101,114,111,41,41,41,41,41]⟩
theorem rd4:pK tx4=(Sa,0,0):=gN
theorem rd5:pK tx5=(n4,0,0):=gN
theorem w4{ps:List fB}:Wt (jY AQ) ps Sa 0:=wA (wA (wC gN nofun) (wC gN nofun)) (wC gN nofun)
theorem w5{ps:List fB}:Wt (jY AQ) ps n4 0:=wA wS (wA wS (wA wS (wA wS wZ)))
set_option maxRecDepth 100000 in
theorem Lm(c:xt g 1=AR):jA fC (xt g) 14 [] (· =fF true):=by
 have hw:=RX (g:=g);have e:=vj (g:=g) tx4;rw[rd4] at e;have h:=vj (g:=g) tx5;rw[rd5] at h;have j:=AT (gl:=xt g) GA (ps:=[]) (most:=100) Z 3 0 .empty [] _ _ (JZ _ Zv) (by decide +kernel) w4;have q:=AT (gl:=xt g) GA (ps:=[]) (most:=11) Z 3 0 .empty [] _ _ (JZ _ R9) (by decide +kernel) w4;have r:=y8 (gl:=xt g) GA (ps:=[]) (most:=100) Z 3 0 .empty [] _ 3 0 .empty [] _ _ _ (PI _ Zx) (by decide +kernel) (by decide +kernel) w4 w5;have x:=y8 (gl:=xt g) GA (ps:=[]) (most:=100) Z 3 0 .empty [] _ 3 0 .empty [] _ _ _ (PI _ Zw) (by decide +kernel) (by decide +kernel) w4 (wA wS w5);have b:=wo (gl:=xt g) 3 0 .empty [] [kS,D6 kS (D6 kS (D6 kS kZ))] 3 0 .empty [] [kS,D6 kS (D6 kS (D6 kS kZ))] (by decide +kernel);rw[ie.uP] at b;have U:=Wd (gl:=xt g) c 14 0;refine oN Tryz.func14 99 ?_;refine uo 7 hw [] ?_;rintro s ob' ⟨es,w,⟨rfl,rfl⟩,⟨⟩,rfl⟩;refine uv ?_;refine ny 6 e ?_;refine ny 11 h ?_;refine nC 14 j [0,1,2] ?_;refine sH 16 ?_;refine nC 0 q [0,1,2] ?_;refine nC 16 r [0,1,2] ?_;refine oR 14 mN [.tmp 57,.tmp 58] jz ?_;refine rF 1 ?_;refine oc (ck adr rfl rfl (x) [0,1,2] rfl (jN (oT (.cons rfl .jK .nil))) (jw (oq (.cons (.Yh rfl (by repeat (first|exact .refl _|exact .nil|refine .agg ?_|refine .sl ?_|refine .cons ?_ ?_))) (jw .nil)))) ?_);refine ny 10 U ?_;refine rF 10 ?_;refine o1 (vu Gl ?_);refine' DM 1 74 71 3 ?a1 ?_
 case a1=>
  intro i k;refine ny 2 b ?_;exact k [_,_,_] rfl rfl
 refine xP 1 78 76 2 ?_;refine xP 1 82 80 2 ?_;refine xP 1 85 84 1 ?_;refine' DM 1 89 87 2 ?a5 ?_
 case a5=>
  intro i k;refine rF 1 ?_;refine gy<|o1 (vu Gl ?_);exact k [_,_] rfl rfl
 refine xP 1 93 91 2 ?_;refine' DM 1 97 95 2 ?a7 ?_
 case a7=>
  intro i k;refine rF 1 ?_;refine gy<|o1 (vu Gl ?_);exact k [_,_] rfl rfl
 refine od 4 ?_;rfl
end
section
open Go.Mt (E Ty)
theorem Qy{G:Mt.oO}{K:fB->Option E}(c:Mt.pk G){C:Mt.Ctx}:∀{az:List E} {h X:E},Ty G K C (h.apps az) X->(∃ Y,Ty G K C h Y)/\(∀ a∈az,∃Y,Ty G K C a Y)/\(az≠[]->∀A B,h≠ .pi A B)
 |[],h,X,k=>⟨⟨X,k⟩,λa ha=>(by cases ha),λe=>absurd rfl e⟩
 |a::r,h,X,k=>by
  obtain⟨⟨Y,k1⟩,k2,_⟩:=Qy c (az:=r) (h:=.app h a) k;obtain⟨A,B,b,U,_⟩:=k1.rz c;refine⟨⟨_,b⟩,λx hx=>?_,λ_ i j e=>?_⟩
  .rcases bh.1 hx with rfl|hx
   .exact ⟨_,U⟩
   .exact k2 x hx
  .subst e;exact Ty.ZR c k1
def Tw(e:List iI)(I:fB->Option E)(G:Mt.oO)(K:fB->Option E)(t:ie):Prop:= ∃ps c C T,0<=c/\Wt (jY e) ps t c/\Ty G K C (er I t) T
theorem Ql{e:List iI}{I:fB->Option E}{G:Mt.oO}{K:fB->Option E}{c n:Nat}(r:∀{t y:ie} {d b:Nat} {p U:Int},Tw e I G K t->RN e c n t d p (.ok y b U)->d<=c->d<=b/\b<=c/\∀d0 k,d0+(b-d)<=k->∃d2,d0<=d2/\d2<=d0+(b-d)/\RE e k n t y d0 true d2):
 ∀{l i:List ie} {d b:Nat} {p U:Int},(∀ x∈l,Tw e I G K x)->Ch (RN e c n) l d p (.ok i b U)->d<=c->d<=b/\i.length=l.length/\∀d0 k,d0+(b-d)<=k->∃d2,d0<=d2/\d2<=d0+(b-d)/\NB (RE e k n) l i d0 true d2
 |[],i,d,b,p,U,j,h,hd=>by
  cases h;exact⟨ae _,rfl,λd0 k _=>⟨d0,ae _,O,rfl,rfl⟩⟩
 |a::l,i,d,b,p,U,j,h,hd=>by
  rcases h with⟨_,q⟩|⟨y,d2,Y,C,q,F,s⟩
  .cases q
  .cases C with
   |ja=>cases s
   |ok l2 d3 p3=>
    cases s;obtain⟨g1,H,J⟩:=r (j _ bC) q hd;obtain⟨k1,k2,M⟩:=Ql r (λx R=>j x (bB _ R)) F H;refine⟨O,by rw[aj,aj,k2],λd0 k hm=>?_⟩;obtain⟨z,r1,r2,S⟩:=J d0 k O;obtain⟨V,s1,s2,W⟩:=M z k O;exact⟨V,O,O,true,z,S,.inr ⟨rfl,W⟩⟩
theorem aed(hD:zl r I G K)(hF:nS r):∀(n:Nat) {t y:ie} {d j:Nat} {p p':Int},Tw r I G K t->RN r i n t d p (.ok y j p')->d<=i->d<=j/\j<=i/\∀d0 U,d0+(j-d)<=U->∃d2,d0<=d2/\d2<=d0+(j-d)/\RE r U n t y d0 true d2:=by
 intro n
 induction n with
 |zero=>intro t y d j p p' _ h;exact h.elim
 |succ n ih=>
  intro t y d j p p' hw h hd;obtain⟨ps,c,C,T,J,hw,hT⟩:=hw;have hw2:=D7 hF.ok _ h hd J hw;refine⟨hw2.2.1,hw2.2.2.1,?_⟩;have hgd:=(Ze hF.ok _ ⟨ps,c,J,hw⟩ h hd).2.2.1;obtain⟨N,hN⟩:=hgd.rw;rcases h with⟨_,_,h⟩|⟨m,v,d1,so,h1,h2,M⟩
  .cases h
  obtain⟨R,e1,e2,e3⟩:=vB hF.ok J m h1 hd hw;have z:=(WA hD hF J m h1 hd hw).2 C T hT;obtain⟨k,hk,hf⟩:=Wz _ h1;obtain⟨_,hH,hA,_⟩:=Wt.spine _ (ae _) R;have F:=Wt.yy _ (ae _) R;have start:∀d0 U,d0+(j-d)<=U->d1<=j->RW r U m t d0 (.ok v (d0+(d1-d)))/\RW r U N y (d0+(d1-d)) (.ok y (d0+(d1-d))):=λd0 U hm hl=>
   ⟨((WB _ h1).2 d0 U O).1 O,hN _ _ O⟩
  rcases M with⟨M,h4,S⟩|⟨M,h4,S⟩
  .cases so with
   |ja=>cases S
   |ok H d3 p3=>
    cases S;have hes:=GD (I:=I) R;rw[hes] at z;obtain⟨_,t2,t3⟩:=Qy hD.g z;obtain⟨l1,l2,l3⟩:=Ql ih (λx hx=>⟨ps,c,C,_,J,hA x hx,(t2 _ (dX hx)).choose_spec⟩) h4 e2;have V:ig (iF (ig v).1 H)=((ig v).1,H):=rK F H;have hne:(ig v).2≠[]:=λe=>by
     have:=(Wt.spine _ (ae _) R).2.2.2;rw[e] at this;rw[show(ig v).1=v from this] at F;exact F M
    have W:¬ie.kd (ig v).1=4/\¬ie.kd (ig v).1=6:=by
     rcases hf with⟨f1,_⟩|⟨s,us,e,⟨r1,_⟩,_⟩
     .exact ⟨λe=>f1.1 ⟨e,hne⟩,f1.2.1⟩
     .rw [r1];exact⟨show ¬(2:Int)=4 by decide,show ¬(2:Int)=6 by decide⟩
    have hpi:∀A B,er I (ig v).1≠ .pi A B:=t3 (by simpa using hne);generalize hhd:(ig v).1=hh at*
    obtain⟨Y,n1,s,ls,ar⟩:=hh;have har:ar=[]:=by
     rcases hH.2.2 with⟨_,_,_,_,x⟩|⟨_,_,_,_,x⟩|⟨_,_,_,x⟩|⟨x,_,_,_,x2⟩|⟨x,_⟩
     .exact bE.1 x
     .exact bE.1 x
     .exact bE.1 x
     .rcases x with rfl|rfl|rfl
      .exact absurd rfl F
      .exact absurd rfl W.1
      .match ar,x2 with
       |[a,b],_=>exact absurd rfl (hpi (er I a) (er I b))
     .subst x;exact absurd rfl W.2
    subst har;intro d0 U hm;obtain⟨b1,b2⟩:=start d0 U hm l1;obtain⟨d2,c1,c2,c3⟩:=l3 (d0+(d1-d)) U O;refine⟨d2,O,O,m,N,v,_,_,_,b1,b2,.inr (.inr ⟨Y,n1,s,ls,[],[],W.1,hhd,by rw[V],rfl,by rw[V];exact l2.symm,true,_,⟨rfl,rfl⟩,.inr ⟨rfl,?_⟩⟩)⟩;rw[V];exact c3
  .cases so with
   |ja=>cases S
   |ok H d3 p3=>
    have q:=xB M;obtain⟨Y,n1,s,ls,args⟩:=v;cases S;simp only[ie.ars,ie.wa] at h4 hN ⊢;have hky:¬ie.kd (.mk Y n1 s ls H)=3:=M;have hsy:=xB hky;have fin:¬Y=4->(∀ x∈args,Tw r I G K x)->∀d0 U,d0+(j-d)<=U->∃d2,d0<=d2/\d2<=d0+(j-d)/\RE r U (n+1) t (.mk Y n1 s ls H) d0 true d2:=by
     intro h4k hP d0 U hm;obtain⟨l1,l2,l3⟩:=Ql ih hP h4 e2;obtain⟨b1,b2⟩:=start d0 U hm l1;obtain⟨d2,c1,c2,c3⟩:=l3 (d0+(d1-d)) U O;exact⟨d2,O,O,m,N,_,_,.mk Y n1 s ls H,_,b1,b2,.inr (.inr ⟨Y,n1,s,ls,args,H,h4k,by rw[q],by rw[hsy],l2.symm,by rw[q,hsy],true,_,c3,.inr ⟨rfl,by rw[q,hsy];exact⟨rfl,rfl⟩⟩⟩)⟩
    rcases R.2.2 with⟨x1,_,_,_,x⟩|⟨x1,_,_,_,x⟩|⟨x1,_,_,x⟩|⟨x,_,_,_,x2⟩|⟨x,_⟩
    .exact fin (by rw[x1];decide) (by rw[bE.1 x];simp)
    .exact fin (by rw[x1];decide) (by rw[bE.1 x];simp)
    .exact fin (by rw[x1];decide) (by rw[bE.1 x];simp)
    .match args,x2 with
     |[a,b],_=>
      have wa:=R.2.1.1;have wb:=R.2.1.2.1;rcases x with rfl|rfl|rfl
      .exact absurd rfl M
      .obtain ⟨A,B,q1,q2⟩:=z.zI hD.g;rcases h4 with⟨_,h2⟩|⟨a',d4,p4,so,S,h6,h7⟩
       .cases h2
       .cases so with
        |ja=>cases h7
        |ok l2 d5 p5=>
         cases h7;rcases h6 with⟨_,h2⟩|⟨b',d6,p6,so,h6,h7,h8⟩
         .cases h2
         .cases so with
          |ja=>cases h8
          |ok l2 d7 p7=>
           cases h8;cases h7;have wa2:=D7 hF.ok _ S e2 J wa;obtain⟨i1,i2,i3⟩:=ih ⟨ps,_,_,_,by split<;>omega,wb,q1⟩ h6 wa2.2.2.1;intro d0 U hm;obtain⟨b1,b2⟩:=start d0 U hm O;obtain⟨d2,c1,c2,c3⟩:=i3 (d0+(d1-d)) U O;exact⟨d2,O,O,m,N,_,_,.mk 4 n1 s ls [a',b'],_,b1,b2,.inl ⟨_,_,_,_,_,_,_,_,_,_,rfl,rfl,c3⟩⟩
      .obtain ⟨q1,q2,_⟩:=z.tx hD.g;refine fin Z λx hx=>?_
       rcases bh.1 hx with rfl|hx
       .exact ⟨ps,_,C,_,J,wa,q1⟩
       .obtain rfl:x=b:=by simpa using hx
        exact⟨ps,_,_,_,by split<;>omega,wb,q2⟩
    .subst x;rcases hf with⟨f1,_⟩|⟨s2,us,e,⟨r1,_⟩,_⟩
     .rw [q] at f1;exact absurd rfl f1.2.1
     .rw [q] at r1;cases r1
end
end Go.Proofs.YtndbnldjidciiaaGreatDoor
namespace Go.Vd
variable{σ B C F G H Hc I J K M P Pn Q Q' R S T Tx V W Y a c e g g' h i ix j l m n n0 o ob' p q r s sl t v vs w w' wD x y z}
open Go Go.RowKit
theorem Me:∀ix:List Nat,xW ix []=some []
 |[]=>rfl
 |i::ix=>Me ix
theorem jT.frame{f:FuncId}(ht:jT P Y f C r Q)(q)(y:jh x q C q)(hnd:me q=true)(H:nF C=true)(hit:qU q x=true)(hra:qD q r=some m)(hfa:nQ x h m)
 (I:∀s ob',Q (.ret s) ob'->∃F G b J,r6 (names q x.length (ob'.length-q.length)) ob'=some F/\vH q x=some G/\pM q G F=some b/\s.j5 (names q x.length (ob'.length-q.length))=some J/\x.length<=b.length/\nF b=true/\Q' (.ret J) b)
 (M:∀s ob',¬Q (.vk s) ob'):jT P Y f x h Q':=λg w vs hs hd=>by
 have W:=wM (n:=h.length) (ae _) hs hd;have k:=rL hnd;have U:=hs.sub y k (λj i f dn cur hj=>absurd hj (oG H j i f dn cur));have hd2:=qw U.2.1 _ hra (hfa.den hs hd);refine(ht _ w vs U.1 hd2).mono λe w' R=>?_
 obtain⟨g',ob',hs',hst,hle,S,R⟩:=R;cases e with
 |returned v=>
  obtain⟨s,hs1,hq⟩:=R;obtain⟨F,G,b,J,e1,e2,e3,e4,e5,e6,e7⟩:=I s ob' hq;have hr2:jE Y _ ⟨h.length,[],x⟩ g _ w:=⟨W.defers,W.size,λt=>trivial,W.store,W.pG⟩;obtain⟨gn,z,hkeep,V⟩:=hr2.after y k H (rM hit) hs' hst hle S e1 e2 e3 (Me q);exact⟨gn,b,z.store,z.pG,e5,e6,J,V s J v e4 hs1,e7⟩
 |panicked c=>
  obtain⟨v,s,_,_,hq⟩:=R;exact absurd hq (M _ _)
 |outgrown=>exact R.elim
theorem Pk(i:K (.d (.v (.pointer (some ⟨r,c,none⟩)))) [])(j:o.op=.nilCheck x:=by exact rfl)(q:jb h σ.sl x=some (.d (.v (.pointer (some ⟨r,c,none⟩)))):=by exact rfl):ik P h o σ K:=nG λB g a w k=>by
 have e:a.eval x=_:=k.oe q;exact⟨.d (.v (.pointer (some ⟨r,c,none⟩))),a.eval x,λU=>by simp only[execOp,j,e];rfl,e,i⟩
theorem Kn(z:iH P T=s)(C:K (.d (.v (.pointer (some ⟨R,c+i,none⟩)))) [])(F:o.op=.fieldAddr T x S:=by exact rfl)(G:jb q σ.sl x=some (.d (.v (.pointer (some ⟨R,c,none⟩)))):=by exact rfl)(H:nW S s.wD=some ((i,j,y)::r):=by exact rfl)(e:Nat.beq j 0=false:=by exact rfl):ik P q o σ K:=nG λB g a w U=>by
 have k:(iH P T).wD[S]? =some (i,j,y):=by
  have:=sQ H;rw[z];have I:=congrArg List.head? this.1
  simpa using I
 have J:a.eval x=_:=U.oe G;exact⟨.d (.v (.pointer (some ⟨R,c+i,none⟩))),_,λM=>by simp only[execOp,F,J,Sem.run_bind,yI k (by intro h;rw[h] at e;cases e),Result.andThen_ok];rfl,rfl,C⟩
theorem JU{n0:Nat}{n d b c:Nat}{G:List (Nat×SV)}{H:List Ob}{pi k j:Nat}{h:List uD}{l:List SV}{ty:TypeId}(I:jo pi H=some (lp h))(hk:h[k]? =some z)(hj:z.qM[j]? =some (.cells l ty))(hb:z.qT[j]? =some (.loc b))(hl:l[c]? =some (.d (.v v)))(hT:iH P T=C)(J:C.ok=true)(h1:C.size=1)(M:C.agg=false)(hK:K ⟨n,(d,.d (.v v))::G,H⟩)(ho:o.op=.load T x:=by exact rfl)(hd:o.dst=some d:=by exact rfl)(hn:Nat.blt d n=true:=by exact rfl)(hx:jb Y G x=some (.d (.v (.pointer (some ⟨b,c,none⟩)))):=by exact rfl):jI P Y n0 Pn Tx o ⟨n,G,H⟩ K:=λB hB g a w F next Q R hP=>by
 subst hT;have e:a.eval x=.pointer (some ⟨b,c,none⟩):=F.oe hx;have q:=iS I;obtain⟨ppl,r⟩:=F.store.place q;have S:=(CM (F.store.qM _ _ _ q r)).1 z (aO hk);obtain⟨vs,hh,V,hm⟩:=S.qM j _ _ hj hb;have hv:vs[c]? =some v:=by
  obtain⟨y,h2,h3⟩:=V.get hl;rw[h2];exact congrArg some h3
 have U:=tW (P:=P) (T:=T) (Hc:=[(⟨b,c,none⟩,v)]) (xs:=[v]) J (by rw[h1];rfl) (λ_=>rfl) (b:=b) (off:=c) (λi y W=>by
  cases i with
  |zero=>simp at W;subst W;exact bC
  |succ i=>simp at W) w (λp I=>by
   obtain rfl:=bF.1 I;simp only[World.cell?,hh]
   simpa using hv)
 rw[M] at U;unfold Oper.wp;simp only[execOp,ho,e,Sem.run_bind,U,Result.andThen_ok,Sem.run_pure];show next (a.put o.dst v) w
 rw[hd];exact R _ _ _ _ (F.put (s:=.d (.v v)) hn rfl) (z8.refl _ _ _ _) hK
end Go.Vd
namespace Go.Proofs.YtndbnldjidciiaaGreatDoor
variable{B C F G H I J L M P R S V W Y a c e g h i j m n p q r s t w x y z}
open Go Go.Vd Go.RowKit
section
open Go.Mt (E)
theorem Oi{I:fB->Option E}(c:z9 I){e:Sg}{q:List fB}:∀(L:List ie) (n:Nat) (s:Nat->E),(∀ (j:Nat) a,L[j]? =some a->Wt e q a (n+j:Nat))->(∀ i,i<n->s i=.var i)->Mt.Bn s (L.map (er I))=L.map (er I)
 |[],_,_,_,_=>rfl
 |a::L,n,s,h,k=>by
  have ha:=h 0 a rfl;obtain⟨B,b⟩:=ha.Fb;have U:=MJ c a b n s .var (by simpa using ha) k;rw[Mt.tU] at U;show E.sub _ _::Mt.Bn _ _=_::_;rw[U,Oi c L (n+1) (Mt.vG s) (λj x r=>by have:=h (j+1) x (by simpa using r);rwa [show n+(j+1)=n+1+j by omega] at this) λi y=>by
   cases i with
   |zero=>rfl
   |succ i=>show(s i).sh=_;rw[k i O];rfl]
theorem ZZ(h:i<p):Mt.ls (Mt.vars p (List.range p)) i=.var i:=by
 have b:(Mt.vars p (List.range p)).length=p:=by simp[Mt.vars]
 unfold Mt.ls;rw[if_pos (by rw[b];exact h),b,ba,bt,fb O];show E.var _=E.var _
 congr 1;omega
theorem Ot{r:List fB}{c:Int}{p m L:Nat}{i:Int}(x:Wt q r t c)(h:ZG p m i t)(y:i=L):(ig t).2.map (er I)=Mt.vars L (List.range p)++((ig t).2.drop p).map (er I):=by
 obtain⟨v1,b⟩:=h;refine Eq.trans (by rw[<- bf,dp]) (congrArg (· ++_) ?_);refine dY (by simp[Mt.vars];omega) λj z k=>?_
 have U:j<p:=by simpa[Mt.vars] using k
 obtain⟨s,ls,ar,e⟩:=b j ((ig t).2[j]'O) U (aZ _);have hw:=(Wt.spine _ (ae _) x).2.2.1 _ (bS (show j<(ig t).2.length by omega));rw[e] at hw;obtain rfl:ar=[]:=by
  rcases hw.2.2 with g|g|g|g|g
  .exact bE.1 g.2.2.2.2
  .exact absurd g.1 Z
  .exact absurd g.1 Z
  .rcases g.1 with g|g|g<;>exact absurd g Z
  .exact absurd g.1 Z
 simp only[dZ,eb,eP,e];show E.var _=E.var _
 congr 1;omega
theorem aa2(i:I e=none)(w:Wt j r a c)(s:Ox e q a)(x:Lq e p m y a):(vI I e p a).ty e p y=er I a:=by
 unfold vI;split
 .rename_i h;obtain⟨U,ls,ar,k,_⟩:=s h;obtain⟨B,b⟩:=w.Fb;rw[((EL a b).2 _ _ _ k).er i,Ot (L:=y+iv a) (w.yN _ (ae _)).1 (x h) O];show Mt.qx _ (E.apps _ (Mt.vars (y+(List.map _ _).length) _++_))=_;rw[bc,jx _ _ (ae _)]
 .rfl
theorem NN{I:fB->Option E}{nm:fB}(e:I nm=none){i:Sg}{r:List fB}{p m:Nat}{q:Int}:∀(F:List ie) (d:Nat),(∀ (j:Nat) a,F[j]? =some a->(∃ c,Wt i r a c)/\Ox nm q a/\Lq nm p m (d+j) a)->Mt.KR nm p d (F.map (vI I nm p))=F.map (er I)
 |[],_,_=>rfl
 |a::F,d,h=>by
  obtain⟨⟨c,w⟩,k,b⟩:=h 0 a rfl;show _::Mt.KR nm p (d+1) _=_::_;have b:Lq nm p m d a:=b;rw[aa2 e w k b,NN e F (d+1) λj x U=>by rw[show d+1+j=d+(j+1) by omega];exact h (j+1) x (by simpa using U)]
theorem ZX(h:Mt.KR c p p (F.map (vI I c p))=F.map (er I)):LX I p j c e F i=Mt.SB c p j ⟨e,P,F.map (vI I c p),i.map (er I)⟩:=by
 unfold LX Mt.SB Mt.He;simp only[h,aN,Mt.qS,bc,bN,Mt.lk];rfl
theorem QY{I:fB->Option E}{nm:fB}{p:Nat}:∀(cs:List (fB×ie)) (b:Nat),(∀ c∈cs,Mt.KR nm p p (((lQ (iv c.2) c.2).drop p).map (vI I nm p))=((lQ (iv c.2) c.2).drop p).map (er I))->BG I p nm b cs=Mt.SA nm p b (cs.map (z6 I nm p))
 |[],_,_=>rfl
 |c::cs,b,h=>by
  show LX .. ::BG .. =Mt.SB .. ::Mt.SA ..;rw[ZX (P:=((lQ (iv c.2) c.2).take p).map (er I)) (h c bC),QY cs (b+1) λx k=>h x (bB _ k)];rfl
theorem X4{d:mJ}(h:D9 S d V H)(ha:0<=d.ar)(z:z9 I)(J:I d.nm=none)(W:∀c∈d.cs,I c.1=none)(R):er I H=(uK I R d).YT:=by
 rw[h.er I z J W];obtain⟨p,hp⟩:∃p:Nat,d.ar=p:=⟨d.ar.toNat,O⟩;have k:d.ar.toNat=p:=O;have Y:=h.ar;obtain⟨m,x⟩:∃m,iv d.ty=p+m:=⟨iv d.ty-p,O⟩;have U:iv d.ty-p=m:=O;have C:=jx (iv d.ty) d.ty (ae _);obtain⟨y,x2⟩:=Jn m p d.ty O;have b:=jx p d.ty O;have F:(lQ (iv d.ty) d.ty).take p=lQ p d.ty:=by rw[x,y];exact List.take_left' b
 have r:(lQ (iv d.ty) d.ty).drop p=lQ m (jQ p d.ty):=by rw[x,y];exact List.drop_left' b
 have hw:=(h.ty.yN (iv d.ty) (ae _)).2;have e1:Mt.Bn (Mt.ls (Mt.vars 0 [])) ((lQ p d.ty).map (er I))=(lQ p d.ty).map (er I):=Oi z _ 0 _ (λj a e=>by
  have:=hw j a (by rw[x,y];rw[bl (aJ.1 e).1];exact e)
  rwa [show(0:Int)+j=((0+j:Nat):Int) by omega] at this) λi G=>absurd G (cT _)
 have e2:Mt.Bn (Mt.ls (Mt.vars p (List.range p))) ((lQ m (jQ p d.ty)).map (er I))=(lQ m (jQ p d.ty)).map (er I):=Oi z _ p _ (λj a e=>by
  have:=hw (p+j) a (by rw[x,y,bA O,b,show p+j-p=j by omega];exact e)
  rwa [dE] at this) λi G=>ZZ G
 have e3:=QY (I:=I) (nm:=d.nm) (p:=p) d.cs (p+1) λc s=>NN J (m:=m) (q:=d.ar) _ p λj a e=>by
  rw[bX] at e;obtain⟨c1,c2,c3⟩:=h.cs c s;have M:=(h.ct c s).pos;rw[k,U] at M;exact⟨⟨_,(c1.yN _ (ae _)).2 _ a e⟩,c3 (p+j) a O e,M (p+j) a O e⟩
 rw[k,U];have hP:((lQ p d.ty).map (er I)).length=p:=by rw[bc,b]
 have hX:((lQ m (jQ p d.ty)).map (er I)).length=m:=by rw[bc,<-r,bK,C];omega
 have hC:(d.cs.map (z6 I d.nm p)).length=d.cs.length:=bc _;unfold Ur Mt.wi.YT Mt.wi.bs Mt.wi.front Mt.wi.mot Mt.wi.U Mt.wi.n1 uK;simp only[k,F,r,e1,e2,e3,hP,hX,hC,List.range_add,bq,eN]
end
end Go.Proofs.YtndbnldjidciiaaGreatDoor
namespace Go.Mt
variable{A B C G K T c e h i j q}
open E
theorem JP{G:oO}{K:fB->Option E}(c:pk G):∀{T:List E} {C:Ctx} {U:E},Ty G K C (qx T U) .nD->Ty G K (yn T C) U .nD/\∀(q:Nat) A,T[q]? =some A->Ty G K (yn (T.take q) C) A .nD
 |[],C,U,h=>⟨h,λq A e=>by simp at e⟩
 |B::T,C,U,h=>by
  obtain⟨b,k,_⟩:=h.tx c;obtain⟨i,j⟩:=JP c (T:=T) k;refine⟨i,λq A e=>?_⟩;cases q with
  |zero=>cases e;exact b
  |succ q=>exact j q A (by simpa using e)
end Go.Mt
namespace Go.Proofs.YtndbnldjidciiaaGreatDoor
variable{ι ρ σ A B C F G H I J K L M P Pn Q R S T V W X Y a a6 args c cap ds e es first fuel g gl h hi i j j0 k2 l ls' m m' m0 most n n' n0 o ob' p q q2 r rp rs rt s sl t ts u us v vs w x y z}
section
open Go Go.Vd Go.RowKit
open Go.Mt (E oO Cv Ty)
theorem sN(y:∀x∈q,x.d.k≠0)(z:(iw s q).1=0)(h:iw s (q++[e])=(G,r,j))(C:G≠0):r=e/\((e.d.nm=s/\G=e.d.k)\/(G=4/\∃c,e.d.cs[j]? =some c/\c.1=s)\/(G=5/\e.d.k=3/\e.d.nm++CK=s)):=by
 rw[qh y z,iw] at h;split at h
 .rename_i U;cases h;exact⟨rfl,.inl ⟨U,rfl⟩⟩
 .split at h
  .rename_i i F;cases h;exact⟨rfl,.inr (.inl ⟨rfl,vv F⟩)⟩
  .split at h
   .rename_i b;cases h;exact⟨rfl,.inr (.inr ⟨rfl,b.1,b.2⟩)⟩
   .rw [iw] at h;cases h;exact absurd rfl C
theorem Gv(H:nS q)(I:e∈q):(iw e.d.nm q)=(e.d.k,e,0)/\∀(i:Nat) c,e.d.cs[i]? =some c->iw c.1 q=(4,e,i)/\nB c.1 e.d.cs=some i:=by
 have k:=H.nd;have J:=H.ok.k0;obtain⟨l,r,rfl⟩:=List.append_of_mem I;have U:∀x∈l,x.d.k≠0:=λx F=>J x (cQ _ F)
 rw[AB,show lH (e::r)=jV e.d++lH r by simp[lH],dt] at k;have hd:=(dt.1 k.2.1).1;have b:∀y∈jV e.d,iw y (l++e::r)=iw y (e::r):=λy M=>qh U ((ry U).2 λh=>k.2.2 _ h _ (cQ _ M) rfl)
 refine⟨by rw[b _ (by simp[jV]),iw,if_pos rfl],λi c C=>?_⟩;have s:c.1∈e.d.cs.map (·.1):=dX (aO C);unfold jV at hd;obtain⟨d1,d2⟩:=cG.1 hd;have d3:=(dt.1 d2).1;have z:nB c.1 e.d.cs=some i:=AU (λj x W F G=>by
  have R:=(aJ.1 C).1;have S:(e.d.cs.map (·.1))[j]? =some c.1:=by rw[bt,F,<-G];rfl
  have V:(e.d.cs.map (·.1))[i]? =some c.1:=by rw[bt,C];rfl
  have:=(dG (by rw[bc];omega) d3).1 (S.trans V.symm);omega) C rfl
 refine⟨?_,z⟩;rw[b _ (by unfold jV;exact bB _ (cQ _ s)),iw,if_neg (λh:e.d.nm=c.1=>d1 (cQ _ (by rw[h];exact s))),z]
theorem V0(h:∀s n,i s=some n->e s=I s):∀t,oD B t->∀c,Wt i j t c->er e t=er I t:=by
 refine Ff (λn c _=>rfl) (λls c _=>rfl) (λs ls c w=>?_) (λf a _ _ U k c w=>?_) (λa b _ _ U k c w=>?_) (λa b _ _ U k c w=>?_) λa v b _ _ _ U k q c w=>?_
 .have r:i s=some ls.length:=by rcases w.2.2 with g|g|g|g|g<;>first|exact g.2.2.1|exact absurd g.1 Z|(rcases g.1 with g|g|g<;>exact absurd g Z)
  show(e s).getD _=(I s).getD _;rw[h s _ r]
 .show E.app _ _=E.app _ _;rw[U _ w.2.1.1,k _ w.2.1.2.1]
 .show E.lam _=E.lam _;rw[k _ w.2.1.2.1]
 .show E.pi _ _=E.pi _ _;rw[U _ w.2.1.1,k _ w.2.1.2.1]
 .show (er e b).sub _=(er I b).sub _;rw[k _ w.2.1.2.1,q _ w.2.1.2.2.1]
structure TG (es:List iI) (I:fB->Option E):Prop where
 cl:z9 I
 df:∀{s e j},iw s es=(2,e,j)->I s=some (er I e.d.vl)
 nd:∀{s},(iw s es).1≠2->I s=none
theorem rI.QD(h:rI q):∃I,TG q I:=by
 have k:∀{q:List iI} {e:iI} {I},nS q->e.d.k≠2->TG q I->TG (q++[e]) I:=λ{q e I} C R ⟨h1,G,h3⟩=>by
  refine⟨h1,λ{s e' j} H=>?_,λ{s} U=>h3 λh=>U ?_⟩
  .by_cases F:(iw s q).1=0
   .obtain ⟨_,⟨_,h⟩|⟨h,_⟩|⟨h,_⟩⟩:=sN C.ok.k0 F H Z
    .exact absurd h.symm R
    .exact absurd h Z
    .exact absurd h Z
   .exact G ((kJ (m:=[e]) F).symm.trans H)
  .rw [kJ (by rw[h];decide)];exact h
 induction h with
 |nil=>exact⟨λ_=>none,⟨λs e h=>(by cases h),λ{s e j} h=>(by rw[iw] at h;cases h),λ_=>rfl⟩⟩
 | @X5 q d rp rt h _ _ _ R _ S=>
  obtain⟨I,r⟩:=S;exact⟨I,k h.f (by show d.k≠2;omega) r⟩
 | @pln q d h hF' R hP S=>
  obtain⟨I,r⟩:=S;by_cases G:d.k=2
  .have C:=h.f;have y:=(ry C.ok.k0).2 hP.new;have hw:=hP.vl G;obtain⟨B,b⟩:=hw.Fb;have V:∀s n,jY q s=some n->(if s=d.nm then some (er I d.vl) else I s)=I s:=λs n U=>if_neg λ(e:s=d.nm)=>Fh U (by rw[e];exact y)
   have J:∀{t ps c},Wt (jY q) ps t c->er (λs=>if s=d.nm then some (er I d.vl) else I s) t=er I t:=λ{t ps c} w=>by
    obtain⟨B,b⟩:=w.Fb;exact V0 V t b c w
   refine⟨λs=>if s=d.nm then some (er I d.vl) else I s,λs x M σ=>?_,λ{s e' j} H=>?_,λ{s} U=>?_⟩
   .change (if s=d.nm then some (er I d.vl) else I s)=some x at M
    split at M
    .cases M;have:=MJ r.cl d.vl b 0 σ .var hw λi hi=>absurd hi (cT _)
     rw[this];exact Mt.tU _
    .exact r.cl s x M σ
   .by_cases F:(iw s q).1=0
    .obtain ⟨rfl,⟨U,_⟩|⟨h,_⟩|⟨h,_⟩⟩:=sN C.ok.k0 F H Z
     .show (if s=d.nm then some (er I d.vl) else I s)=_;rw[if_pos U.symm,J hw]
     .exact absurd h Z
     .exact absurd h Z
    .have z:=(kJ (m:=[⟨d,[],iu⟩]) F).symm.trans H;show(if s=d.nm then some (er I d.vl) else I s)=_;rw[if_neg (λe:s=d.nm=>F (by rw[e];exact y)),r.df z];have he:=n9 z Z;have W:e'.d.k=2:=by
      rcases nY z Z with h|h|h<;>first|exact h.symm|omega
     rw[J ((C.ok.AZ _ he).vl W).1]
   .show (if s=d.nm then some (er I d.vl) else I s)=_;have Y:s≠d.nm:=λe=>U (by
     subst e;rw[qh C.ok.k0 y,iw,if_pos rfl];exact G)
    rw[if_neg Y];exact r.nd λh=>U (by rw[kJ (by rw[h];decide)];exact h)
  .exact ⟨I,k h.f G r⟩
def Ct(e:List iI)(I:fB->Option E):oO:=λr c=>
 if (iw r e).1=5 then(nB c (iw r e).2.1.d.cs).bind λi=>((iw r e).2.1.d.cs[i]?).map λx=>(ym (iw r e).2.1,iv x.2,Mt.W3 (uK I r (iw r e).2.1.d) i (z6 I (iw r e).2.1.d.nm (iw r e).2.1.d.ar.toNat x) (ym (iw r e).2.1) (iv x.2)) else none
def zW(c:List iI)(I:fB->Option E):fB->Option E:=λs=>(oM s c).map λx=>er I x.2
theorem Ju(h:(iw r e).1≠5)(c):Ct e I r c=none:=if_neg h
theorem E4(h:Ct e I r c=some y):(iw r e).1=5/\y.1=ym (iw r e).2.1/\∃(i:Nat) (x:fB×ie),(iw r e).2.1.d.cs[i]? =some x/\x.1=c:=by
 unfold Ct at h;split at h
 .rename_i U;obtain⟨i,j,h⟩:=ai.1 h;obtain⟨x,b,rfl⟩:=bO.1 h;obtain⟨s,k,q⟩:=vv j;rw[b] at k;cases k;exact⟨U,rfl,i,x,b,q⟩
 .cases h
theorem QC(j:nS e)(I:fB->Option E):Mt.pk (Ct e I):=by
 refine⟨λ{r c x} h d=>Ju ?_ d,λ{r c d n m x n2 U q} b k=>(E4 b).2.1.trans (E4 k).2.1.symm⟩;obtain⟨b,_,i,y,k,rfl⟩:=E4 h;rw[((Gv j (zN (by rw[b];decide))).2 i y k).1];show(4:Int)≠5;decide
theorem PF(I:fB->Option E)(t):∀n,n<=iv t->er I t=Mt.qx ((lQ n t).map (er I)) (er I (jQ n t))
 |0,_=>rfl
 |n+1,h=>by
  obtain⟨m,s,ls,a,b,k,U,c,_⟩:=oX n t O;rw[PF I t n O,k,U,c,bf,Mt.Xp];rfl
theorem uX(c:z9 I)(h:Wt e j t 0)(s:Nat->E):(er I t).sub s=er I t:=by
 obtain⟨B,b⟩:=h.Fb;exact(MJ c t b 0 s .var h λi k=>absurd k (cT _)).trans (Mt.tU _)
theorem aah(Y:nS r)(S:TG r I){d:mJ}(he:⟨d,rp,rt⟩∈r)(hD:zl (es++[Ep ⟨d,[],iu⟩]) I (Ct r I) (zW r I))(hFx:nS (es++[Ep ⟨d,[],iu⟩]))(har:0<=d.ar)(hk:d.k=3)(h:D9 es d rp rt)(hR:iw R r=(5,⟨d,rp,rt⟩,j0)):Mt.RV (Ct r I) (zW r I) (uK I R d):=by
 have hG:=QC Y I;obtain⟨f1,f2⟩:=Gv Y he;have hn:I d.nm=none:=S.nd (by rw[f1];show d.k≠2;omega);have hc0:∀c∈d.cs,I c.1=none:=λc hc=>by
  obtain⟨i,hi⟩:=b7 hc;exact S.nd (by rw[(f2 i c hi).1];show(4:Int)≠2;decide)
 have C:=X4 h har S.cl hn hc0 R;obtain⟨p,hp⟩:∃p:Nat,d.ar=p:=⟨d.ar.toNat,O⟩;have k:d.ar.toNat=p:=O;have hpa:=h.ar;obtain⟨m,hm⟩:∃m,iv d.ty=p+m:=⟨iv d.ty-p,O⟩;have hmp:iv d.ty-p=m:=O;have hxl:=jx (iv d.ty) d.ty (ae _);have y:(uK I R d).P.length=p:=by
  show(List.map _ (List.take _ _)).length=p;rw[bc,bj,hxl,k];omega
 have J:(uK I R d).X.length=m:=by
  show(List.map _ (List.drop _ _)).length=m;rw[bc,bK,hxl,k];omega
 have G:(uK I R d).ty=er I d.ty:=by
  show Mt.qx (List.map _ _++List.map _ _) .nD=_;rw[PF I d.ty _ (ae _),<-bf,dp]
  congr 1
  obtain⟨m',s,l,a,en⟩:=h.en;have hwe:=(h.ty.yN _ (ae _)).1;rw[en] at hwe ⊢;have ha:a=[]:=by
   rcases hwe.2.2 with g|g|g|g|g
   .exact absurd g.1 Z
   .exact bE.1 g.2.2.2.2
   .exact absurd g.1 Z
   .rcases g.1 with g|g|g<;>exact absurd g Z
   .exact absurd g.1 Z
  subst ha;rfl
 have hfc:∀s,(uK I R d).ty.sub s=(uK I R d).ty:=λs=>by rw[G];exact uX S.cl h.ty s
 have hKI:zW r I d.nm=some (uK I R d).ty:=by
  unfold zW;rw[xx f1 (show ¬d.k=0 by omega) (show ¬d.k=4 by omega) (show ¬d.k=5 by omega),G];rfl
 refine⟨hKI,hfc,?_,λs=>?_,λc hc=>?_,λn d' k' m' x' g=>?_⟩
 .show zW r I R=_;unfold zW;rw[NO hR rfl,<-C];rfl
 .rw [<- C];exact uX S.cl h.rtw.1 s
 .obtain ⟨x,hx,rfl⟩:=bD.1 hc;obtain⟨i,hi⟩:=b7 hx;obtain⟨V,c2,c3⟩:=h.cs x hx;have H:=h.ct x hx;rw[k,hmp] at H;obtain⟨B,b⟩:=V.Fb;obtain⟨n',ls',ar',hh⟩:=H.hd;have hE:=((EL x.2 b).2 _ _ _ hh);have hcl:=jx (iv x.2) x.2 (ae _);have hpc:p<=iv x.2:=O;have ht:=NN (I:=I) hn (p:=p) (m:=m) (q:=d.ar) ((lQ (iv x.2) x.2).drop p) p λj a e=>by
   rw[bX] at e;exact⟨⟨_,(V.yN _ (ae _)).2 _ a e⟩,c3 (p+j) a O e,H.pos (p+j) a O e⟩
  have e1:(z6 I d.nm d.ar.toNat x).ty (uK I R d).I (uK I R d).P.length=er I x.2:=by
   show(z6 I d.nm d.ar.toNat x).ty d.nm _=_;rw[y,k,hE.er hn,Ot (L:=iv x.2) (V.yN _ (ae _)).1 H.res rfl];unfold Mt.Ns.ty z6;simp only[ht];rw[<- bf,dp,bc,bK,hcl,show p+(iv x.2-p)=iv x.2 by omega]
  have hxp:∀{t:ie},p<=iv t->(lQ (iv t) t).take p=lQ p t:=λ{t} hpt=>by
   have:=(Jn (iv t-p) p t O).1;rw[show p+(iv t-p)=iv t by omega] at this;rw[this];exact List.take_left' (jx p t hpt)
  refine⟨?_,λs=>?_,?_,?_,λn d' k' m' x' g=>?_,λj A B hA hB=>?_,λj Xs js W=>?_⟩
  .rw [e1];show zW r I x.1=_;unfold zW;rw[NP (f2 i x hi).1 rfl hi];rfl
  .rw [e1];exact uX S.cl V s
  .rw [y];show(List.map _ (List.take _ _)).length=p;rw[bc,bj,hcl,k];omega
  .rw [J];show(List.map _ (List.drop _ _)).length=m;rw[bc,bK,H.res.1,k];omega
  .rw [Ju (by rw[show iw (z6 I d.nm d.ar.toNat x).c r=_ from(f2 i x hi).1];show(4:Int)≠5;decide)] at g;cases g
  .have hA:((lQ (iv d.ty) d.ty).take d.ar.toNat |>.map (er I))[j]? =some A:=hA;have hB:((lQ (iv x.2) x.2).take d.ar.toNat |>.map (er I))[j]? =some B:=hB;rw[k,hxp O,bt] at hA;rw[k,hxp hpc,bt] at hB;obtain⟨A0,hA0,rfl⟩:=bO.1 hA;obtain⟨B0,hB0,rfl⟩:=bO.1 hB;have hj:=(aJ.1 hA0).1;rw[jx _ _ O] at hj;exact H.cv j A0 B0 hj hA0 hB0 hFx I _ _ hD
  .have W:(((lQ (iv x.2) x.2).drop d.ar.toNat).map (vI I d.nm d.ar.toNat))[j]? =some (.rc Xs js):=W;rw[k,bt,bX] at W;obtain⟨a,ha,z⟩:=bO.1 W;unfold vI at z;split at z
   .rename_i hin;cases z;have hv:=H.pos (p+j) a O ha hin;obtain⟨m',ls,ar,hh2,_⟩:=c3 (p+j) a O ha hin;obtain⟨B2,b2⟩:=((V.yN _ (ae _)).2 _ a ha).Fb;have hea:=((EL a b2).2 _ _ _ hh2).er hn;rw[Ot (L:=p+j+iv a) (((V.yN _ (ae _)).2 _ a ha).yN _ (ae _)).1 hv O] at hea;have hty:Ty (Ct r I) (zW r I) Mt.nul (er I x.2) .nD:=H.sr hFx I _ _ hD;rw[PF I x.2 _ (ae _)] at hty;obtain⟨_,q2⟩:=Mt.JP hG hty;have q3:=q2 (p+j) (er I a) (by rw[bt,ha];rfl);rw[hea] at q3;obtain⟨q4,_⟩:=Mt.JP hG q3;have hjl:(((ig (jQ (iv a) a)).2.drop p).map (er I)).length=m:=by rw[bc,bK,hv.1];omega
    have M:(Mt.vars (p+j+iv a) (List.range p)).length=p:=by simp[Mt.vars]
    have q5:=(Mt.Ty.Ca hG (T:=(uK I R d).P++(uK I R d).X) (l:=[]) (U:=.nD) q4 (λF W=>by
     obtain⟨A,k1,k2,k3⟩:=W.Kx hG;rw[hKI] at k1;cases k1;have h9:=hfc (Mt.ls []);unfold Mt.wi.ty at h9 k3;rw[h9];exact k3) (by rw[aN,aN,M,hjl,y,J])).1
    rw[y,J];refine⟨hjl,λq a' A' e3 e4=>?_⟩;have q6:=q5 (p+q) a' A' (by rw[bA O,M,show p+q-p=q by omega];exact e3) (by rw[bA O,y,show p+q-p=q by omega];exact e4);rw[cf,di,aS (l:=Mt.vars (p+j+iv a) (List.range p)) O,M,show p+q-p=q by omega] at q6;have hctx:((lQ (iv x.2) x.2).map (er I)).take (p+j)=(z6 I d.nm d.ar.toNat x).P++(Mt.KR d.nm p p (z6 I d.nm d.ar.toNat x).F).take j:=by
     unfold z6;simp only[k,ht];rw[<- cu,<-cu,<-bf]
     congr 1
     rw[List.take_add]
    rw[hctx] at q6;rw[bc,jx _ _ (ae _)];exact q6
   .cases z
 .rw [Ju (by rw[show(uK I R d).I=d.nm from rfl,f1];show d.k≠5;omega)] at g;cases g
def TH(e c:List iI):Prop:= ∀s,(iw s e).1≠0->oM s e=oM s c/\((iw s e).1=2\/(iw s e).1=5->iw s e=iw s c)/\((iw s e).1≠2->(iw s c).1≠2)
theorem EY(h:iw s e=iw s c):oM s e=oM s c:=by unfold oM;rw[h]
theorem TH.app(c m):TH c (c++m):=λs h=>by
 have e:=(kJ (m:=m) h).symm;exact⟨EY e,λ_=>e,λb=>by rw[<- e];exact b⟩
theorem Xm(r:∀x∈i,x.d.k≠0)(J:M.k=3):TH (i++[Ep ⟨M,[],iu⟩]) (i++⟨M,z,C⟩::m):=λs h=>by
 by_cases U:(iw s i).1=0
 .obtain ⟨k,F,j,q⟩:∃k F j,iw s (i++[Ep ⟨M,[],iu⟩])=(k,F,j):=⟨_,_,_,rfl⟩;rw[q] at h;obtain⟨rfl,⟨rfl,b⟩|⟨_,c,G,_⟩|⟨_,H,_⟩⟩:=sN r U q h
  .have b:k=1:=b;subst b;have U:(iw M.nm i).1=0:=U;have y:iw M.nm (i++⟨M,z,C⟩::m)=(M.k,⟨M,z,C⟩,0):=by
    rw[qh r U,iw,if_pos rfl]
   show oM M.nm _=oM M.nm _/\_;have q:iw M.nm (i++[Ep ⟨M,[],iu⟩])=_:=q;rw[show((Ep ⟨M,[],iu⟩).d.nm)=M.nm from rfl,q,y,xx q Z Z Z,xx y O O O];exact⟨rfl,λg=>by rcases g with g|g<;>exact absurd (show(1:Int)=_ from g) Z,λ_=>by show M.k≠2;omega⟩
  .cases G
  .exact absurd (show(1:Int)=3 from H) Z
 .have e:=(kJ (m:=[Ep ⟨M,[],iu⟩]) U).trans (kJ (m:=⟨M,z,C⟩::m) U).symm;exact⟨EY e,λ_=>e,λI=>by rw[<- e];exact I⟩
theorem zl.of(r:nS q)(z:TG q I)(F:TH y q)(H:∀{s e j},iw s y=(5,e,j)->Mt.RV (Ct q I) (zW q I) (uK I s e.d))(J:∀{s e j},iw s y=(2,e,j)->∀C,Ty (Ct q I) (zW q I) C (er I e.d.vl) (er I e.d.ty)):zl y I (Ct q I) (zW q I):=by
 have f2:∀{s e j},iw s y=(2,e,j)->iw s q=(2,e,j):=λ{s e j} h=>((F s (by rw[h];show(2:Int)≠0;decide)).2.1 (.inl (by rw[h]))).symm.trans h
 have f5:∀{s e j},iw s y=(5,e,j)->iw s q=(5,e,j):=λ{s e j} h=>((F s (by rw[h];show(5:Int)≠0;decide)).2.1 (.inr (by rw[h]))).symm.trans h
 refine⟨z.cl,λh=>z.df (f2 h),λU G=>z.nd ((F _ U).2.2 G),QC r I,λ{s e j i c} h M=>?_,H,λ{s x} h us C=>?_⟩
 .have h:=f5 h;have S:=n9 h Z;unfold Ct;rw[h,if_pos rfl];show(nB c.1 e.d.cs).bind _=_;rw[((Gv r S).2 i c M).2];show(e.d.cs[i]?).map _=_;rw[M];rfl
 .rcases b:iw s y with⟨k,e,j⟩;have U:k≠0:=λU=>by rw[NR b U] at h;cases h
  by_cases G:k=2
  .subst G;rw[xx b Z Z Z] at h;cases h;show Ty _ _ C ((I s).getD (.pz s)) _;rw[z.df (f2 b)];exact J b C
  .have R:=F s (by rw[b];exact U);show Ty _ _ C ((I s).getD (.pz s)) _;rw[z.nd (R.2.2 (by rw[b];exact G))];rw[R.1] at h;exact .pz (show zW q I s=_ by unfold zW;rw[h];rfl) (uX z.cl (KT r.ok h).1)
theorem rI.dn(r:nS c)(z:TG c I)(h:rI q):∀m,c=q++m->zl q I (Ct c I) (zW c I):=by
 induction h with
 |nil=>exact λm e=>zl.of r z (λs h=>absurd rfl h) (λh=>by cases h) (λh=>by cases h)
 | @X5 q d rp rt G V J M H F R=>
  intro m e;have e':c=q++⟨d,rp,rt⟩::m:=by rw[e,bq];rfl
  have x:=R _ e';have U:=G.f.ok.k0;have S:zl (q++[Ep ⟨d,[],iu⟩]) I (Ct c I) (zW c I):=zl.of r z (e'▸Xm U H) (λ{s y j} k=>by
   by_cases i:(iw s q).1=0
   .obtain ⟨_,⟨_,b⟩|⟨b,_⟩|⟨_,b,_⟩⟩:=sN U i k Z
    .exact absurd (show(5:Int)=1 from b) Z
    .exact absurd b Z
    .exact absurd (show(1:Int)=3 from b) Z
   .exact x.X5 ((kJ i).symm.trans k)) λ{s y j} k=>by
   by_cases i:(iw s q).1=0
   .obtain ⟨_,⟨_,b⟩|⟨b,_⟩|⟨b,_⟩⟩:=sN U i k Z
    .exact absurd (show(2:Int)=1 from b) Z
    .exact absurd b Z
    .exact absurd b Z
   .intro C;have k:=(kJ i).symm.trans k;have:=x.ty (xx k Z Z Z) [] C
    rwa [show er I (.mk 2 0 s [] [])=er I y.d.vl by show(I s).getD _=_;rw[x.df k];rfl] at this
  refine zl.of r z (e▸TH.app _ _) (λ{s y j} k=>?_) λ{s y j} k=>?_
  .by_cases i:(iw s q).1=0
   .obtain ⟨rfl,_⟩:=sN U i k Z;exact aah r z (by rw[e'];simp) S J M H F ((e▸kJ (by rw[k];show(5:Int)≠0;decide):iw s c=_).trans k)
   .exact x.X5 ((kJ i).symm.trans k)
  .by_cases i:(iw s q).1=0
   .obtain ⟨_,⟨_,b⟩|⟨b,_⟩|⟨b,_⟩⟩:=sN U i k Z
    .exact absurd (show 2=d.k from b) O
    .exact absurd b Z
    .exact absurd b Z
   .intro C;have k:=(kJ i).symm.trans k;have:=x.ty (xx k Z Z Z) [] C
    rwa [show er I (.mk 2 0 s [] [])=er I y.d.vl by show(I s).getD _=_;rw[x.df k];rfl] at this
 | @pln q d G V H F R=>
  intro m e;have e':c=q++⟨d,[],iu⟩::m:=by rw[e,bq];rfl
  have x:=R _ e';have U:=G.f.ok.k0;refine zl.of r z (e▸TH.app _ _) (λ{s y j} k=>?_) λ{s y j} k=>?_
  .by_cases i:(iw s q).1=0
   .obtain ⟨_,⟨_,b⟩|⟨b,_⟩|⟨_,b,_⟩⟩:=sN U i k Z
    .have:=((V.ok.AZ _ (fg _ bC)).k);have b:5=d.k:=b;have:d.k=1\/d.k=2\/d.k=3:=this;omega
    .exact absurd b Z
    .exact absurd b H
   .exact x.X5 ((kJ i).symm.trans k)
  .intro C;by_cases i:(iw s q).1=0
   .obtain ⟨rfl,⟨_,b⟩|⟨b,_⟩|⟨b,_⟩⟩:=sN U i k Z
    .have b:2=d.k:=b;have W:=F.tv b.symm G.f I _ _ x;have:=Mt.Ty.sub (D:=C) (s:=.var) W λn A h=>by cases h
     rwa [uX z.cl (F.vl b.symm),uX z.cl F.ty] at this
    .exact absurd b Z
    .exact absurd b Z
   .have k:=(kJ i).symm.trans k;have:=x.ty (xx k Z Z Z) [] C
    rwa [show er I (.mk 2 0 s [] [])=er I y.d.vl by show(I s).getD _=_;rw[x.df k];rfl] at this
theorem rI.ag3(h:rI c):∃I G K,zl c I G K:=by
 obtain⟨I,b⟩:=h.QD;exact⟨I,_,_,h.dn h.f b [] (bR _).symm⟩
end
section
open Go Go.Vd Go.RowKit
attribute [local irreducible] iK iL jI ik iW jH
def InW(c:List uD)(h:List Cd)(i:List iI)(w:Bool)(j q:Nat):Prop:=(∃ (k:Nat) (qT:List Pl),c[k]? =some ⟨rS i w,qT⟩/\qT[0]? =some (.loc j)/\qT[3]? =some (.loc q))/\∀e∈h,vC c e.b1 e.b2
def WQ(h:List iI)(Q:D->Bool->Prop)(c:Out)(e:List Ob):Prop:= ∃d b,c=.ret (.d d)/\e=rS h b/\Q d b
theorem si{n0:Nat}{c:List iI}{w:Bool}{R S:Nat}{i:List uD}{q:List Cd}{n t:Nat}{V:List (Nat×SV)}{H:List Ob}{f:FuncId}{l:List D}{r:List SV}{x:List uD->List Ob}(hc:iA P f=true)(ho:o.op=.call { callee:=.value (.func f),args:=args,argTypes:=ts })
 (ha:GC M V args.toList=some r) (z:o.dst=some t) (W:Nat.blt t n=true) {pi:Nat} (hp:jo pi H=some (lp i)) (Y:nF H=true) (hI:InW i q c w R S) (hF:rI c) (ht:jT P M f (rS c w) (s::l.map .d) (WQ c Q))
 (hfa:∀(m:Mem) (gs:List Pl) (I:List Value),iN ⟨m,gs⟩ r I->∀qT:List Pl,qT[0]? =some (.loc R)->qT[3]? =some (.loc S)->iN ⟨m,qT⟩ (s::l.map .d) I) (C:∀y,pD pi (lp y) H=some (x y))
 (F:∀d J U,Q d J->InW U q c J R S->K ⟨n,(t,.d d)::V,x U⟩):jI P M n0 Pn (λj=>j=pi) o ⟨n,V,H⟩ K:=by
 obtain⟨⟨k,qT,hk,h1,h2⟩,hg⟩:=hI;refine US hc ho ha z W hp hk Y ht (λm gs I h=>hfa m gs I h qT h1 h2) (λy=>C _) (λs ob' ⟨d,_,h,_⟩=>⟨d,by cases h;rfl⟩) (λs ob' ⟨_,_,h,_⟩=>by cases h) λd ob' G hq b=>?_
 obtain⟨d',J,e,rfl,hq⟩:=hq;cases e;refine F _ J _ hq ⟨⟨k,G,?_,b 0 _ (show 0<5 by decide) h1,b 3 _ (show 3<5 by decide) h2⟩,λe he=>VC hk hF b (hg e he)⟩;rw[bz (aJ.1 hk).1]
theorem Xu{d:Nat}{pi:Nat}(H:iH P T=e)(I:InW c h F w G y)(J:jo pi j=some (lp c))(q:e.ok=true)(M:e.size=1)(r:e.agg=false)(R:K ⟨n,(d,fH w)::i,j⟩)(S:o.op=.load T x:=by exact rfl)(V:o.dst=some d:=by exact rfl)(W:Nat.blt d n=true:=by exact rfl)(Y:jb s i x=some (.d (.v (.pointer (some ⟨y,0+1,none⟩)))):=by exact rfl):jI P s z C (λ_=>False) o ⟨n,i,j⟩ K:=by
 obtain⟨⟨k,qT,hk,_,h2⟩,_⟩:=I;exact JU J hk rfl h2 rfl H q M r R S V W Y
theorem vy(q:Am e=some (CL z::l))(s:c[C]? =some (.loc z))(h:iN ⟨m,i⟩ e j):iN ⟨m,c⟩ (.jk C 0::l.map .d) j:=by
 obtain⟨v,r,U,x,y⟩:=iN.p9 (g:=⟨m,i⟩) _ h q;exact⟨v,r,U,⟨z,s,x⟩,iN.ofd (g:=⟨m,c⟩) y⟩
theorem I6(y:c[0]? =some (.loc i))(z:c[3]? =some (.loc j))(h:iN ⟨m,e⟩ [Ib x (.d (CL i)) (.d (CL j)),fI s] q):iN ⟨m,c⟩ (Ib x (.jk 0 0) (.jk 3 0)::[D.v (.string s)].map .d) q:=by
 obtain⟨v,r,b,k,U⟩:=h;obtain⟨G,H,C,F,_⟩:=So y z m e [v] ⟨v,[],rfl,k,rfl⟩;cases C;exact⟨v,r,b,F,iN.ofd (g:=⟨m,c⟩) (iN.p9 (g:=⟨m,e⟩) _ U rfl)⟩
theorem Ou{ρ:List Nat}:∀l:List D,qD ρ (l.map SV.d)=some (l.map SV.d)
 |[]=>rfl
 |x::l=>by show(some (SV.d x)).bind _=_;simp only[cw,Ou l];rfl
theorem aap{c:List iI}{w:Bool}{args:List D}(h:jT P i j (B6 c) (.jk 0 0::args.map .d) (λout ob'=>out=.ret (.d e)/\ob'=B6 c)):jT P i j (rS c w) (.jk 0 0::args.map .d) (WQ c λd k=>d=e/\k=w):=by
 refine h.frame [0,1,2] (m:=.jk 0 0::args.map .d) (.cons rfl (.cells rfl (nQ.rfl _)) (.cons rfl .row (.cons rfl .jK .nil))) rfl rfl rfl ?_ (nQ.rfl _) (λs ob' b=>?_) (λs ob' b=>by cases b.1)
 .show (some (SV.jk 0 0)).bind _=_;simp only[cw,Ou]
 .obtain ⟨U,rfl⟩:=b;cases U;exact⟨_,_,_,_,rfl,rfl,rfl,rfl,ae _,rfl,e,w,rfl,rfl,rfl,rfl⟩
theorem afm{c:List iI}{w:Bool}{args:List D}(h:jT P e r [iD c w,iC] (.jk 0 0::args.map .d) Q)(j:∀out ob',Q out ob'->∃d b,out=.ret (.d d)/\ob'=[iD c b,iC]/\i d b):jT P e r (rS c w) (.jk 3 0::args.map .d) (WQ c i):=by
 refine h.frame [3,4] (m:=.jk 3 0::args.map .d) (.cons rfl (.cells rfl (nQ.rfl _)) (.cons rfl .row .nil)) rfl rfl rfl ?_ (nQ.rfl _) (λs ob' k=>?_) (λs ob' k=>?_)
 .show (some (SV.jk 3 0)).bind _=_;simp only[cw,Ou]
 .obtain ⟨d,b,U,rfl,q⟩:=j _ _ k;cases U;exact⟨_,_,_,_,rfl,rfl,rfl,rfl,ae _,rfl,d,b,rfl,rfl,q⟩
 .obtain ⟨_,_,U,_⟩:=j _ _ k;cases U
theorem Kq(e:xb P T=true)(h:o.op=.binOp .eql T x (.const .nilIface) q)(i:jb c σ.sl x=some (.d (aak r)))(j:K (fH (!r)) []):ik P c o σ K:=by
 cases r
 .exact DY e h i j
 .exact IK e h i j
theorem RN.rw{d:Nat}(h:RN es most n t d p o):∃m b,RW es most m t d b:=by
 cases n with
 |zero=>exact h.elim
 |succ n=>rcases h with⟨m,h,_⟩|⟨m,u,d1,_,h,_⟩<;>exact⟨m,_,h⟩
def frT(u:ie)(c:Nat)(e:Bool):D:=.jj [u.d,.v (.int .i64 c),aak e]
theorem pgW(i:rI c)(j:most<=1000000)(q:RW c most n t 0 o)(y:t.size+30000*most<=1000000000)(r:Wt (jY c) e t 0):∃(u:ie) (d:Nat) (b:Bool),jT fC gl 17 (rS c w) (.jk 0 0::[t.d,fD most].map .d) (WQ c λx U=>x=frT u d b/\U=w)/\((b=false/\o=.ok u d)\/(b=true/\o=.ja)):=by
 obtain⟨k,m,s,ls,args,rfl⟩:=ie.case t
 have h:=aap (w:=w) (args:=[(ie.mk k m s ls args).d,fD most]) (PM (gl:=gl) i.f j k m s ls args o q O r);cases o with
 |ok u d=>exact⟨u,d,false,h,.inl ⟨rfl,rfl⟩⟩
 |ja=>exact⟨iu,0,true,h,.inr ⟨rfl,rfl⟩⟩
theorem pgN(i:rI c)(j:most<=1000000)(q:RN c most n t 0 0 o)(r:t.size+30000*most<=1000000000)(y:Wt (jY c) e t 0):∃(u:ie) (d:Nat) (b:Bool),jT fC gl 19 (rS c w) (.jk 0 0::[t.d,fD most].map .d) (WQ c λx U=>x=frT u d b/\U=w)/\((b=false/\∃p,o=.ok u d p)\/(b=true/\o=.ja)):=by
 obtain⟨k,m,s,ls,args,rfl⟩:=ie.case t
 have h:=aap (w:=w) (args:=[(ie.mk k m s ls args).d,fD most]) (AT (gl:=gl) i.f j k m s ls args o q r y);cases o with
 |ok u d p=>exact⟨u,d,false,h,.inl ⟨rfl,p,rfl⟩⟩
 |ja=>exact⟨iu,0,true,h,.inr ⟨rfl,rfl⟩⟩
theorem pgE(q:rI c)(r:RE c 6000 n t u 0 true G)(F:t.size<=100000000)(y:u.size<=100000000)(z:Wt (jY c) i t 0)(e:Wt (jY c) i u 0):jT fC gl 20 (rS c w) (.jk 0 0::[t.d,u.d,fD 6000].map .d) (WQ c λx C=>x=.jj [fF true,aak false]/\C=w):=by
 obtain⟨k,m,s,ls,args,rfl⟩:=ie.case t
 obtain⟨k2,j,s2,U,b,rfl⟩:=ie.case u
 have h:=y8 (gl:=gl) q.f Z k m s ls args k2 j s2 U b true G r O O z e;rw[Bool.or_true] at h;exact aap (args:=[(ie.mk k m s ls args).d,(ie.mk k2 j s2 U b).d,fD 6000]) h
theorem rfN{ps:List fB}(i:rI e)(z:t.size<=80001)(j:Wt (jY e) ps t 0):jT fC gl 16 (rS e false) (.jk 3 0::[t.d,fD 3000].map .d) (WQ e λx b=>b=false->∃n o,RN e 3000 n t 0 0 o):=by
 obtain⟨k,m,s,ls,args,rfl⟩:=ie.case t
 refine afm (args:=[(ie.mk k m s ls args).d,fD 3000]) (Lr (gl:=gl) i.f.ok (ps:=ps) (c:=0) (most:=3000) (aP _) Z false k m s ls args O j) λout ob' h=>?_
 obtain⟨u,C,code,b,U,q,r⟩:=h;exact⟨_,b,U,q,λh=>by obtain⟨n,o,y,_⟩:=r h;exact⟨n,o,y⟩⟩
def RgQ(e:List iI)(h:List fB)(j:D)(i:Bool):Prop:= ∃(ok:Bool) (t u:ie) (c:Int),j=Fo ok t u c/\(ok=true->i=false/\Wt (jY e) h t 0/\t.size<=80001/\xu e [] t u)
theorem rgW(j:rI e)(w x)(i:x.u.size<=1099511627776)(s):jT fC (xt g) 15 (rS e w) (Ib x (.jk 0 0) (.jk 3 0)::[D.v (.string s)].map .d) (WQ e (RgQ e (Ha x.u))):=
 (Oo (g:=g) j.f w x i s).mono λout ob' h=>by
  obtain⟨ok,y,mt,st,lt,b,z,C,F,G,H,c,k,U,q,r⟩:=h;exact⟨_,k,U,q,ok,_,_,c,rfl,r⟩
def rgO(j:Bool)(z m:Int)(s:fB)(q:List iq)(h:List ie)(r x:Int)(y:fB)(i:List iq)(e:List ie)(c:Int):Ob:=.cells [.d (.v (.bool j)),.d (.v (.int .i64 z)),.d (.v (.int .i64 m)),.d (.v (.string s)),.d (.sl 3 (iR q)),.d (.sl 5 (im h)),.d (.v (.int .i64 r)),.d (.v (.int .i64 x)),.d (.v (.string y)),.d (.sl 3 (iR i)),.d (.sl 5 (im e)),.d (.v (.int .i64 c))] 41
set_option maxHeartbeats 4000000 in
theorem Li(hgl:(xt g) 1=AR)(l)(hl:l.length<=1048576)(hs:∀x∈l,x.u.size<=1048576/\i64 x.a):jA fC (xt g) 7 [.sl 6 (steps l)] (· =fF true):=by
 refine oN Tryz.func7 165 ?_;refine ny 8 P5 ?_;refine vw 3 ?_;refine ny 4 (Lm hgl) ?_;refine uo 6 (Ls (g:=g) l hl) [] ?_;rintro s ob' ⟨its0,k,⟨⟩,rfl,hel,H⟩;have hpl9:=H8 k;refine uv ?_;refine pt 10 (ι:=Nat×List uD) (λ⟨i,th⟩=>[(5,int i)]) (λ⟨i,th⟩=>[lp th]) [4,3] (λ⟨i,th⟩=>i<=k.length/\∀e∈k,vC th e.b1 e.b2) (λ⟨i,th⟩=>k.length-i) ((0,its0)) ([0]) ⟨ak _,λe he=>(H e he).1⟩ ?_;rintro⟨i,th⟩ M
 try dsimp only at M
 refine xP 8 32 31 1 ?_;refine j7 2 ?_ ?_<;>intro h6
 .refine od 12 ?_;rfl
 have hi:i<k.length:=(by first|omega|(simp at h6;omega));obtain⟨kk,qT,es,w,hk,j,hb1,hb2⟩:=M.2 _ (bS hi);have hxs:=hs _ (H _ (bS hi)).2;have U:InW th k es w k[i].b1 k[i].b2:=⟨⟨kk,qT,hk,hb1,hb2⟩,M.2⟩;have hrg:=rgW (g:=g) j w k[i].x (by have:=hxs.1;omega) k[i].x.s;refine rF 5 ?_;refine xo (ι:=List uD×Bool×Bool×Int×Int×fB×List iq×List ie×Int×Int×fB×List iq×List ie×Int) (λ⟨b,r,ok,J,mt,st,lt,c,V,W,Y,lu,au,cz⟩=>[(6,.jk 1 0)]) (λ⟨b,r,ok,J,mt,st,lt,c,V,W,Y,lu,au,cz⟩=>[lp b,rgO ok J mt st lt c V W Y lu au cz]) [5,4,3] (λ⟨b,r,ok,J,mt,st,lt,c,V,W,Y,lu,au,cz⟩=>InW b k es r k[i].b1 k[i].b2/\(ok=true->r=false/\Wt (jY es) (Ha k[i].x.u) (.mk J mt st lt c) 0/\(ie.mk J mt st lt c).size<=80001/\xu es [] (.mk J mt st lt c) (.mk V W Y lu au))) rfl ?_ ?_
 .refine ma 0 [0,1] mixed ?_;refine pQ 2 R4 Ua ?_ (hat:=(Bw hi));refine ga [3,4,5] ?_;refine pQ 6 R4 Ua ?_ (hat:=(Bw hi));refine ga [7,8,9] ?_;refine ki (rs:=[10,11]) gN rfl ⟨?_,?_,trivial⟩
  .skip
   refine A4 10 rfl (si ady rfl rfl rfl rfl (pi:=0) rfl rfl U j hrg (λm gs vs h qT C q=>I6 C q h) (λy=>rfl) ?_);rintro d r b ⟨ok,⟨J,mt,st,lt,c⟩,⟨V,W,Y,lu,au⟩,cz,rfl,R⟩ U;refine A2 11 rfl (AW Zs ?_);refine nO 12 ?_;refine iB<|ml 0 (b,r,ok,J,mt,st,lt,c,V,W,Y,lu,au,cz) [0,1] ?_;exact⟨U,R⟩
  .skip
   refine A4 11 rfl (AW Zs ?_);refine A2 10 rfl (si ady rfl rfl rfl rfl (pi:=0) rfl rfl U j hrg (λm gs vs h qT C q=>I6 C q h) (λy=>rfl) ?_);rintro d r b ⟨ok,⟨J,mt,st,lt,c⟩,⟨V,W,Y,lu,au⟩,cz,rfl,R⟩ U;refine nO 12 ?_;refine iB<|ml 0 (b,r,ok,J,mt,st,lt,c,V,W,Y,lu,au,cz) [0,1] ?_;exact⟨U,R⟩
 .rintro ⟨b,r,ok,J,mt,st,lt,c,V,W,Y,lu,au,cz⟩ z
  try dsimp only at z
  obtain⟨U,R⟩:=z;refine jq 8 ?_ ?_<;>intro h9
  .refine jS 6 ?_;refine ml 2 (i+1,b) [0] ?_;exact⟨⟨O,U.2⟩,show _-(i+1)<_-i by omega⟩
  have hok1:ok=true:=(by first|exact h9|(simp_all));obtain⟨rfl,hW,hz,hTy⟩:=R hok1;have hrn:=rfN (gl:=xt g) j hz hW;refine ni 6 R4 Ua ?_ (hat:=(Bw hi));refine ma 7 [0,1] mixed ?_;refine pQ 2 R4 Ua ?_ (hat:=(Bw hi));refine ga [3,4,5,6,7] ?_;refine A2 8 rfl (si agm rfl rfl rfl rfl (pi:=0) rfl rfl U j hrn (λm gs vs h qT C q=>vy rfl q h) (λy=>rfl) ?_);rintro d r b F U;refine iB<|ni 6 R4 Ua ?_ (hat:=(Bw hi));refine rF 3 ?_;refine o1 (Pk ?_);refine o1 (Kn acf ?_);refine oc (Xu (pi:=0) ti4 U rfl rfl rfl rfl ?_);refine jq 2 ?_ ?_<;>intro h12
  .refine jS 6 ?_;refine ml 2 (i+1,b) [0] ?_;exact⟨⟨O,U.2⟩,show _-(i+1)<_-i by omega⟩
  have hw2:r=false:=(by first|exact h12|(simp_all));subst hw2;obtain⟨n0,o,F⟩:=F rfl;obtain⟨m0,ow,hRW⟩:=F.rw;obtain⟨⟨kw,mw,sw,lw,aw⟩,dw,bw,hsp,how⟩:=pgW (gl:=xt g) (w:=false) j Z hRW O hW;refine rF 7 ?_;refine oc (si ab3 rfl rfl rfl rfl (pi:=0) rfl rfl U j hsp (λm gs vs h qT C q=>vy rfl C h) (λy=>rfl) ?_);rintro d r b ⟨rfl,rfl⟩ U;refine rF 14 ?_;refine o1 (Kq Gl rfl rfl ?_);refine rF 2 ?_;refine xo (ι:=List uD) (λb=>[]) (λb=>[lp b,rgO ok J mt st lt c V W Y lu au cz,tO kw mw sw lw aw]) [8,7,6,5,4,3] (λb=>InW b k es false k[i].b1 k[i].b2) rfl ?_ ?_
  .refine j7 0 ?_ ?_<;>intro h14
   .refine ml 1 (b) [0,1,2] ?_;exact U
   have hb:bw=false:=(by first|exact h14|(simp_all));obtain⟨_,rfl⟩:bw=false/\ow=.ok (.mk kw mw sw lw aw) dw:=(by rcases how with h|h;exact h;exact absurd h.1 (by simp[hb]));obtain⟨kz,hkz,hfz⟩:=Wz _ hRW;obtain⟨m1,hR1⟩:=hfz.rw;obtain⟨hWw,_,hdw,hzw⟩:=vB j.f.ok (aP 0) _ hRW (ak _) hW;obtain⟨u2,d2,b2,hsp2,how2⟩:=pgW (gl:=xt g) (w:=false) j (most:=dw) O (hR1 0 dw O) O hWw;obtain⟨rfl,rfl,rfl⟩:b2=false/\u2=.mk kw mw sw lw aw/\d2=kz:=(by rcases how2 with⟨h,q⟩|⟨_,q⟩<;>cases q;exact⟨h,rfl,bU _⟩);refine rF 5 ?_;refine oc (si ab3 rfl rfl rfl rfl (pi:=0) rfl rfl U j hsp2 (λm gs vs h qT C q=>vy rfl C h) (λy=>rfl) ?_);rintro d r b ⟨rfl,rfl⟩ U;have S:=wo (gl:=xt g) kw mw sw lw aw kw mw sw lw aw O;rw[ie.uP] at S;refine rF 14 ?_;refine o1 (AO Gl ?_);refine rV 1 97 94 3 ?_;refine' Cg 1 103 99 4 ?a3 ?_
   case a3=>
    intro hc hK;refine ny 2 S ?_;refine rF 1 ?_;exact hK [_,_,_,_] rfl rfl
   refine jq 2 ?_ ?_<;>intro h16
   .omega
   refine j7 8 ?_ ?_<;>intro h18
   .refine ml 1 (b) [0,1,2] ?_;exact U
   obtain⟨m2,d9,hR2⟩:∃m2 d9,d9=dw-1/\RW es d9 m2 (.mk J mt st lt c) 0 .ja:=⟨m0,_,rfl,((WB _ hRW).2 0 (dw-1) (ak _)).2 O⟩;obtain⟨⟨k9,m9,s9,l9,a9⟩,d8,b9,hsp9,how9⟩:=pgW (gl:=xt g) (w:=false) j (most:=d9) O hR2.2 O hW;obtain rfl:b9=true:=(by rcases how9 with⟨_,q⟩|⟨h,_⟩;cases q;exact h);refine sH 6 ?_;refine oc (si ab3 rfl rfl rfl rfl (pi:=0) rfl rfl U j hsp9 (λm gs vs h qT C q=>vy (by rw[show((d9:Nat):Int)=dw-1 by omega];rfl) C h) (λy=>rfl) ?_);rintro d r b ⟨rfl,rfl⟩ U;refine rF 13 ?_;refine o1 (Kq Gl rfl rfl ?_);refine vw 2 ?_;refine ml 1 (b) [0,1,2] ?_;exact U
  .rintro b z
   try dsimp only at z
   have U:=z;obtain⟨⟨kv,mv1,sv,lv,av⟩,dv,bv,hsp3,how3⟩:=pgN (gl:=xt g) (w:=false) j Z F O hW;refine rF 5 ?_;refine oc (si ads rfl rfl rfl rfl (pi:=0) rfl rfl U j hsp3 (λm gs vs h qT C q=>vy rfl C h) (λy=>rfl) ?_);rintro d r b ⟨rfl,rfl⟩ U;refine rF 11 ?_;refine o1 (Kq Gl rfl rfl ?_);refine j7 2 ?_ ?_<;>intro h23
   .refine jS 5 ?_;refine ml 2 (i+1,b) [0] ?_;exact⟨⟨O,U.2⟩,show _-(i+1)<_-i by omega⟩
   have hb3:bv=false:=(by first|exact h23|(simp_all));obtain⟨_,pv,rfl⟩:bv=false/\∃p,o=.ok (.mk kv mv1 sv lv av) dv p:=(by rcases how3 with h|h;exact h;exact absurd h.1 (by simp[hb3]));obtain⟨hWv,_,hdv,_,hpv,hzv⟩:=D7 j.f.ok _ F (ak _) (aP _) hW;have hgd:=(Ze j.f.ok _ ⟨_,_,aP _,hW⟩ F (ak _)).2.2.2.2 0 0 0 (ae _) O;obtain⟨u4,d4,b4,hsp4,how4⟩:=pgN (gl:=xt g) (w:=false) j (most:=0) Z hgd O hWv;obtain⟨rfl,rfl,rfl⟩:b4=false/\u4=.mk kv mv1 sv lv av/\d4=0:=(by rcases how4 with⟨h,_,q⟩|⟨_,q⟩<;>cases q;exact⟨h,rfl,rfl⟩);obtain⟨I,G,K,hD⟩:=j.ag3;obtain⟨e5,_,_,hRE⟩:=(aed hD j.f _ ⟨_,_,_,_,aP 0,hW,hTy j.f I G K hD⟩ F (ak _)).2.2 0 6000 O;have hsp5:=pgE (gl:=xt g) (w:=false) j hRE O O hW hWv;refine rF 4 ?_;refine oc (si ads rfl rfl rfl rfl (pi:=0) rfl rfl U j hsp4 (λm gs vs h qT C q=>vy rfl C h) (λy=>rfl) ?_);rintro d r b ⟨rfl,rfl⟩ U;refine rF 16 ?_;refine oc (si adr rfl rfl rfl rfl (pi:=0) rfl rfl U j hsp5 (λm gs vs h qT C q=>vy rfl C h) (λy=>rfl) ?_);rintro d r b ⟨rfl,rfl⟩ U;have S:=wo (gl:=xt g) kv mv1 sv lv av kv mv1 sv lv av O;rw[ie.uP] at S;refine rF 10 ?_;refine o1 (AO Gl ?_);refine rV 1 148 146 2 ?_;refine' Cg 1 154 150 4 ?a5 ?_
   case a5=>
    intro hc hK;refine ny 2 S ?_;refine rF 1 ?_;exact hK [_,_,_,_] rfl rfl
   refine' Cg 1 158 156 2 ?a6 ?_
   case a6=>
    intro hc hK;refine rF 1 ?_;refine gy<|o1 (AO Gl ?_);exact hK [_,_] rfl rfl
   refine rV 1 162 160 2 ?_;refine jq 2 ?_ ?_<;>intro h26
   .contradiction
   refine jS 5 ?_;refine ml 2 (i+1,b) [0] ?_;exact⟨⟨O,U.2⟩,show _-(i+1)<_-i by omega⟩
end
section
open Go Go.Vd Go.RowKit Go.ChangeShapes Go.WideShapes Go.ChangeAt
theorem reads(c)(enc:TypeId×Value->H):∃b,DataW.whole enc fC ((World.doorLaid fC 400 c).forCall (λ_ _=>0) ⟨#[],#[.slice none 0 0],[]⟩).memory Tryz.f7.params.toList Rows.reduceRestsSpec.vars false #[Value.slice none 0 0].toList 8=some ([.nil],[],b):=
 ⟨[],gN⟩
set_option maxRecDepth 100000 in
theorem JJ(I)(i:I.Started)(H:Type)(c:TypeId×Value->H)(F:Stop.Interp):
 ReturnsInHanded {} Tryz.checked I 7 .any ((Rows.OpenSpec.upto Rows.reduceRestsSpec).preRow c fC Tryz.f7 Rows.reduceRestsUptoRow.domain false Rows.reduceRestsUptoRow.laid) (((Rows.OpenSpec.upto Rows.reduceRestsSpec).at F).post c fC Tryz.f7 false true false false):=by
 obtain⟨R,S⟩:=reads I c;refine returnsInHanded_of_row (C:=Tryz.checked) (s:=Rows.OpenSpec.upto Rows.reduceRestsSpec) own i gN Tryz.func7
  (witness_row_atRef (enc:=c) (C:=Tryz.checked) false (World.doorLaid fC 400 I) #[.slice none 0 0] rfl gN gN gN
   (OpenSpec.preRow_of_cond 8 S gN (λk hk=>by cases hk;kernel_rfl) gN (Vj I))) ?_
 intro W base args ds gs V z hW _ G _ hL _ _;have r:∀(j:Nat) t v,Tryz.f7.params[j]? =some t->args[j]? =some v->Value.okWide fC W .any base t v:=z;have J:=hW;obtain⟨p,q,Y,hV,rfl,hfz,hnd⟩:=hW;have hA:DataW.TrodAll c fC W 0 (λ_=>true) true Tryz.f7.params.toList args.toList ds p:=Y;rw[Tryz.params7] at hA r;obtain⟨v0,d0,rfl,rfl,h0⟩:=trodAll_one hA;obtain⟨rfl,rfl⟩:=trodVars_none hV;obtain⟨a,len,cap,rfl⟩:=okWide_slice NK (r 0 22 v0 rfl rfl);have b:Rows.uptoBulkAll ([d0]++[])<=1048576:=of_decide_eq_true (G _ rfl);simp only[bR,Rows.uptoBulkAll,b6] at b;have h0':=h0;obtain⟨fuel,hf⟩:=h0;obtain⟨l,hl,M,y⟩:=Ee hf rfl;have U:=Hq (w:=W) (Li (g:=gE) rfl l (aQ M b) λx S=>⟨aQ (y x S).1 b,(y x S).2⟩) (Kj hL) (vs:=[.slice a len cap]) ⟨_,[],rfl,hl,rfl⟩;simp only[bR] at J;refine U.mono λe W' ⟨v,d,m,he,hv,hd,hb⟩=>?_
 subst hd;simp only[D.Den] at hv;subst hv;have hlt:∀x∈p,x.block<W.heap.size:=DataW.TrodAll.lt hA;refine⟨_,he,[d0],[],p,[],p,[],J,trodAll_mk1 (shut_bool ub4 _),?_,rfl,hb.frame _,λh=>by cases h⟩;exact trodAll_mk1 (hb.trod gN gN (of_decide_eq_true gN) h0' hlt)
theorem rests_holds:Rows.ReduceRestsUptoSaid:=
 OpenClaim.holds_of_cond 7 Tryz.f7 rfl rfl rfl rfl rfl rfl rfl ⟨rfl,rfl,rfl,rfl,rfl⟩ rfl rfl rfl rfl rfl gN Tryz.func7 gN
  (of_decide_eq_true gN) (by unfold Func.isWrapper;first|(rw[if_pos (by decide +kernel)];kernel_rfl)|(rw[if_neg (by decide +kernel)];exact⟨rfl,rfl⟩))
  (λos b H k _ F=>by rw[OpenClaim.pre_eq_preRow];exact JJ os b H k F)
theorem plain(i c)(h : Tryz.pinned.checked.prog.funcNamed "provekernel/provekernellaw.ReduceRests" = some i)(e : Tryz.pinned.checked.prog.funcs[i]? = some c) :
 true=Tryz.pinned.checked.prog.looks []/\∀(j:Nat) t,c.params[j]? =some t->Tryz.pinned.checked.prog.wantsStandIn t=false:=by
 obtain rfl : i = 7 := dy ((show Tryz.prog.funcNamed "provekernel/provekernellaw.ReduceRests" = some 7 by kernel_rfl).symm.trans h) |>.symm
 obtain rfl:c=Tryz.f7:=(dy (Tryz.func7.symm.trans e)).symm;refine⟨gN,λj t b=>?_⟩;rw[Tryz.params7] at b;obtain rfl:t=22:=by simpa using eS b
 exact(show Tryz.prog.wantsStandIn 22=false by kernel_rfl)
theorem rests_card_holds:Rows.ReduceRestsUptoCardSaid:=
 Claim7.holds_tied_plain_at .later [] _ _ _ _ rests_holds (λ_ h=>by cases h) gN (λ_ h=>by cases h) reduceRestsUpto_row_tie rfl ⟨rfl,rfl⟩ gN rfl plain gN
#print axioms rests_card_holds
end
end Go.Proofs.YtndbnldjidciiaaGreatDoor
