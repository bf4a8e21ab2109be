/-
  What is proved here: lemmas of part 4, for the theorem of the last part.
-/
import Derived.Test.YtndbnldjidciiaaGreatDoorP3
set_option linter.unusedSimpArgs false
set_option linter.unusedVariables false
set_option linter.unusedSectionVars false
namespace Go.Proofs.YtndbnldjidciiaaGreatDoor
open Go Go.Vd Go.RowKit
attribute [local irreducible] bl br de aj bI cY
variable {g gl : Nat → List D}
def dO (k : Int) (s : ByteArray) (ps : List ByteArray) (k1 n1 : Int) (s1 : ByteArray) (l1 : List aJ) (a1 : List ae) (k2 n2 : Int) (s2 : ByteArray) (l2 : List aJ) (a2 : List ae) (a : Int) (cc : List (ByteArray × ae)) : Ob :=
 .cells [.d (.v (.int .i64 k)), .d (.v (.string s)), .d (.sl 1 (strs ps)), .d (.v (.int .i64 k1)), .d (.v (.int .i64 n1)), .d (.v (.string s1)), .d (.sl 3 (bF l1)), .d (.sl 5 (ba a1)), .d (.v (.int .i64 k2)), .d (.v (.int .i64 n2)), .d (.v (.string s2)), .d (.sl 3 (bF l2)), .d (.sl 5 (ba a2)), .d (.v (.int .i64 a)), .d (.sl 6 (gV cc))] 61
def eO (k : Int) (s : ByteArray) (ps : List ByteArray) (k1 n1 : Int) (s1 : ByteArray) (l1 : List aJ) (a1 : List ae) (k2 n2 : Int) (s2 : ByteArray) (l2 : List aJ) (a2 : List ae) (a : Int) (cc : List (ByteArray × ae)) (rp : List ByteArray) (k3 n3 : Int) (s3 : ByteArray) (l3 : List aJ) (a3 : List ae) : Ob :=
 .cells [.d (.v (.int .i64 k)), .d (.v (.string s)), .d (.sl 1 (strs ps)), .d (.v (.int .i64 k1)), .d (.v (.int .i64 n1)), .d (.v (.string s1)), .d (.sl 3 (bF l1)), .d (.sl 5 (ba a1)), .d (.v (.int .i64 k2)), .d (.v (.int .i64 n2)), .d (.v (.string s2)), .d (.sl 3 (bF l2)), .d (.sl 5 (ba a2)), .d (.v (.int .i64 a)), .d (.sl 6 (gV cc)), .d (.sl 1 (strs rp)), .d (.v (.int .i64 k3)), .d (.v (.int .i64 n3)), .d (.v (.string s3)), .d (.sl 3 (bF l3)), .d (.sl 5 (ba a3))] 63
theorem Er : ∀ (n : Nat) (t : ae) (j : Nat), j < n → n ≤ bu t → ∀ {m : Int} {s : ByteArray} {ls : List aJ} {a b : ae}, eU j t = .mk 5 m s ls [a, b] → (jm n t)[j]? = some a := by
 intro n
 induction n with
 | zero => intro t j h; omega
 | succ n ih =>
  intro t j hj hn m s ls a b he
  obtain ⟨m1, s1, l1, a1, b1, h1, h2, h3, h4⟩ := gK n t (by omega)
  have hl := dT n t (by omega)
  rw [h3]
  by_cases hjn : j < n
  ·rw [List.getElem?_append_left (by omega)]; exact ih t j hjn (by omega) he
  ·obtain rfl : j = n := by omega
   rw [List.getElem?_append_right (by omega), hl, Nat.sub_self]
   rw [he] at h1; cases h1; rfl
variable {nm : ByteArray} {h a : ae} {f pre X cs : List ae} {p j : Nat}
theorem CE (hj : p ≤ j) {c : ae} (ha : X.getD j aI = a) (hc : cs.getD j aI = c) (hs : ic (ph nm) a 0 = true) :
 CF nm h f p pre X cs (j + 1) = CF nm h f p pre X cs j ++ [zG h f p a (pre ++ (cs.drop p).take (j - p)) c] := by
 rw [CF, ha, hc, if_pos ⟨hj, hs⟩]
theorem Fq (ha : X.getD j aI = a) (hs : ¬ (p ≤ j ∧ ic (ph nm) a 0 = true)) :
 CF nm h f p pre X cs (j + 1) = CF nm h f p pre X cs j := by
 rw [CF, ha, if_neg hs, List.append_nil]
theorem wq (a b : ae) : (ae.mk 3 0 .empty [] [a, b]).size = 1 + (a.size + (b.size + 0)) := by
 simp only [ae.size, aS, ai]
set_option maxHeartbeats 1600000 in
theorem DH {es : List cq} (hE : cP es) {ps : List ByteArray} {c : Int} (hcc : 0 ≤ c ∧ c ≤ 1099511627776) {most n : Nat} (hm : most ≤ 1000000) (hW : C5 gl es ps c most n)
 (kd : Int) (sd : ByteArray) (pd : List ByteArray) (k1 n1 : Int) (s1 : ByteArray) (l1 : List aJ) (a1 : List ae) (k2 n2 : Int) (s2 : ByteArray) (l2 : List aJ) (a2 : List ae) (ad : Int) (cc : List (ByteArray × ae)) (rp : List ByteArray) (k3 n3 : Int) (s3 : ByteArray) (l3 : List aJ) (a3 : List ae)
 (hem : (⟨.mk kd sd pd (.mk k1 n1 s1 l1 a1) (.mk k2 n2 s2 l2 a2) ad cc, rp, .mk k3 n3 s3 l3 a3⟩ : cq) ∈ es) (hk : kd = 3) (hn : ByteArray) (hus : List aJ) (az : List ae) (d : Nat) (pr : Int) (hdm : d ≤ most)
 (hh : Wt (eB es) ps (.mk 2 0 hn hus []) c) (hzh : (ae.mk 2 0 hn hus []).size ≤ 1000000000000) (ha : ∀ x ∈ az, Wt (eB es) ps x c) (hza : ai az ≤ 1000000000000) (hgas : ∀ x ∈ az, x.size + 30000 * (most - d) < n ∧ x.size + 30000 * (most - d) ≤ 1000000000000) :
 ey Tryz.prog gl 86 [aP es false, aN, gZ d most false pr] [.bZ 0 0, .d (ae.mk 2 0 hn hus []).d, .d (.sl 5 (ba az)), .d (cq.dd ⟨.mk kd sd pd (.mk k1 n1 s1 l1 a1) (.mk k2 n2 s2 l2 a2) ad cc, rp, .mk k3 n3 s3 l3 a3⟩), .bZ 2 0]
  (KL es most n ⟨.mk kd sd pd (.mk k1 n1 s1 l1 a1) (.mk k2 n2 s2 l2 a2) ad cc, rp, .mk k3 n3 s3 l3 a3⟩ (.mk 2 0 hn hus []) az d pr) := by
 have hent := hE.vU _ hem
 obtain ⟨har0, har1⟩ := hent.ar hk
 obtain ⟨hty, htz⟩ := hent.ty
 have hcl0 := hent.cl
 have hpd := hent.ps
 simp only [dp.ar, dp.ty, dp.cs, dp.ps] at har0 har1 hty htz hcl0 hpd
 obtain ⟨P, rfl⟩ : ∃ P : Nat, ad = P := ⟨ad.toNat, by omega⟩
 have hpz := dX _ (.mk k1 n1 s1 l1 a1) (Nat.le_refl _)
 have hpt := gJ (gl := gl) (B := 1099511627776) k1 n1 s1 l1 a1 (hty.sh (by omega)) (by omega)
 have hccl := gd cc
 have hal := bf az
 have hsa := bA az
 generalize hE' : (⟨.mk kd sd pd (.mk k1 n1 s1 l1 a1) (.mk k2 n2 s2 l2 a2) (P : Int) cc, rp, .mk k3 n3 s3 l3 a3⟩ : cq) = e
 have hdd : e.dd = cq.dd ⟨.mk kd sd pd (.mk k1 n1 s1 l1 a1) (.mk k2 n2 s2 l2 a2) (P : Int) cc, rp, .mk k3 n3 s3 l3 a3⟩ := by rw [hE']
 rw [hdd]
 have heA : HQ e = P + 1 + cc.length + (bu (.mk k1 n1 s1 l1 a1) - P) := by rw [← hE']; unfold HQ; simp only [dp.ar, dp.ty, dp.cs, Int.toNat_natCast]
 have heP : e.d.ar.toNat = P := by rw [← hE']; simp only [dp.ar, Int.toNat_natCast]
 have heC : e.d.cs = cc := by rw [← hE']; rfl
 have heN : e.d.nm = sd := by rw [← hE']; rfl
 have hePs : e.d.ps = pd := by rw [← hE']; rfl
 have hem' : e ∈ es := by rw [← hE']; exact hem
 have hent' := hE.vU _ hem'
 generalize hA : HQ e = A at heA
 have hAt : (P : Int) + 1 + ((gV cc).length : Int) + ((bu (.mk k1 n1 s1 l1 a1) : Int) - P) = (A : Int) := by omega
 refine bS Tryz.func86 Tryz.ntmps86 3 ?_;refine kc 31 [14, 13, 12, 10, 6, 0, 2, 4] 4 ?_;refine oc (cv pC rfl rfl (hpt) (bd .nil) ?_);refine go 1 ?_;refine o1 (nT ?_);refine ko 3 [15, 14, 13, 12, 10, 6, 0, 2, 4] 3 ?_;refine o1 (cw ?_);refine go 1 ?_;refine o1 (cw ?_);refine go 1 ?_;refine o1 (cw ?_);refine ko 5 [16, 14, 13, 12, 10, 6, 0, 2, 4] 0 ?_
 rw [hAt]
 refine gc 7 ?_;refine cj (fun h6 => ?_) (fun h6 => ?_)
 ·refine kc 0 [10] 9 ?_;refine eo (.cb [aI.d, .v (.bool false)]) [0, 1, 2] [aP es false, aN, gZ d most false pr] ?_
  ·exact ⟨aI, false, d, false, false, rfl, rfl, Nat.le_refl _, hdm, fun _ => .inr (.inl ⟨rfl, rfl, .inl ⟨by omega, rfl⟩⟩)⟩
 refine kc 3 [16, 14, 13, 12, 10, 6, 0, 2, 4] 0 ?_
 obtain ⟨kx, mx, sx, lx, ax, hgx⟩ := bQ (show A < az.length by omega)
 have hwx := ha _ (List.mem_of_getElem? hgx)
 have hgg := hgas _ (List.mem_of_getElem? hgx)
 have hWx := hW kx mx sx lx ax d pr hdm hgg.1 hgg.2 hwx
 refine gc 4 ?_;refine o1 (bV bE bK ?_ (he := by exact (bY hgx)));refine go 2 ?_;refine oc (ay F4 rfl rfl rfl rfl (hWx) [0, 1, 2] (bh (cu (bh .nil))) rfl rfl rfl rfl (an (bd (an .nil))) (fun s ob' hq => ?_) (fun s ob' hq => ?_))
 rotate_left
 ·obtain ⟨_, _, _, _, hq1, _⟩ := hq; cases hq1
 obtain ⟨⟨kq, mq, sq, lq, aq⟩, d1, t1, w1, hq1, rfl, hd1, hd2, hres⟩ := hq; cases hq1; refine ⟨_, _, _, _, _, rfl, rfl, rfl, rfl, rfl, ?_⟩;refine ko 5 [17, 16, 14, 13, 12, 10, 6, 0, 2, 4] 7 ?_
 refine' oo (yt := 70) (d := 66) 4 ?a1 ?b1 ?_
 case a1 =>
  intro hc hK
  refine go 4 ?_
  exact hK [_, _, _, _] rfl rfl
 case b1 =>
  intro _ hK; refine go 4 ?_; exact hK [_, _, _, _] rfl
 refine go 2 ?_;refine cj (fun h9 => ?_) (fun h9 => ?_)
 ·refine kc 0 [10] 9 ?_;refine eo (.cb [aI.d, .v (.bool false)]) [0, 1, 2] [aP es w1, aN, gZ d1 most t1 pr] ?_
  ·refine ⟨aI, false, d1, t1, w1, rfl, rfl, hd1, hd2, fun hw => ?_⟩
   rcases hres hw with ⟨h1, h2⟩ | ⟨h1, h2⟩
   ·exact .inl ⟨h1, rfl, .inr ⟨_, by rw [hA]; exact hgx, .inl ⟨h2, rfl⟩⟩⟩
   ·rcases h9 with h3 | h3
    ·rw [h1] at h3; cases h3
    ·rw [hw] at h3; cases h3
 refine kc 3 [17, 16, 14, 13, 12, 10, 6, 0, 2, 4] 0 ?_
 have ht1 : t1 = false := (by rcases h9 with ⟨h3, h4⟩; first | exact h3 | simpa using h3)
 have hw1 : w1 = false := (by rcases h9 with ⟨h3, h4⟩; first | exact h4 | simpa using h4)
 subst ht1 hw1
 have hr : RW es most n (.mk kx mx sx lx ax) d (.ok (.mk kq mq sq lq aq) d1) := (by rcases hres rfl with ⟨h3, _⟩ | ⟨_, h4⟩; cases h3; exact h4)
 obtain ⟨hj1, hj2, hj3, hj4⟩ := Ar hE hcc.1 n hr hdm hwx; obtain ⟨hqok, hqH, hqA, _⟩ := Wt.spine _ (Nat.le_refl _) hj1
 have hspn := et (gl := gl) kq mq sq lq aq hqok (by omega)
 have hss := eV _ (.mk kq mq sq lq aq) (Nat.le_refl _)
 rcases hS : bt (.mk kq mq sq lq aq) with ⟨⟨kh, mh, sh, lh, ah⟩, cs⟩
 rw [hS] at hspn hss hqH hqA
 simp only at hspn hss hqH hqA
 have hcsl := bf cs
 have hcss := bA cs
 have hRIs : (∀ i cty us, ¬ rI es e (.mk kh mh sh lh ah) cs i cty us) → RI es most (RW es most n) e (.mk 2 0 hn hus []) az d (.stuck d1) := fun h => .inr ⟨_, by rw [hA]; exact hgx, .inr ⟨_, d1, hr, .inl ⟨by rw [hS]; exact h, rfl⟩⟩⟩
 refine gc 2 ?_;refine oc (cv vX rfl rfl (hspn) (bd .nil) ?_);refine ko 9 [19, 18, 16, 14, 13, 12, 10, 6, 0, 2, 4] 7 ?_;refine cj (fun h12 => ?_) (fun h12 => ?_)
 ·refine kc 0 [10] 9 ?_;refine eo (.cb [aI.d, .v (.bool false)]) [0, 1, 2] [aP es false, aN, gZ d1 most false pr] ?_
  ·refine ⟨aI, false, d1, false, false, rfl, rfl, hd1, hd2, fun _ => .inr (.inl ⟨rfl, rfl, hRIs fun i cty us h => ?_⟩)⟩
   obtain ⟨_, _, _, h3, _⟩ := h; cases h3; exact h12 rfl
 refine gc 3 ?_
 have hkh : kh = 2 := (by first | exact h12 | omega)
 subst hkh
 obtain ⟨rfl, rfl⟩ : mh = 0 ∧ ah = [] := (by
  rcases hqH.2.2 with h3 | h3 | h3 | h3 | h3
  ·omega
  ·omega
  ·exact ⟨h3.2.1, List.eq_nil_of_length_eq_zero h3.2.2.2⟩
  ·omega
  ·omega)
 have hfs := find_spec (gl := gl) es false sh hE.b
 rcases hF : bB sh es with ⟨kf, ⟨⟨kg, sg', pg, ⟨u1, v1, x1, y1, z1⟩, ⟨u2, v2, x2, y2, z2⟩, ag, cg⟩, rg, ⟨u3, v3, x3, y3, z3⟩⟩, jf⟩
 rw [hF] at hfs
 dsimp only at hfs
 obtain ⟨kK, mK, sK, lK, aK, hCT⟩ := ae.case (cc.getD jf (.empty, aI)).2
 have hCTok : iU 1099511627776 (.mk kK mK sK lK aK) ∧ (ae.mk kK mK sK lK aK).size ≤ 800001 := (by
  rw [← hCT, List.getD_eq_getElem?_getD]
  cases hg : cc[jf]? with
  | none => exact ⟨⟨fun l hl => (by cases hl), trivial, .inl ⟨rfl, ⟨by decide, by decide⟩, rfl, rfl, rfl⟩⟩, by decide⟩
  | some x =>
   have h3 := hent'.cs x (by rw [heC]; exact List.mem_of_getElem? hg)
   exact ⟨h3.1.sh (show (0 : Int) + (x.2.size : Int) ≤ 1099511627776 + 1 by have := h3.2.1; omega), h3.2.1⟩)
 have hpc := gJ (gl := gl) (B := 1099511627776) kK mK sK lK aK hCTok.1 (by have := hCTok.2; omega)
 have hgc : kf = 4 → sg' = sd → cc[jf]? = some ((cc.getD jf (.empty, aI)).1, .mk kK mK sK lK aK) := (fun h3 h4 => by
  subst h3
  have h5 := yM hE (jQ hF (by decide)) hem' (by rw [heN]; exact h4)
  obtain ⟨x, hx, _⟩ := nE (nm := sh) hE.k4 (by rw [hF])
  rw [hF] at hx
  have h6 : e.d.cs[jf]? = some x := (by rw [← h5]; exact hx)
  rw [heC] at h6
  rw [← hCT, List.getD_eq_getElem?_getD, h6]; rfl)
 have hgl : kf = 4 → sg' = sd → jf < cc.length := (fun h3 h4 => (List.getElem?_eq_some_iff.1 (hgc h3 h4)).1)
 have hno : ∀ i cty us, rI es e (.mk 2 0 sh lh []) cs i cty us → kf = 4 ∧ sg' = sd ∧ i = jf ∧ cty = .mk kK mK sK lK aK ∧ us = lh ∧ cs.length = bu (.mk kK mK sK lK aK) := (fun i cty us h => by
  obtain ⟨s', e2, nm', h3, h4, h5, h6, h7⟩ := h
  simp only [ae.mk.injEq] at h3
  obtain ⟨_, _, rfl, rfl, _⟩ := h3
  rw [hF] at h4
  simp only [Prod.mk.injEq] at h4
  obtain ⟨rfl, rfl, rfl⟩ := h4
  rw [heN] at h5
  have h8 := hgc rfl h5
  rw [heC] at h6
  rw [h6] at h8
  simp only [Option.some.injEq, Prod.mk.injEq] at h8
  exact ⟨rfl, h5, rfl, h8.2, rfl, by rw [← h8.2]; exact h7⟩)
 refine gc 4 ?_;refine oc (ck Hy rfl rfl (hfs) [0, 1] rfl (bh (cu .nil)) (an (an .nil)) ?_);refine ko 11 [22, 20, 21, 19, 18, 16, 14, 13, 12, 10, 6, 0, 2, 4] 5 ?_
 refine' oo (yt := 98) (d := 92) 6 ?a2 ?b2 ?_
 case a2 =>
  intro hc hK
  refine go 6 ?_; exact hK [_, _, _, _, _, _] rfl rfl
 case b2 =>
  intro _ hK; refine go 6 ?_
  exact hK [_, _, _, _, _, _] rfl
 refine go 1 ?_
 refine' oo (yt := 110) (d := 100) 10 ?a3 ?b3 ?_
 case a3 =>
  intro hc hK
  refine go 5 ?_;refine gy ?_;refine o1 (bV pG qc ?_ (he := by exact (gW (hgc hc.1 hc.2))));refine go 2 ?_;refine gy ?_;refine oc (cv pC rfl rfl (hpc) (bd .nil) ?_);refine go 1 ?_
  exact hK [_, _, _, _, _, _, _, _, _, _] rfl rfl
 case b3 =>
  intro _ hK; refine go 10 ?_; exact hK [_, _, _, _, _, _, _, _, _, _] rfl
 refine go 2 ?_;refine cj (fun h15 => ?_) (fun h15 => ?_)
 ·refine kc 0 [10] 9 ?_;refine eo (.cb [aI.d, .v (.bool false)]) [0, 1, 2] [aP es false, aN, gZ d1 most false pr] ?_
  ·refine ⟨aI, false, d1, false, false, rfl, rfl, hd1, hd2, fun _ => .inr (.inl ⟨rfl, rfl, hRIs fun i cty us h => ?_⟩)⟩
   obtain ⟨h3, h4, _, _, _, h5⟩ := hno i cty us h
   rcases h15 with (h6 | h6) | h6
   ·exact h6 h3
   ·exact h6 h4
   ·omega
 refine kc 3 [22, 19, 18, 16, 14, 13, 12, 10, 6, 0, 2, 4] 0 ?_
 have hk4 : kf = 4 := (by first | exact h15.1.1 | omega)
 have hsn : sg' = sd := (by first | exact h15.1.2 | exact (h15.1).2)
 have hpl : cs.length = bu (.mk kK mK sK lK aK) := (by have h3 := h15.2; omega)
 subst hk4
 have hci := hgc rfl hsn
 have hct : rI es e (.mk 2 0 sh lh []) cs jf (.mk kK mK sK lK aK) lh := ⟨sh, _, _, rfl, hF, by rw [heN]; exact hsn, by rw [heC]; exact hci, hpl⟩
 obtain ⟨hi1, hi2, hi3, hi4, hi5, _, hi7⟩ := rH hE hem' hqH hct
 rw [heC] at hi1
 rw [hePs] at hi3 hi4
 have hPc : P ≤ cs.length := (by have h3 : e.d.ar = (P : Int) := (by rw [← hE']; rfl); omega)
 refine gc 2 ?_;refine oc (ay Ht rfl rfl rfl rfl (mQ d1 most false pr (by omega)) [2] (bh .nil) rfl rfl rfl rfl (an .nil) (fun s ob' hq => ?_) (fun s ob' hq => ?_))
 rotate_left
 ·obtain ⟨_, _, _, hq1, _⟩ := hq; cases hq1
 obtain ⟨ok, d2, t2, hq1, rfl, hst⟩ := hq; cases hq1; refine ⟨_, _, _, _, _, rfl, rfl, rfl, rfl, rfl, ?_⟩;refine go 10 ?_;refine cj (fun h18 => ?_) (fun h18 => ?_)
 ·refine kc 0 [10] 9 ?_;refine eo (.cb [aI.d, .v (.bool false)]) [0, 1, 2] [aP es false, aN, gZ d2 most t2 pr] ?_
  ·rcases hst with ⟨h3, h4, h5, h6⟩ | ⟨h3, _⟩
   ·refine ⟨aI, false, d2, t2, false, rfl, rfl, by omega, by omega, fun _ => .inl ⟨h6, rfl, .inr ⟨_, by rw [hA]; exact hgx, .inr ⟨_, d1, hr, .inr ⟨jf, .mk kK mK sK lK aK, lh, ?_, .inl ⟨h4, rfl⟩⟩⟩⟩⟩⟩
    rw [hS]; exact hct
   ·rw [h3] at h18; simp at h18
 refine kc 3 [22, 19, 18, 16, 14, 13, 12, 10, 6, 0, 2] 0 ?_
 have hst' : d1 < most ∧ d2 = d1 + 1 ∧ t2 = false := (by
  rcases hst with ⟨h3, _⟩ | ⟨_, h4, h5, h6⟩
  ·rw [h3] at h18; simp at h18
  ·exact ⟨h4, h5, h6⟩)
 obtain ⟨hlt, rfl, rfl⟩ := hst'; obtain ⟨km, mm, sm, lm, am, hgm⟩ := bQ (show P + 1 + jf < az.length by omega)
 have hidx20 : (ba az)[((P : Int) + 1 + (jf : Int)).toNat]? = some [.v (.int .i64 km), .v (.int .i64 mm), .v (.string sm), .sl 3 (bF lm), .sl 5 (ba am)] := (by rw [show ((P : Int) + 1 + (jf : Int)).toNat = P + 1 + jf by omega, lz hgm]; rfl)
 have hmz := bC hgm
 refine gc 3 ?_;refine o1 (cw ?_);refine go 1 ?_;refine o1 (cw ?_);refine o1 (bV bE bK ?_ (he := by exact (hidx20)));refine ko 13 [25, 24, 22, 19, 18, 16, 14, 13, 12, 10, 6, 0, 2] 0 ?_;refine lp (ι := Nat × Int × Int × ByteArray × List aJ × List ae) (fun ⟨q, k7, m7, s7, l7, a7⟩ => [(25, int ((P + q : Nat) : Int))]) (fun ⟨q, k7, m7, s7, l7, a7⟩ => [aP es false, aN, gZ ((d1 + 1 : Nat) : Int) most false pr, tO 2 0 hn hus [], eO kd sd pd k1 n1 s1 l1 a1 k2 n2 s2 l2 a2 (P : Int) cc rp k3 n3 s3 l3 a3, zO, dO kd sd pd k1 n1 s1 l1 a1 k2 n2 s2 l2 a2 (P : Int) cc, tO kq mq sq lq aq, tO 2 0 sh lh [], eO kg sg' pg u1 v1 x1 y1 z1 u2 v2 x2 y2 z2 ag cg rg u3 v3 x3 y3 z3, tO k7 m7 s7 l7 a7]) [24, 22, 19, 18, 16, 14, 13, 12, 10, 6, 0, 2] (fun ⟨q, k7, m7, s7, l7, a7⟩ => q ≤ cs.length - P ∧ bN (.mk km mm sm lm am) ((cs.drop P).take q) = .mk k7 m7 s7 l7 a7) (fun ⟨q, k7, m7, s7, l7, a7⟩ => cs.length - P - q) ((0, km, mm, sm, lm, am)) ([0, 1, 2, 3, 4, 5, 6, 7, 8, 9, 10]) rfl ?I8 ?M8 ?H8
 case I8 =>
  exact ⟨Nat.zero_le _, rfl⟩
 case M8 =>
  refine mo ?_ (eh rfl (by exact Fit.of_eq (by rfl)) (aH (aH (aH (aH (aH (aH (aH (aH (aH (aH (aH (aH dF)))))))))))))
  repeat (first | exact cW | refine bh ?_ | refine cu ?_)
 case H8 =>
  rintro ⟨q, k7, m7, s7, l7, a7⟩ hinv
  try dsimp only at hinv
  refine kc 0 [25, 24, 22, 19, 18, 16, 14, 13, 12, 10, 6, 0, 2] 9 ?_;refine cj (fun h22 => ?_) (fun h22 => ?_)
  ·refine kc 4 [25, 24, 22, 19, 18, 16, 14, 13, 12, 10, 6, 0, 2] 0 ?_; obtain ⟨k8, m8, s8, l8, a8, hget⟩ := bQ (show P + q < cs.length by omega)
   have hgd : (cs.drop P)[q]? = some (.mk k8 m8 s8 l8 a8) := (by rw [List.getElem?_drop]; exact hget)
   have hap := cR (gl := gl) k7 m7 s7 l7 a7 k8 m8 s8 l8 a8
   refine gz [0, 1, 2] mixed ?_;refine A1 3 rfl (bV bE bK ⟨_, rfl, ?_⟩ (he := by exact (bY hget)));refine ga [4] ?_;refine A2 5 rfl (cv nK rfl rfl (hap) (bd (bd .nil)) ?_);refine A2 6 rfl (eD bM ?_);refine aQ ?_;refine ke 2 [25, 24, 22, 19, 18, 16, 14, 13, 12, 10, 6, 0, 2] 2 ?_;refine o1 (cw ?_);refine go 2 ?_;refine bk ((q + 1, 3, 0, .empty, [], [.mk k7 m7 s7 l7 a7, .mk k8 m8 s8 l8 a8])) rfl ?_ ([0, 1, 2, 3, 4, 5, 6, 7, 8, 9, 10]) ?_
   ·exact ⟨⟨by omega, by rw [gv hgd, hinv.2]⟩, show cs.length - P - (q + 1) < cs.length - P - q by omega⟩
   ·refine mo ?_ (eh rfl (by exact Fit.of_eq (by first | rfl | (congr 3; omega))) (aH (aH (aH (aH (aH (aH (aH (aH (aH (aH (aH (aH dF)))))))))))))
    repeat (first | exact cW | refine bh ?_ | refine cu ?_)
  refine kc 6 [24, 22, 19, 18, 16, 14, 13, 12, 10, 6, 0, 2] 0 ?_; obtain rfl : q = cs.length - P := (by omega)
  have hO := hinv.2
  rw [List.take_of_length_le (by rw [List.length_drop]; exact Nat.le_refl _)] at hO
  have hOz := cI (.mk km mm sm lm am) (cs.drop P)
  rw [hO] at hOz
  have hdz := nh cs P
  have hdl : (cs.drop P).length = cs.length - P := List.length_drop
  have htk := bf (az.take P)
  have htl : (az.take P).length = P := (by rw [List.length_take]; omega)
  have hlsz : ∀ u ∈ lh, u.size ≤ 1099511627776 := (fun u hu => by
   obtain ⟨i, hi⟩ := List.getElem?_of_mem hu
   have h3 := dN hi
   have hqz : (ae.mk kq mq sq lq aq).size ≤ 1000000000000 := (by omega)
   have h4 : (ae.mk 2 0 sh lh []).size ≤ 1000000000000 := (by omega)
   simp only [ae.size] at h4
   omega)
  refine gc 9 ?_;refine o1 (gT bE bK rfl rfl rfl rfl rfl rfl (by omega) (mP az P) ?_);refine oc (T := fun _ => False) (gL fA rfl rfl rfl rfl rfl rfl (by simp only [List.length_cons, List.length_nil, Nat.reduceAdd]; rfl) rfl rfl (by decide) (by (simp only [maxLen]; omega)) rfl rfl rfl ?_);refine ko 4 [26, 24, 22, 19, 18, 16, 14, 13, 12, 10, 6, 0, 2] 0 ?_;refine gz [0, 1, 2, 3] mixed ?_;refine A1 4 rfl (bV pG qc ⟨_, rfl, ?_⟩ (he := by exact (gW hci)));refine ga [5, 6, 7, 8, 9, 10] ?_;refine dj (rs := [11, 12]) (by kernel_rfl) rfl ⟨?_, ?_, trivial⟩
  ·skip
   refine A4 11 rfl (ay Hw rfl rfl rfl rfl (pa es false pd lh (by omega) (by omega) hlsz kK mK sK lK aK (by omega)) [0, 1] (bh (cu .nil)) rfl rfl rfl rfl (an (bd (an (an .nil)))) (fun s ob' hq => ?_) (fun s ob' hq => ?_))
   rotate_left
   ·obtain ⟨_, _, hq1, _⟩ := hq; cases hq1
   obtain ⟨⟨k5, m5, s5, l5, a5⟩, w2, hq1, rfl, hw2⟩ := hq; cases hq1; refine ⟨_, _, _, _, _, rfl, rfl, rfl, rfl, rfl, ?_⟩;refine A2 12 rfl (tE bM ?_);refine A2 13 rfl (eD bM ?_);refine aQ ?_;refine ke 2 [27, 26, 24, 19, 16, 14, 13, 12, 10, 6, 0, 2] 8 ?_;refine cj (fun h28 => ?_) (fun h28 => ?_)
   ·refine kc 0 [10] 9 ?_;refine eo (.cb [aI.d, .v (.bool false)]) [0, 1, 2] [aP es w2, aN, gZ ((d1 + 1 : Nat) : Int) most false pr] ?_
    ·exact ⟨aI, false, d1 + 1, false, w2, rfl, rfl, by omega, by omega, fun h => by rw [h] at h28; cases h28⟩
   refine kc 4 [27, 26, 24, 19, 16, 14, 13, 12, 10, 6, 0, 2] 0 ?_
   have hw2' : w2 = false ∧ (ae.mk k5 m5 s5 l5 a5) = jn pd lh (.mk kK mK sK lK aK) ∧ (ae.mk k5 m5 s5 l5 a5).size ≤ 20000 := (by
    rcases hw2 with ⟨h3, _, h4, h5⟩ | ⟨h3, _⟩
    ·exact ⟨h3, h4, h5⟩
    ·rw [h3] at h28; simp at h28)
   obtain ⟨rfl, hTY, hTz⟩ := hw2'
   have hpTY : bu (.mk k5 m5 s5 l5 a5) = cs.length := (by rw [hTY, uj]; omega)
   have hc20 : cs.length < 20001 := (by have h3 := dX _ (.mk k5 m5 s5 l5 a5) (Nat.le_refl _); omega)
   have hTW : Wt (eB es) ps (.mk k5 m5 s5 l5 a5) 0 := (by rw [hTY]; exact hi4.Gs (by omega) hi2)
   have hXW := hTW.vH cs.length (by omega)
   have hXl := dT cs.length (.mk k5 m5 s5 l5 a5) (by omega)
   have hcsz := bA cs
   refine gc 5 ?_;refine lp (ι := Nat × Bool × (Int × Int × ByteArray × List aJ × List ae) × Int × Int × ByteArray × List aJ × List ae) (fun ⟨j, w3, ⟨k6, m6, s6, l6, a6⟩, k8, m8, s8, l8, a8⟩ => [(28, int j), (26, .own 11 5 (ba (az.take P ++ (cs.drop P).take (j - P))))]) (fun ⟨j, w3, ⟨k6, m6, s6, l6, a6⟩, k8, m8, s8, l8, a8⟩ => [aP es w3, aN, gZ ((d1 + 1 : Nat) : Int) most false pr, tO 2 0 hn hus [], eO kd sd pd k1 n1 s1 l1 a1 k2 n2 s2 l2 a2 (P : Int) cc rp k3 n3 s3 l3 a3, zO, dO kd sd pd k1 n1 s1 l1 a1 k2 n2 s2 l2 a2 (P : Int) cc, tO kq mq sq lq aq, tO 2 0 sh lh [], eO kg sg' pg u1 v1 x1 y1 z1 u2 v2 x2 y2 z2 ag cg rg u3 v3 x3 y3 z3, tO k8 m8 s8 l8 a8, tR, tO k6 m6 s6 l6 a6]) [27, 24, 19, 16, 14, 13, 12, 10, 6, 0, 2] (fun ⟨j, w3, ⟨k6, m6, s6, l6, a6⟩, k8, m8, s8, l8, a8⟩ => j ≤ cs.length ∧ eU j (.mk k5 m5 s5 l5 a5) = .mk k6 m6 s6 l6 a6 ∧ (ae.mk k8 m8 s8 l8 a8).size ≤ 4000000000000 + j * 8796093022209 ∧ (w3 = false → (ae.mk k8 m8 s8 l8 a8) = bN (.mk k7 m7 s7 l7 a7) (CF sd (.mk 2 0 hn hus []) (az.take (P + 1 + cc.length)) P (az.take P) (jm cs.length (.mk k5 m5 s5 l5 a5)) cs j))) (fun ⟨j, w3, ⟨k6, m6, s6, l6, a6⟩, k8, m8, s8, l8, a8⟩ => cs.length - j) ((0, false, ⟨k5, m5, s5, l5, a5⟩, k7, m7, s7, l7, a7)) ([0, 1, 2, 3, 4, 5, 6, 7, 8, 9, 10, 11, 12]) rfl ?I9 ?M9 ?H9
   case I9 =>
    exact ⟨Nat.zero_le _, rfl, by omega, fun _ => rfl⟩
   case M9 =>
    refine mo ?_ (aH (eh rfl (by exact Fit.of_eq (by rw [Nat.zero_sub, List.take_zero, List.append_nil]; rfl)) (aH (aH (aH (aH (aH (aH (aH (aH (aH (aH (aH dF)))))))))))))
    repeat (first | exact cW | refine bh ?_ | refine cu ?_)
   case H9 =>
    rintro ⟨j, w3, ⟨k6, m6, s6, l6, a6⟩, k8, m8, s8, l8, a8⟩ hinv
    try dsimp only at hinv
    refine kc 0 [28, 26, 27, 24, 19, 16, 14, 13, 12, 10, 6, 0, 2] 9 ?_;refine cJ (fun h31 => ?_) (fun h31 => ?_)
    ·refine kc 7 [24, 16, 10, 0, 2] 0 ?_; obtain rfl : j = cs.length := (by omega)
     have hOut := hinv.2.2.2
     have hOutz := hinv.2.2.1
     refine gc 2 ?_;refine o1 (cw ?_);refine ko 4 [30, 24, 10, 0, 2] 0 ?_;refine lp (ι := Nat × Int × Int × ByteArray × List aJ × List ae) (fun ⟨q, k9, m9, s9, l9, a9⟩ => [(30, int ((A + 1 + q : Nat) : Int))]) (fun ⟨q, k9, m9, s9, l9, a9⟩ => [aP es w3, aN, gZ ((d1 + 1 : Nat) : Int) most false pr, tO 2 0 hn hus [], eO kd sd pd k1 n1 s1 l1 a1 k2 n2 s2 l2 a2 (P : Int) cc rp k3 n3 s3 l3 a3, zO, dO kd sd pd k1 n1 s1 l1 a1 k2 n2 s2 l2 a2 (P : Int) cc, tO kq mq sq lq aq, tO 2 0 sh lh [], eO kg sg' pg u1 v1 x1 y1 z1 u2 v2 x2 y2 z2 ag cg rg u3 v3 x3 y3 z3, tO k9 m9 s9 l9 a9]) [24, 10, 0, 2] (fun ⟨q, k9, m9, s9, l9, a9⟩ => q ≤ az.length - (A + 1) ∧ bN (.mk k8 m8 s8 l8 a8) ((az.drop (A + 1)).take q) = .mk k9 m9 s9 l9 a9) (fun ⟨q, k9, m9, s9, l9, a9⟩ => az.length - (A + 1) - q) ((0, k8, m8, s8, l8, a8)) ([0, 1, 2, 3, 4, 5, 6, 7, 8, 9, 10]) rfl ?I10 ?M10 ?H10
     case I10 =>
      exact ⟨Nat.zero_le _, rfl⟩
     case M10 =>
      refine mo ?_ (eh rfl (by exact Fit.of_eq (by rfl)) (aH (aH (aH (aH dF)))))
      repeat (first | exact cW | refine bh ?_ | refine cu ?_)
     case H10 =>
      rintro ⟨q, k9, m9, s9, l9, a9⟩ hinv
      try dsimp only at hinv
      refine kc 0 [30, 24, 10, 0, 2] 9 ?_;refine cj (fun h40 => ?_) (fun h40 => ?_)
      ·refine kc 4 [30, 24, 10, 0, 2] 0 ?_; obtain ⟨kA, mA, sA, lA, aA, hget⟩ := bQ (show A + 1 + q < az.length by omega)
       have hgd : (az.drop (A + 1))[q]? = some (.mk kA mA sA lA aA) := (by rw [List.getElem?_drop]; exact hget)
       have hap := cR (gl := gl) k9 m9 s9 l9 a9 kA mA sA lA aA
       refine gz [0, 1, 2] mixed ?_;refine A1 3 rfl (bV bE bK ⟨_, rfl, ?_⟩ (he := by exact (bY hget)));refine ga [4] ?_;refine A2 5 rfl (cv nK rfl rfl (hap) (bd (bd .nil)) ?_);refine A2 6 rfl (eD bM ?_);refine aQ ?_;refine ke 2 [30, 24, 10, 0, 2] 2 ?_;refine o1 (cw ?_);refine go 2 ?_;refine bk ((q + 1, 3, 0, .empty, [], [.mk k9 m9 s9 l9 a9, .mk kA mA sA lA aA])) rfl ?_ ([0, 1, 2, 3, 4, 5, 6, 7, 8, 9, 10]) ?_
       ·exact ⟨⟨by omega, by rw [gv hgd, hinv.2]⟩, show az.length - (A + 1) - (q + 1) < az.length - (A + 1) - q by omega⟩
       ·refine mo ?_ (eh rfl (by exact Fit.of_eq (by first | rfl | (congr 3; omega))) (aH (aH (aH (aH dF)))))
        repeat (first | exact cW | refine bh ?_ | refine cu ?_)
      refine kc 6 [24, 10, 0] 0 ?_
      obtain rfl : q = az.length - (A + 1) := (by omega)
      have hV := hinv.2
      rw [List.take_of_length_le (by rw [List.length_drop]; exact Nat.le_refl _)] at hV
      have hVz := cI (.mk k8 m8 s8 l8 a8) (az.drop (A + 1))
      rw [hV] at hVz
      have hdz2 := nh az (A + 1)
      have hdl2 : (az.drop (A + 1)).length = az.length - (A + 1) := List.length_drop
      refine gc 2 ?_;refine oc (T := fun _ => False) (bo tf rfl rfl rfl rfl (jL _ k9 m9 s9 l9 a9 20000 (Nat.le_refl _) (by omega) (by omega) (by omega)) (bd (an .nil)) (fun d hd => ?_))
      obtain ⟨r, rfl, hr1, hr2, hr3⟩ := hd; refine go 11 ?_
      refine' oo (yt := 237) (d := 235) 2 ?a4 ?b4 ?_
      case a4 =>
       intro hc hK
       refine go 2 ?_; exact hK [_, _] rfl rfl
      case b4 =>
       intro _ hK; refine go 2 ?_; exact hK [_, _] rfl
      refine ko 5 [24, 10] 8 ?_;refine eo (.cb [(ae.mk k9 m9 s9 l9 a9).d, .v (.bool true)]) [0, 1, 2] [aP es (w3 || decide (20000 < r)), aN, gZ ((d1 + 1 : Nat) : Int) most false pr] ?_
      ·refine ⟨.mk k9 m9 s9 l9 a9, true, d1 + 1, false, _, rfl, rfl, by omega, by omega, fun hw => .inr (.inr ⟨rfl, rfl, ?_⟩)⟩
       simp only [Bool.or_eq_false_iff, decide_eq_false_iff_not, Int.not_lt] at hw
       have hrr := hr3 hw.2
       have hIT : uU e (.mk 2 0 hn hus []) az cs jf (.mk kK mK sK lK aK) lh = .mk k9 m9 s9 l9 a9 := (by
        unfold uU
        rw [heP, heN, heC, hePs, hA, ← hTY, List.getD_eq_getElem?_getD, hgm, Option.getD_some, hO, ← hOut hw.1, hV])
       refine .inr ⟨_, by rw [hA]; exact hgx, .inr ⟨_, d1, hr, .inr ⟨jf, .mk kK mK sK lK aK, lh, by rw [hS]; exact hct, .inr ⟨hlt, by rw [hePs, ← hTY]; exact hTz, ?_, ?_⟩⟩⟩⟩
       ·rw [hS]; simp only; rw [hIT]; omega
       ·rw [hS]; simp only; rw [hIT]
    refine kc 5 [28, 26, 27, 24, 19, 16, 14, 13, 12, 10, 6, 0, 2] 0 ?_; obtain ⟨m9, s9, l9, ⟨kA, mA, sA, lA, aA⟩, ⟨kB, mB, sB, lB, aB⟩, he1, he2, he3, he4⟩ := gK j (.mk k5 m5 s5 l5 a5) (by omega)
    have hxg := Er cs.length (.mk k5 m5 s5 l5 a5) j (by omega) (by omega) he1
    have hez := dE j (.mk k5 m5 s5 l5 a5)
    rw [he1] at hez
    simp only [ae.size, ai] at hez hTz
    rw [hinv.2.1] at he1
    simp only [ae.mk.injEq] at he1
    obtain ⟨rfl, rfl, rfl, rfl, rfl⟩ := he1
    have hXj : (jm cs.length (.mk k5 m5 s5 l5 a5)).getD j aI = .mk kA mA sA lA aA := (by rw [List.getD_eq_getElem?_getD, hxg]; rfl)
    have hAW := hXW.2 j _ hxg
    obtain ⟨kC, mC, sC, lC, aC, hgC⟩ := bQ (show j < cs.length by omega)
    have hCj : cs.getD j aI = .mk kC mC sC lC aC := (by rw [List.getD_eq_getElem?_getD, hgC]; rfl)
    have hCz := bC hgC
    have hgv : (az.take P ++ (cs.drop P).take (j - P)).length = P + min (j - P) (cs.length - P) := (by rw [List.length_append, htl, List.length_take, hdl])
    have hkr := wR (gl := gl) sd kA mA sA lA aA (by simp only [ae.size]; omega)
    have hg1 : P ≤ j → ba (az.take P ++ (cs.drop P).take (j + 1 - P)) = ba (az.take P ++ (cs.drop P).take (j - P)) ++ [[.v (.int .i64 kC), .v (.int .i64 mC), .v (.string sC), .sl 3 (bF lC), .sl 5 (ba aC)]] := (fun h => by
     rw [show j + 1 - P = (j - P) + 1 by omega, List.take_add_one, List.getElem?_drop, show P + (j - P) = j by omega, hgC, ← List.append_assoc, er]; rfl)
    have hg2 : ¬ P ≤ j → j + 1 - P = 0 ∧ j - P = 0 := (fun h => by omega)
    have htgl := bf (az.take P ++ (cs.drop P).take (j - P))
    refine gz [0, 1] mixed ?_;refine A1 2 rfl (bV bE bK ⟨_, rfl, ?_⟩ (he := by exact (rfl)));refine ga [3, 4, 5] ?_;refine A2 6 rfl (cv Ie rfl rfl (hkr) (bd (an .nil)) ?_);refine ga [7] ?_;refine aQ ?_;refine ke 2 [29, 28, 26, 27, 24, 19, 16, 14, 13, 12, 10, 6, 0, 2] 6 ?_
    refine' oa (yt := 177) (d := 176) 1 ?a5 ?b5 ?_
    case a5 =>
     intro hc hK
     refine go 1 ?_; exact hK [_] rfl rfl
    case b5 =>
     intro _ hK; refine go 1 ?_; exact hK [_] rfl
    refine ko 2 [178, 28, 26, 27, 24, 19, 16, 14, 13, 12, 10, 6, 0, 2] 0 ?_;refine xo (ι := Bool × Int × Int × ByteArray × List aJ × List ae) (fun ⟨w4, kE, mE, sE, lE, aE⟩ => []) (fun ⟨w4, kE, mE, sE, lE, aE⟩ => [aP es w4, aN, gZ ((d1 + 1 : Nat) : Int) most false pr, tO 2 0 hn hus [], eO kd sd pd k1 n1 s1 l1 a1 k2 n2 s2 l2 a2 (P : Int) cc rp k3 n3 s3 l3 a3, zO, dO kd sd pd k1 n1 s1 l1 a1 k2 n2 s2 l2 a2 (P : Int) cc, tO kq mq sq lq aq, tO 2 0 sh lh [], eO kg sg' pg u1 v1 x1 y1 z1 u2 v2 x2 y2 z2 ag cg rg u3 v3 x3 y3 z3, tO kE mE sE lE aE, tR, tO 5 m6 s6 l6 [.mk kA mA sA lA aA, .mk kB mB sB lB aB]]) [28, 26, 27, 24, 19, 16, 14, 13, 12, 10, 6, 0, 2] (fun ⟨w4, kE, mE, sE, lE, aE⟩ => (ae.mk kE mE sE lE aE).size ≤ 4000000000000 + (j + 1) * 8796093022209 ∧ (w4 = false → (ae.mk kE mE sE lE aE) = bN (.mk k7 m7 s7 l7 a7) (CF sd (.mk 2 0 hn hus []) (az.take (P + 1 + cc.length)) P (az.take P) (jm cs.length (.mk k5 m5 s5 l5 a5)) cs (j + 1)))) rfl ?A11 ?B11
    case A11 =>
     refine cJ (fun h34 => ?_) (fun h34 => ?_)
     ·refine gc 1 ?_;refine bk (w3, k8, m8, s8, l8, a8) rfl ?_ [0, 1, 2, 3, 4, 5, 6, 7, 8, 9, 10, 11, 12] mz
      ·refine ⟨Nat.le_trans hinv.2.2.1 (Nat.add_le_add_left (Nat.mul_le_mul_right _ (Nat.le_succ j)) _), fun h => ?_⟩
       rw [Fq hXj (by rintro ⟨h3, h4⟩; rcases h34 with h5 | h5; omega; rw [h4] at h5; simp at h5)]
       exact hinv.2.2.2 h
     have hglen : (az.take P ++ (cs.drop P).take (j - P)).length = j := (by omega)
     have hhy := zF (gl := gl) es w3 (sg := eB es) (ps := ps) (c := c) hcc 2 0 hn hus [] (az.take (P + 1 + cc.length)) P kA mA sA lA aA (az.take P ++ (cs.drop P).take (j - P)) kC mC sC lC aC hh (fun x hx => ha x (List.mem_of_mem_take hx)) (fun x hx => (List.mem_append.1 hx).elim (fun h => ha x (List.mem_of_mem_take h)) (fun h => hqA x (List.mem_of_mem_drop (List.mem_of_mem_take h)))) (hqA _ (List.mem_of_getElem? hgC)) (hAW.up (by omega)) (by omega) (by have := rX az (P + 1 + cc.length); omega) (by omega) (fun x hx => (List.mem_append.1 hx).elim (fun h => by obtain ⟨i, hi⟩ := List.getElem?_of_mem (List.mem_of_mem_take h); have := bC hi; omega) (fun h => by obtain ⟨i, hi⟩ := List.getElem?_of_mem (List.mem_of_mem_drop (List.mem_of_mem_take h)); have := bC hi; omega)) (by omega) (by simp only [ae.size]; omega) (by omega)
     have hsl : (ba az).take ((P : Int) + 1 + ((gV cc).length : Int)).toNat = ba (az.take (P + 1 + cc.length)) := (by rw [show (P : Int) + 1 + ((gV cc).length : Int) = ((P + 1 + cc.length : Nat) : Int) by omega, mP])
     refine gz [0, 1, 2, 3, 4] mixed ?_;refine A1 5 rfl (cw ⟨_, rfl, ?_⟩);refine ga [6] ?_;refine A1 7 rfl (cw ⟨_, rfl, ?_⟩);refine A1 8 rfl (gT bE bK rfl rfl rfl rfl rfl rfl (by omega) (hsl) ⟨_, rfl, ?_⟩);refine ga [9, 10, 11] ?_;refine A1 12 rfl (bV bE bK ⟨_, rfl, ?_⟩ (he := by exact (rfl)));refine ga [13, 14, 15, 16] ?_;refine A1 17 rfl (bV bE bK ⟨_, rfl, ?_⟩ (he := by exact (bY hgC)));refine ga [18] ?_;refine A2 19 rfl (ay Ic rfl rfl rfl rfl (hhy) [0, 1] (bh (cu .nil)) rfl rfl rfl rfl (an (bd (an (an (bd (bd (bd .nil))))))) (fun s ob' hq => ?_) (fun s ob' hq => ?_))
     rotate_left
     ·obtain ⟨_, _, hq1, _⟩ := hq; cases hq1
     obtain ⟨⟨kG, mG, sG, lG, aG⟩, w5, hq1, rfl, hGz, hGw⟩ := hq; cases hq1; refine ⟨_, _, _, _, _, rfl, rfl, rfl, rfl, rfl, ?_⟩;refine A2 20 rfl (cv nK rfl rfl (cR k8 m8 s8 l8 a8 kG mG sG lG aG) (bd (an .nil)) ?_);refine A2 21 rfl (eD bM ?_);refine aQ ?_;refine bk (w5, 3, 0, .empty, [], [.mk k8 m8 s8 l8 a8, .mk kG mG sG lG aG]) rfl ?_ [0, 1, 2, 3, 4, 5, 6, 7, 8, 9, 10, 11, 12] mz
     ·refine ⟨by have h3 := hinv.2.2.1; rw [wq]; omega, fun h => ?_⟩
      obtain ⟨h3, h4⟩ := hGw h
      rw [CE (by omega) hXj hCj (by first | exact h34.2 | omega), nL, ← hinv.2.2.2 h3, h4]
    case B11 =>
     rintro ⟨w4, kE, mE, sE, lE, aE⟩ hcut
     try dsimp only at hcut
     refine kc 0 [28, 26, 27, 24, 19, 16, 14, 13, 12, 10, 6, 0, 2] 2 ?_
     have hcut0 := hcut
     refine kc 6 [202, 28, 26, 27, 24, 19, 16, 14, 13, 12, 10, 6, 0, 2] 0 ?_;refine xc (ι := Unit) (fun _ => [(26, .own 11 5 (ba (az.take P ++ (cs.drop P).take (j + 1 - P))))]) [28, 27, 24, 19, 16, 14, 13, 12, 10, 6, 0, 2] (fun _ => True) rfl ?A12 ?B12
     case A12 =>
      refine cJ (fun h36 => ?_) (fun h36 => ?_)
      ·refine gc 1 ?_;refine bi (()) rfl ?_ ?_
       ·trivial
       ·refine mo ?_ (eh rfl (by exact Fit.of_eq (by first | (rw [hg1 (by omega)]; rfl) | (rw [(hg2 (by omega)).1, (hg2 (by omega)).2]; rfl))) (aH (aH (aH (aH (aH (aH (aH (aH (aH (aH (aH (aH dF)))))))))))))
        repeat (first | exact cW | refine bh ?_ | refine cu ?_)
      refine gc 4 ?_;refine o1 (bV bE bK ?_ (he := by exact (bY hgC)));refine go 1 ?_;refine oc (gR fA [.tmp 207] bM ?_);refine oc (nU fA ?_);refine go 2 ?_;refine bi (()) rfl ?_ ?_
      ·trivial
      ·refine mo ?_ (eh rfl (by exact Fit.of_eq (by first | (rw [hg1 (by omega)]; rfl) | (rw [(hg2 (by omega)).1, (hg2 (by omega)).2]; rfl))) (aH (aH (aH (aH (aH (aH (aH (aH (aH (aH (aH (aH dF)))))))))))))
       repeat (first | exact cW | refine bh ?_ | refine cu ?_)
     case B12 =>
      rintro _ hcut
      try dsimp only at hcut
      refine kc 0 [26, 28, 27, 24, 19, 16, 14, 13, 12, 10, 6, 0, 2] 3 ?_;refine o1 (bV bE bK ?_ (he := by exact (rfl)));refine ko 5 [26, 28, 27, 24, 19, 16, 14, 13, 12, 10, 6, 0, 2] 2 ?_;refine o1 (cw ?_);refine go 2 ?_;refine bk (j + 1, w4, ⟨kB, mB, sB, lB, aB⟩, kE, mE, sE, lE, aE) rfl ?_ [0, 1, 2, 3, 4, 5, 6, 7, 8, 9, 10, 11, 12] mz
      exact ⟨⟨by omega, he2, hcut0.1, hcut0.2⟩, show cs.length - (j + 1) < cs.length - j by omega⟩
  ·skip
   refine A4 12 rfl (tE bM ?_);refine A2 11 rfl (ay Hw rfl rfl rfl rfl (pa es false pd lh (by omega) (by omega) hlsz kK mK sK lK aK (by omega)) [0, 1] (bh (cu .nil)) rfl rfl rfl rfl (an (bd (an (an .nil)))) (fun s ob' hq => ?_) (fun s ob' hq => ?_))
   rotate_left
   ·obtain ⟨_, _, hq1, _⟩ := hq; cases hq1
   obtain ⟨⟨k5, m5, s5, l5, a5⟩, w2, hq1, rfl, hw2⟩ := hq; cases hq1; refine ⟨_, _, _, _, _, rfl, rfl, rfl, rfl, rfl, ?_⟩;refine A2 13 rfl (eD bM ?_);refine aQ ?_;refine ke 2 [27, 26, 24, 19, 16, 14, 13, 12, 10, 6, 0, 2] 8 ?_;refine cj (fun h28 => ?_) (fun h28 => ?_)
   ·refine kc 0 [10] 9 ?_;refine eo (.cb [aI.d, .v (.bool false)]) [0, 1, 2] [aP es w2, aN, gZ ((d1 + 1 : Nat) : Int) most false pr] ?_
    ·exact ⟨aI, false, d1 + 1, false, w2, rfl, rfl, by omega, by omega, fun h => by rw [h] at h28; cases h28⟩
   refine kc 4 [27, 26, 24, 19, 16, 14, 13, 12, 10, 6, 0, 2] 0 ?_
   have hw2' : w2 = false ∧ (ae.mk k5 m5 s5 l5 a5) = jn pd lh (.mk kK mK sK lK aK) ∧ (ae.mk k5 m5 s5 l5 a5).size ≤ 20000 := (by
    rcases hw2 with ⟨h3, _, h4, h5⟩ | ⟨h3, _⟩
    ·exact ⟨h3, h4, h5⟩
    ·rw [h3] at h28; simp at h28)
   obtain ⟨rfl, hTY, hTz⟩ := hw2'
   have hpTY : bu (.mk k5 m5 s5 l5 a5) = cs.length := (by rw [hTY, uj]; omega)
   have hc20 : cs.length < 20001 := (by have h3 := dX _ (.mk k5 m5 s5 l5 a5) (Nat.le_refl _); omega)
   have hTW : Wt (eB es) ps (.mk k5 m5 s5 l5 a5) 0 := (by rw [hTY]; exact hi4.Gs (by omega) hi2)
   have hXW := hTW.vH cs.length (by omega)
   have hXl := dT cs.length (.mk k5 m5 s5 l5 a5) (by omega)
   have hcsz := bA cs
   refine gc 5 ?_;refine lp (ι := Nat × Bool × (Int × Int × ByteArray × List aJ × List ae) × Int × Int × ByteArray × List aJ × List ae) (fun ⟨j, w3, ⟨k6, m6, s6, l6, a6⟩, k8, m8, s8, l8, a8⟩ => [(28, int j), (26, .own 11 5 (ba (az.take P ++ (cs.drop P).take (j - P))))]) (fun ⟨j, w3, ⟨k6, m6, s6, l6, a6⟩, k8, m8, s8, l8, a8⟩ => [aP es w3, aN, gZ ((d1 + 1 : Nat) : Int) most false pr, tO 2 0 hn hus [], eO kd sd pd k1 n1 s1 l1 a1 k2 n2 s2 l2 a2 (P : Int) cc rp k3 n3 s3 l3 a3, zO, dO kd sd pd k1 n1 s1 l1 a1 k2 n2 s2 l2 a2 (P : Int) cc, tO kq mq sq lq aq, tO 2 0 sh lh [], eO kg sg' pg u1 v1 x1 y1 z1 u2 v2 x2 y2 z2 ag cg rg u3 v3 x3 y3 z3, tO k8 m8 s8 l8 a8, tR, tO k6 m6 s6 l6 a6]) [27, 24, 19, 16, 14, 13, 12, 10, 6, 0, 2] (fun ⟨j, w3, ⟨k6, m6, s6, l6, a6⟩, k8, m8, s8, l8, a8⟩ => j ≤ cs.length ∧ eU j (.mk k5 m5 s5 l5 a5) = .mk k6 m6 s6 l6 a6 ∧ (ae.mk k8 m8 s8 l8 a8).size ≤ 4000000000000 + j * 8796093022209 ∧ (w3 = false → (ae.mk k8 m8 s8 l8 a8) = bN (.mk k7 m7 s7 l7 a7) (CF sd (.mk 2 0 hn hus []) (az.take (P + 1 + cc.length)) P (az.take P) (jm cs.length (.mk k5 m5 s5 l5 a5)) cs j))) (fun ⟨j, w3, ⟨k6, m6, s6, l6, a6⟩, k8, m8, s8, l8, a8⟩ => cs.length - j) ((0, false, ⟨k5, m5, s5, l5, a5⟩, k7, m7, s7, l7, a7)) ([0, 1, 2, 3, 4, 5, 6, 7, 8, 9, 10, 11, 12]) rfl ?I13 ?M13 ?H13
   case I13 =>
    exact ⟨Nat.zero_le _, rfl, by omega, fun _ => rfl⟩
   case M13 =>
    refine mo ?_ (aH (eh rfl (by exact Fit.of_eq (by rw [Nat.zero_sub, List.take_zero, List.append_nil]; rfl)) (aH (aH (aH (aH (aH (aH (aH (aH (aH (aH (aH dF)))))))))))))
    repeat (first | exact cW | refine bh ?_ | refine cu ?_)
   case H13 =>
    rintro ⟨j, w3, ⟨k6, m6, s6, l6, a6⟩, k8, m8, s8, l8, a8⟩ hinv
    try dsimp only at hinv
    refine kc 0 [28, 26, 27, 24, 19, 16, 14, 13, 12, 10, 6, 0, 2] 9 ?_;refine cJ (fun h31 => ?_) (fun h31 => ?_)
    ·refine kc 7 [24, 16, 10, 0, 2] 0 ?_; obtain rfl : j = cs.length := (by omega)
     have hOut := hinv.2.2.2
     have hOutz := hinv.2.2.1
     refine gc 2 ?_;refine o1 (cw ?_);refine ko 4 [30, 24, 10, 0, 2] 0 ?_;refine lp (ι := Nat × Int × Int × ByteArray × List aJ × List ae) (fun ⟨q, k9, m9, s9, l9, a9⟩ => [(30, int ((A + 1 + q : Nat) : Int))]) (fun ⟨q, k9, m9, s9, l9, a9⟩ => [aP es w3, aN, gZ ((d1 + 1 : Nat) : Int) most false pr, tO 2 0 hn hus [], eO kd sd pd k1 n1 s1 l1 a1 k2 n2 s2 l2 a2 (P : Int) cc rp k3 n3 s3 l3 a3, zO, dO kd sd pd k1 n1 s1 l1 a1 k2 n2 s2 l2 a2 (P : Int) cc, tO kq mq sq lq aq, tO 2 0 sh lh [], eO kg sg' pg u1 v1 x1 y1 z1 u2 v2 x2 y2 z2 ag cg rg u3 v3 x3 y3 z3, tO k9 m9 s9 l9 a9]) [24, 10, 0, 2] (fun ⟨q, k9, m9, s9, l9, a9⟩ => q ≤ az.length - (A + 1) ∧ bN (.mk k8 m8 s8 l8 a8) ((az.drop (A + 1)).take q) = .mk k9 m9 s9 l9 a9) (fun ⟨q, k9, m9, s9, l9, a9⟩ => az.length - (A + 1) - q) ((0, k8, m8, s8, l8, a8)) ([0, 1, 2, 3, 4, 5, 6, 7, 8, 9, 10]) rfl ?I14 ?M14 ?H14
     case I14 =>
      exact ⟨Nat.zero_le _, rfl⟩
     case M14 =>
      refine mo ?_ (eh rfl (by exact Fit.of_eq (by rfl)) (aH (aH (aH (aH dF)))))
      repeat (first | exact cW | refine bh ?_ | refine cu ?_)
     case H14 =>
      rintro ⟨q, k9, m9, s9, l9, a9⟩ hinv
      try dsimp only at hinv
      refine kc 0 [30, 24, 10, 0, 2] 9 ?_;refine cj (fun h40 => ?_) (fun h40 => ?_)
      ·refine kc 4 [30, 24, 10, 0, 2] 0 ?_; obtain ⟨kA, mA, sA, lA, aA, hget⟩ := bQ (show A + 1 + q < az.length by omega)
       have hgd : (az.drop (A + 1))[q]? = some (.mk kA mA sA lA aA) := (by rw [List.getElem?_drop]; exact hget)
       have hap := cR (gl := gl) k9 m9 s9 l9 a9 kA mA sA lA aA
       refine gz [0, 1, 2] mixed ?_;refine A1 3 rfl (bV bE bK ⟨_, rfl, ?_⟩ (he := by exact (bY hget)));refine ga [4] ?_;refine A2 5 rfl (cv nK rfl rfl (hap) (bd (bd .nil)) ?_);refine A2 6 rfl (eD bM ?_);refine aQ ?_;refine ke 2 [30, 24, 10, 0, 2] 2 ?_;refine o1 (cw ?_);refine go 2 ?_;refine bk ((q + 1, 3, 0, .empty, [], [.mk k9 m9 s9 l9 a9, .mk kA mA sA lA aA])) rfl ?_ ([0, 1, 2, 3, 4, 5, 6, 7, 8, 9, 10]) ?_
       ·exact ⟨⟨by omega, by rw [gv hgd, hinv.2]⟩, show az.length - (A + 1) - (q + 1) < az.length - (A + 1) - q by omega⟩
       ·refine mo ?_ (eh rfl (by exact Fit.of_eq (by first | rfl | (congr 3; omega))) (aH (aH (aH (aH dF)))))
        repeat (first | exact cW | refine bh ?_ | refine cu ?_)
      refine kc 6 [24, 10, 0] 0 ?_
      obtain rfl : q = az.length - (A + 1) := (by omega)
      have hV := hinv.2
      rw [List.take_of_length_le (by rw [List.length_drop]; exact Nat.le_refl _)] at hV
      have hVz := cI (.mk k8 m8 s8 l8 a8) (az.drop (A + 1))
      rw [hV] at hVz
      have hdz2 := nh az (A + 1)
      have hdl2 : (az.drop (A + 1)).length = az.length - (A + 1) := List.length_drop
      refine gc 2 ?_;refine oc (T := fun _ => False) (bo tf rfl rfl rfl rfl (jL _ k9 m9 s9 l9 a9 20000 (Nat.le_refl _) (by omega) (by omega) (by omega)) (bd (an .nil)) (fun d hd => ?_))
      obtain ⟨r, rfl, hr1, hr2, hr3⟩ := hd; refine go 11 ?_
      refine' oo (yt := 237) (d := 235) 2 ?a6 ?b6 ?_
      case a6 =>
       intro hc hK
       refine go 2 ?_; exact hK [_, _] rfl rfl
      case b6 =>
       intro _ hK; refine go 2 ?_; exact hK [_, _] rfl
      refine ko 5 [24, 10] 8 ?_;refine eo (.cb [(ae.mk k9 m9 s9 l9 a9).d, .v (.bool true)]) [0, 1, 2] [aP es (w3 || decide (20000 < r)), aN, gZ ((d1 + 1 : Nat) : Int) most false pr] ?_
      ·refine ⟨.mk k9 m9 s9 l9 a9, true, d1 + 1, false, _, rfl, rfl, by omega, by omega, fun hw => .inr (.inr ⟨rfl, rfl, ?_⟩)⟩
       simp only [Bool.or_eq_false_iff, decide_eq_false_iff_not, Int.not_lt] at hw
       have hrr := hr3 hw.2
       have hIT : uU e (.mk 2 0 hn hus []) az cs jf (.mk kK mK sK lK aK) lh = .mk k9 m9 s9 l9 a9 := (by
        unfold uU
        rw [heP, heN, heC, hePs, hA, ← hTY, List.getD_eq_getElem?_getD, hgm, Option.getD_some, hO, ← hOut hw.1, hV])
       refine .inr ⟨_, by rw [hA]; exact hgx, .inr ⟨_, d1, hr, .inr ⟨jf, .mk kK mK sK lK aK, lh, by rw [hS]; exact hct, .inr ⟨hlt, by rw [hePs, ← hTY]; exact hTz, ?_, ?_⟩⟩⟩⟩
       ·rw [hS]; simp only; rw [hIT]; omega
       ·rw [hS]; simp only; rw [hIT]
    refine kc 5 [28, 26, 27, 24, 19, 16, 14, 13, 12, 10, 6, 0, 2] 0 ?_; obtain ⟨m9, s9, l9, ⟨kA, mA, sA, lA, aA⟩, ⟨kB, mB, sB, lB, aB⟩, he1, he2, he3, he4⟩ := gK j (.mk k5 m5 s5 l5 a5) (by omega)
    have hxg := Er cs.length (.mk k5 m5 s5 l5 a5) j (by omega) (by omega) he1
    have hez := dE j (.mk k5 m5 s5 l5 a5)
    rw [he1] at hez
    simp only [ae.size, ai] at hez hTz
    rw [hinv.2.1] at he1
    simp only [ae.mk.injEq] at he1
    obtain ⟨rfl, rfl, rfl, rfl, rfl⟩ := he1
    have hXj : (jm cs.length (.mk k5 m5 s5 l5 a5)).getD j aI = .mk kA mA sA lA aA := (by rw [List.getD_eq_getElem?_getD, hxg]; rfl)
    have hAW := hXW.2 j _ hxg
    obtain ⟨kC, mC, sC, lC, aC, hgC⟩ := bQ (show j < cs.length by omega)
    have hCj : cs.getD j aI = .mk kC mC sC lC aC := (by rw [List.getD_eq_getElem?_getD, hgC]; rfl)
    have hCz := bC hgC
    have hgv : (az.take P ++ (cs.drop P).take (j - P)).length = P + min (j - P) (cs.length - P) := (by rw [List.length_append, htl, List.length_take, hdl])
    have hkr := wR (gl := gl) sd kA mA sA lA aA (by simp only [ae.size]; omega)
    have hg1 : P ≤ j → ba (az.take P ++ (cs.drop P).take (j + 1 - P)) = ba (az.take P ++ (cs.drop P).take (j - P)) ++ [[.v (.int .i64 kC), .v (.int .i64 mC), .v (.string sC), .sl 3 (bF lC), .sl 5 (ba aC)]] := (fun h => by
     rw [show j + 1 - P = (j - P) + 1 by omega, List.take_add_one, List.getElem?_drop, show P + (j - P) = j by omega, hgC, ← List.append_assoc, er]; rfl)
    have hg2 : ¬ P ≤ j → j + 1 - P = 0 ∧ j - P = 0 := (fun h => by omega)
    have htgl := bf (az.take P ++ (cs.drop P).take (j - P))
    refine gz [0, 1] mixed ?_;refine A1 2 rfl (bV bE bK ⟨_, rfl, ?_⟩ (he := by exact (rfl)));refine ga [3, 4, 5] ?_;refine A2 6 rfl (cv Ie rfl rfl (hkr) (bd (an .nil)) ?_);refine ga [7] ?_;refine aQ ?_;refine ke 2 [29, 28, 26, 27, 24, 19, 16, 14, 13, 12, 10, 6, 0, 2] 6 ?_
    refine' oa (yt := 177) (d := 176) 1 ?a7 ?b7 ?_
    case a7 =>
     intro hc hK
     refine go 1 ?_; exact hK [_] rfl rfl
    case b7 =>
     intro _ hK; refine go 1 ?_; exact hK [_] rfl
    refine ko 2 [178, 28, 26, 27, 24, 19, 16, 14, 13, 12, 10, 6, 0, 2] 0 ?_;refine xo (ι := Bool × Int × Int × ByteArray × List aJ × List ae) (fun ⟨w4, kE, mE, sE, lE, aE⟩ => []) (fun ⟨w4, kE, mE, sE, lE, aE⟩ => [aP es w4, aN, gZ ((d1 + 1 : Nat) : Int) most false pr, tO 2 0 hn hus [], eO kd sd pd k1 n1 s1 l1 a1 k2 n2 s2 l2 a2 (P : Int) cc rp k3 n3 s3 l3 a3, zO, dO kd sd pd k1 n1 s1 l1 a1 k2 n2 s2 l2 a2 (P : Int) cc, tO kq mq sq lq aq, tO 2 0 sh lh [], eO kg sg' pg u1 v1 x1 y1 z1 u2 v2 x2 y2 z2 ag cg rg u3 v3 x3 y3 z3, tO kE mE sE lE aE, tR, tO 5 m6 s6 l6 [.mk kA mA sA lA aA, .mk kB mB sB lB aB]]) [28, 26, 27, 24, 19, 16, 14, 13, 12, 10, 6, 0, 2] (fun ⟨w4, kE, mE, sE, lE, aE⟩ => (ae.mk kE mE sE lE aE).size ≤ 4000000000000 + (j + 1) * 8796093022209 ∧ (w4 = false → (ae.mk kE mE sE lE aE) = bN (.mk k7 m7 s7 l7 a7) (CF sd (.mk 2 0 hn hus []) (az.take (P + 1 + cc.length)) P (az.take P) (jm cs.length (.mk k5 m5 s5 l5 a5)) cs (j + 1)))) rfl ?A15 ?B15
    case A15 =>
     refine cJ (fun h34 => ?_) (fun h34 => ?_)
     ·refine gc 1 ?_;refine bk (w3, k8, m8, s8, l8, a8) rfl ?_ [0, 1, 2, 3, 4, 5, 6, 7, 8, 9, 10, 11, 12] mz
      ·refine ⟨Nat.le_trans hinv.2.2.1 (Nat.add_le_add_left (Nat.mul_le_mul_right _ (Nat.le_succ j)) _), fun h => ?_⟩
       rw [Fq hXj (by rintro ⟨h3, h4⟩; rcases h34 with h5 | h5; omega; rw [h4] at h5; simp at h5)]
       exact hinv.2.2.2 h
     have hglen : (az.take P ++ (cs.drop P).take (j - P)).length = j := (by omega)
     have hhy := zF (gl := gl) es w3 (sg := eB es) (ps := ps) (c := c) hcc 2 0 hn hus [] (az.take (P + 1 + cc.length)) P kA mA sA lA aA (az.take P ++ (cs.drop P).take (j - P)) kC mC sC lC aC hh (fun x hx => ha x (List.mem_of_mem_take hx)) (fun x hx => (List.mem_append.1 hx).elim (fun h => ha x (List.mem_of_mem_take h)) (fun h => hqA x (List.mem_of_mem_drop (List.mem_of_mem_take h)))) (hqA _ (List.mem_of_getElem? hgC)) (hAW.up (by omega)) (by omega) (by have := rX az (P + 1 + cc.length); omega) (by omega) (fun x hx => (List.mem_append.1 hx).elim (fun h => by obtain ⟨i, hi⟩ := List.getElem?_of_mem (List.mem_of_mem_take h); have := bC hi; omega) (fun h => by obtain ⟨i, hi⟩ := List.getElem?_of_mem (List.mem_of_mem_drop (List.mem_of_mem_take h)); have := bC hi; omega)) (by omega) (by simp only [ae.size]; omega) (by omega)
     have hsl : (ba az).take ((P : Int) + 1 + ((gV cc).length : Int)).toNat = ba (az.take (P + 1 + cc.length)) := (by rw [show (P : Int) + 1 + ((gV cc).length : Int) = ((P + 1 + cc.length : Nat) : Int) by omega, mP])
     refine gz [0, 1, 2, 3, 4] mixed ?_;refine A1 5 rfl (cw ⟨_, rfl, ?_⟩);refine ga [6] ?_;refine A1 7 rfl (cw ⟨_, rfl, ?_⟩);refine A1 8 rfl (gT bE bK rfl rfl rfl rfl rfl rfl (by omega) (hsl) ⟨_, rfl, ?_⟩);refine ga [9, 10, 11] ?_;refine A1 12 rfl (bV bE bK ⟨_, rfl, ?_⟩ (he := by exact (rfl)));refine ga [13, 14, 15, 16] ?_;refine A1 17 rfl (bV bE bK ⟨_, rfl, ?_⟩ (he := by exact (bY hgC)));refine ga [18] ?_;refine A2 19 rfl (ay Ic rfl rfl rfl rfl (hhy) [0, 1] (bh (cu .nil)) rfl rfl rfl rfl (an (bd (an (an (bd (bd (bd .nil))))))) (fun s ob' hq => ?_) (fun s ob' hq => ?_))
     rotate_left
     ·obtain ⟨_, _, hq1, _⟩ := hq; cases hq1
     obtain ⟨⟨kG, mG, sG, lG, aG⟩, w5, hq1, rfl, hGz, hGw⟩ := hq; cases hq1; refine ⟨_, _, _, _, _, rfl, rfl, rfl, rfl, rfl, ?_⟩;refine A2 20 rfl (cv nK rfl rfl (cR k8 m8 s8 l8 a8 kG mG sG lG aG) (bd (an .nil)) ?_);refine A2 21 rfl (eD bM ?_);refine aQ ?_;refine bk (w5, 3, 0, .empty, [], [.mk k8 m8 s8 l8 a8, .mk kG mG sG lG aG]) rfl ?_ [0, 1, 2, 3, 4, 5, 6, 7, 8, 9, 10, 11, 12] mz
     ·refine ⟨by have h3 := hinv.2.2.1; rw [wq]; omega, fun h => ?_⟩
      obtain ⟨h3, h4⟩ := hGw h
      rw [CE (by omega) hXj hCj (by first | exact h34.2 | omega), nL, ← hinv.2.2.2 h3, h4]
    case B15 =>
     rintro ⟨w4, kE, mE, sE, lE, aE⟩ hcut
     try dsimp only at hcut
     refine kc 0 [28, 26, 27, 24, 19, 16, 14, 13, 12, 10, 6, 0, 2] 2 ?_
     have hcut0 := hcut
     refine kc 6 [202, 28, 26, 27, 24, 19, 16, 14, 13, 12, 10, 6, 0, 2] 0 ?_;refine xc (ι := Unit) (fun _ => [(26, .own 11 5 (ba (az.take P ++ (cs.drop P).take (j + 1 - P))))]) [28, 27, 24, 19, 16, 14, 13, 12, 10, 6, 0, 2] (fun _ => True) rfl ?A16 ?B16
     case A16 =>
      refine cJ (fun h36 => ?_) (fun h36 => ?_)
      ·refine gc 1 ?_;refine bi (()) rfl ?_ ?_
       ·trivial
       ·refine mo ?_ (eh rfl (by exact Fit.of_eq (by first | (rw [hg1 (by omega)]; rfl) | (rw [(hg2 (by omega)).1, (hg2 (by omega)).2]; rfl))) (aH (aH (aH (aH (aH (aH (aH (aH (aH (aH (aH (aH dF)))))))))))))
        repeat (first | exact cW | refine bh ?_ | refine cu ?_)
      refine gc 4 ?_;refine o1 (bV bE bK ?_ (he := by exact (bY hgC)));refine go 1 ?_;refine oc (gR fA [.tmp 207] bM ?_);refine oc (nU fA ?_);refine go 2 ?_;refine bi (()) rfl ?_ ?_
      ·trivial
      ·refine mo ?_ (eh rfl (by exact Fit.of_eq (by first | (rw [hg1 (by omega)]; rfl) | (rw [(hg2 (by omega)).1, (hg2 (by omega)).2]; rfl))) (aH (aH (aH (aH (aH (aH (aH (aH (aH (aH (aH (aH dF)))))))))))))
       repeat (first | exact cW | refine bh ?_ | refine cu ?_)
     case B16 =>
      rintro _ hcut
      try dsimp only at hcut
      refine kc 0 [26, 28, 27, 24, 19, 16, 14, 13, 12, 10, 6, 0, 2] 3 ?_;refine o1 (bV bE bK ?_ (he := by exact (rfl)));refine ko 5 [26, 28, 27, 24, 19, 16, 14, 13, 12, 10, 6, 0, 2] 2 ?_;refine o1 (cw ?_);refine go 2 ?_;refine bk (j + 1, w4, ⟨kB, mB, sB, lB, aB⟩, kE, mE, sE, lE, aE) rfl ?_ [0, 1, 2, 3, 4, 5, 6, 7, 8, 9, 10, 11, 12] mz
      exact ⟨⟨by omega, he2, hcut0.1, hcut0.2⟩, show cs.length - (j + 1) < cs.length - j by omega⟩
end Go.Proofs.YtndbnldjidciiaaGreatDoor
namespace Go.Proofs.YtndbnldjidciiaaGreatDoor
open Go Go.Vd Go.RowKit
attribute [local irreducible] bl br de aj bI cY
variable {g gl : Nat → List D}
variable {es : List cq} {ps : List ByteArray} {c : Int} {most d d' : Nat} {u : ae}
theorem Il (hE : cP es) (hc : 0 ≤ c) {n : Nat} {e : cq} (he : e ∈ es) (hk : e.d.k = 3) {h : ae} {az : List ae} (hH : Wt (eB es) ps h c) (hA : ∀ x ∈ az, Wt (eB es) ps x c) (hd : d ≤ most) (h5 : RI es most (RW es most n) e h az d (.step u d')) :
 Wt (eB es) ps u c ∧ d < d' ∧ d' ≤ most ∧ u.size ≤ 20000 := by
 rcases h5 with ⟨_, h6⟩ | ⟨x, g1, ⟨_, h6⟩ | ⟨mj, d1, g2, ⟨_, h6⟩ | ⟨i, cty, us2, g3, ⟨_, h6⟩ | ⟨g4, g5, g6, h6⟩⟩⟩⟩
 ·cases h6
 ·cases h6
 ·cases h6
 ·cases h6
 ·cases h6
  obtain ⟨q1, q2, q3, q4⟩ := Ar hE hc n g2 hd (hA x (List.mem_of_getElem? g1))
  obtain ⟨_, qH, qA, _⟩ := Wt.spine _ (Nat.le_refl _) q1
  obtain ⟨w1, w2, w3, w4, w5, w6, w7⟩ := rH hE he qH g3
  have hI := CC (es := es) hc (hE.vU _ he) hk hH hA qA w2 (by omega) w4 w6 (List.getElem?_eq_some_iff.1 g1).1 w1
  exact ⟨hI, by omega, by omega, g6⟩
structure yo (es : List cq) (ps : List ByteArray) (c : Int) (most N : Nat) (t0 : ae) (d0 q : Nat) (w t : Bool) (d : Nat) (cur : ae) : Prop where
 qn : q ≤ N
 dl : d0 ≤ d
 dm : d ≤ most
 ok : w = false → t = false ∧ Wt (eB es) ps cur c ∧ cur.size + 30000 * (most - d) < q ∧ cur.size + 30000 * (most - d) ≤ 1000000000000 ∧ ∀ o, RW es most q cur d o → RW es most N t0 d0 o
variable {N : Nat}
theorem yo.step {t0 : ae} {d0 q : Nat} {w2 t2 : Bool} {cur : ae} (h : yo es ps c most N t0 d0 (q + 1) false false d cur) (h1 : d < d' ∨ w2 = true) (h3 : d ≤ d') (h2 : d' ≤ most)
 (hu : w2 = false → t2 = false ∧ Wt (eB es) ps u c ∧ u.size ≤ cur.size + 20000 ∧ ∀ o, RW es most q u d' o → RW es most (q + 1) cur d o) : yo es ps c most N t0 d0 q w2 t2 d' u := by
 obtain ⟨_, hw, g1, g2, g3⟩ := h.ok rfl
 have := h.qn; have := h.dl; have := h.dm
 refine ⟨by omega, by omega, h2, fun e => ?_⟩
 obtain ⟨e1, e2, e3, e4⟩ := hu e
 have h1 : d < d' := h1.resolve_right (by rw [e]; decide)
 exact ⟨e1, e2, by omega, by omega, fun o ho => g3 o (e4 o ho)⟩
set_option maxHeartbeats 1600000 in
theorem Da (hE : cP es) (hcc : 0 ≤ c ∧ c ≤ 1099511627776) (hm : most ≤ 1000000) (ih : ∀ n, n < N → C5 gl es ps c most n) : C5 gl es ps c most N := by
 intro k m s ls args d0 pr hdm0 hz0 hz1 hw0
 obtain ⟨T0, hT0⟩ : ∃ x, x = ae.mk k m s ls args := ⟨_, rfl⟩
 rw [← hT0] at hz0 hz1 hw0
 rw [show Gb es most N (.mk k m s ls args) d0 pr = Gb es most N T0 d0 pr by rw [hT0]]
 refine bS Tryz.func51 Tryz.ntmps51 3 ?_;refine kc 8 [6, 4, 0, 2] 0 ?_;refine lp (ι := Nat × Bool × Bool × Nat × Int × Int × ByteArray × List aJ × List ae) (fun ⟨q, w1, t1, d1, k1, m1, s1, l1, a1⟩ => []) (fun ⟨q, w1, t1, d1, k1, m1, s1, l1, a1⟩ => [aP es w1, aN, gZ d1 most t1 pr, tO k1 m1 s1 l1 a1, zO]) [6, 4, 0, 2] (fun ⟨q, w1, t1, d1, k1, m1, s1, l1, a1⟩ => yo es ps c most N T0 d0 q w1 t1 d1 (.mk k1 m1 s1 l1 a1)) (fun ⟨q, w1, t1, d1, k1, m1, s1, l1, a1⟩ => q) ((N, false, false, d0, k, m, s, ls, args)) ([0, 1, 2, 3, 4]) rfl ?I4 ?M4 ?H4
 case I4 =>
  show yo es ps c most N T0 d0 N false false d0 (ae.mk k m s ls args); rw [← hT0]; exact ⟨Nat.le_refl _, Nat.le_refl _, hdm0, fun _ => ⟨rfl, hw0, hz0, hz1, fun _ h => h⟩⟩
 case M4 =>
  exact mz
 case H4 =>
  rintro ⟨q, w1, t1, d1, k1, m1, s1, l1, a1⟩ hinv
  try dsimp only at hinv
  refine kc 0 [6, 4, 0, 2] 9 ?_
  refine' oa (yt := 27) (d := 22) 5 ?a1 ?b1 ?_
  case a1 =>
   intro hc hK
   refine go 5 ?_; exact hK [_, _, _, _, _] rfl rfl
  case b1 =>
   intro _ hK; refine go 5 ?_; exact hK [_, _, _, _, _] rfl
  refine go 2 ?_;refine cJ (fun h1 => ?_) (fun h1 => ?_)
  ·refine kc 5 [6, 4] 7 ?_;refine eo ((ae.mk k1 m1 s1 l1 a1).d) [0, 1, 2] [aP es w1, aN, gZ d1 most t1 pr] ?_
   ·refine ⟨.mk k1 m1 s1 l1 a1, d1, t1, w1, rfl, rfl, hinv.dl, hinv.dm, fun h => ?_⟩
    have h3 := (hinv.ok h).1
    rw [h, h3] at h1; simp at h1
  refine kc 4 [6, 4, 0, 2] 0 ?_
  have ht1 : t1 = false := (by cases t1 <;> first | rfl | simp at h1)
  have hw1 : w1 = false := (by cases w1 <;> first | rfl | simp at h1)
  subst ht1 hw1
  obtain ⟨_, hWt, hg1, hg2, hRR⟩ := hinv.ok rfl
  have hd1 := hinv.dl
  have hdm := hinv.dm
  have hqn := hinv.qn
  obtain ⟨q, rfl⟩ : ∃ q', q = q' + 1 := ⟨q - 1, by omega⟩; obtain ⟨hok, hH, hA, hsp⟩ := Wt.spine _ (Nat.le_refl _) hWt
  have hspn := et (gl := gl) k1 m1 s1 l1 a1 hok (by omega)
  have hz := mS hWt
  obtain ⟨cur, hcur⟩ : ∃ x, x = ae.mk k1 m1 s1 l1 a1 := ⟨_, rfl⟩
  rw [← hcur] at hspn hok hH hA hz hsp hWt hg1 hg2 hRR hinv
  rcases hS : bt cur with ⟨⟨kh, mh, sh, lh, ah⟩, az⟩
  rw [hS] at hspn hH hA hz hsp
  dsimp only at hspn hH hA hz hsp
  rw [hcur] at hspn
  have hal := bf az
  have has := bA az
  have hll := bR lh
  have hstuck : EE es (.mk kh mh sh lh ah) az → RW es most (q + 1) cur d1 (.ok cur d1) := fun h => .inr (.inr (.inr (.inr ⟨by rw [hS]; exact h, rfl⟩)))
  refine gc 2 ?_;refine oc (cv vX rfl rfl (hspn) (bd .nil) ?_);refine ko 15 [35, 8, 7, 6, 4, 0, 2] 0 ?_;refine xo (ι := Bool × Bool × Nat) (fun ⟨w3, t3, d3⟩ => []) (fun ⟨w3, t3, d3⟩ => [aP es w3, aN, gZ d3 most t3 pr, tO k1 m1 s1 l1 a1, zO]) [6, 4] (fun ⟨w3, t3, d3⟩ => d1 ≤ d3 ∧ d3 ≤ most ∧ (w3 = false → (t3 = true ∧ RW es most (q + 1) cur d1 .dU) ∨ (t3 = false ∧ RW es most (q + 1) cur d1 (.ok cur d3)))) rfl ?A5 ?B5
  case A5 =>
   refine gc 7 ?_;refine cj (fun h4 => ?_) (fun h4 => ?_)
   ·refine gc 8 ?_;refine cj (fun h5 => ?_) (fun h5 => ?_)
    ·refine kc 0 [6, 4] 14 ?_;refine eo ((ae.mk k1 m1 s1 l1 a1).d) [0, 1, 2] [aP es false, aN, gZ d1 most false pr] ?_
     ·refine ⟨.mk k1 m1 s1 l1 a1, d1, false, false, rfl, rfl, hd1, hdm, fun _ => .inr ⟨rfl, ?_⟩⟩
      obtain rfl : az = [] := List.eq_nil_of_length_eq_zero (by omega)
      rw [← hcur]
      refine hRR _ (hstuck ⟨fun h => h.2 rfl, fun h => ?_, fun s us h => ?_⟩)
      ·have h3 : kh = 6 := h; omega
      ·cases h; omega
    refine kc 2 [8, 7, 6, 4, 0, 2] 3 ?_;refine oc (ay Ht rfl rfl rfl rfl (mQ d1 most false pr (by omega)) [2] (bh .nil) rfl rfl rfl rfl (an .nil) (fun s ob' hq => ?_) (fun s ob' hq => ?_))
    rotate_left
    ·obtain ⟨_, _, _, hq1, _⟩ := hq; cases hq1
    obtain ⟨ok, d2, t2, hq1, rfl, hst⟩ := hq; cases hq1; refine ⟨_, _, _, _, _, rfl, rfl, rfl, rfl, rfl, ?_⟩;refine go 10 ?_;refine cj (fun h8 => ?_) (fun h8 => ?_)
    ·refine kc 0 [6, 4] 14 ?_;refine eo ((ae.mk k1 m1 s1 l1 a1).d) [0, 1, 2] [aP es false, aN, gZ d2 most t2 pr] ?_
     ·obtain rfl : kh = 4 := (by omega)
      obtain ⟨A, b, rfl, rfl, rfl, rfl, _, _⟩ := hH.two (.inr (.inl rfl)); obtain ⟨x, r, rfl⟩ : ∃ x r, az = x :: r := (by cases az with | nil => exact absurd rfl h5 | cons x r => exact ⟨x, r, rfl⟩)
      rcases hst with ⟨h3, h4', h5', h6⟩ | ⟨h3, _⟩
      ·exact ⟨.mk k1 m1 s1 l1 a1, d2, t2, false, rfl, rfl, by omega, by omega, fun _ => .inl ⟨h6, hRR _ (.inl ⟨A, b, x, r, by rw [hS], by rw [hS], .inl ⟨h4', rfl⟩⟩)⟩⟩
      ·rw [h3] at h8; simp at h8
    refine kc 3 [8, 7, 6, 4, 0, 2] 0 ?_
    have hst' : d1 < most ∧ d2 = d1 + 1 ∧ t2 = false := (by
     rcases hst with ⟨h3, _⟩ | ⟨_, h4', h5', h6⟩
     ·rw [h3] at h8; simp at h8
     ·exact ⟨h4', h5', h6⟩)
    obtain ⟨hlt, hd2, ht2⟩ := hst'; obtain rfl : kh = 4 := (by omega); obtain ⟨⟨kA, mA, sA, lA, aA⟩, ⟨kb, mb, sb, lb, ab⟩, rfl, rfl, rfl, rfl, hA1, hB1⟩ := hH.two (.inr (.inl rfl))
    rw [if_neg (by decide)] at hB1
    obtain ⟨⟨kx, mx, sx, lx, ax⟩, r, rfl⟩ : ∃ x r, az = x :: r := (by cases az with | nil => exact absurd rfl h5 | cons x r => exact ⟨x, r, rfl⟩)
    have hX1 := hA _ List.mem_cons_self
    have hzz := hz
    rw [show (ae.mk 4 0 .empty [] [.mk kA mA sA lA aA, .mk kb mb sb lb ab]).size = 1 + 0 + ((ae.mk kA mA sA lA aA).size + ((ae.mk kb mb sb lb ab).size + 0)) from rfl, show ai (.mk kx mx sx lx ax :: r) = (ae.mk kx mx sx lx ax).size + ai r from rfl, List.length_cons] at hzz
    have hrl := bA r
    refine gz [0, 1, 2] mixed ?_;refine A1 3 rfl (bV bE bK ⟨_, rfl, ?_⟩ (he := by exact (rfl)));refine ga [4, 5] ?_;refine A1 6 rfl (bV bE bK ⟨_, rfl, ?_⟩ (he := by exact (rfl)));refine ga [7, 9] ?_;refine A1 10 rfl (u0 bE bK rfl rfl rfl rfl rfl rfl (by omega) (rfl) ⟨_, rfl, ?_⟩);refine A2 8 rfl (ay BQ rfl rfl rfl rfl (mH es false (B := 4398046511104) (B' := 4398046511104) (by omega) (by omega) kb mb sb lb ab kx mx sx lx ax (by omega) (by omega) (hB1.sh (by omega)) (hX1.sh (by omega))) [0, 1] (bh (cu .nil)) rfl rfl rfl rfl (an (bd (bd .nil))) (fun s ob' hq => ?_) (fun s ob' hq => ?_))
    rotate_left
    ·obtain ⟨_, _, hq1, _⟩ := hq; cases hq1
    obtain ⟨⟨k2, m2, s2, l2, a2⟩, w2, hq1, rfl, hw2⟩ := hq; cases hq1; obtain ⟨kU, mU, sU, lU, aU, hU⟩ := ae.case (bN (.mk k2 m2 s2 l2 a2) r)
    have hap := n9 (gl := gl) k2 m2 s2 l2 a2 r (by omega)
    rw [hU] at hap
    have hnx : yo es ps c most N T0 d0 q w2 t2 d2 (.mk kU mU sU lU aU) := (by
     rw [← hU]
     refine hinv.step (.inl (by omega)) (by omega) (by omega) fun hw => ?_
     rcases hw2 with ⟨_, _, e1, e2⟩ | ⟨e1, _⟩
     ·refine ⟨ht2, Wt.apply (by rw [e1]; exact Wt.sub hcc.1 hB1 hX1) fun x hx => hA x (List.mem_cons_of_mem _ hx), by rw [cI]; omega, fun o ho => ?_⟩
      exact .inl ⟨.mk kA mA sA lA aA, .mk kb mb sb lb ab, .mk kx mx sx lx ax, r, by rw [hS], by rw [hS], .inr ⟨hlt, by rw [← e1]; exact e2, by rw [← e1, ← hd2]; exact ho⟩⟩
     ·rw [e1] at hw; cases hw)
    refine ⟨_, _, _, _, _, rfl, rfl, rfl, rfl, rfl, ?_⟩;refine A2 11 rfl (cv Js rfl rfl (hap) (an (an .nil)) ?_);refine A2 12 rfl (eD bM ?_);refine aQ ?_;refine ge 5 ?_;refine bk (q, w2, t2, d2, kU, mU, sU, lU, aU) rfl ?_ [0, 1, 2, 3, 4] mz
    exact ⟨hnx, show q < q + 1 by omega⟩
   refine gc 6 ?_;refine cj (fun h11 => ?_) (fun h11 => ?_)
   ·refine kc 0 [8, 7, 6, 4, 0, 2] 3 ?_;refine oc (ay Ht rfl rfl rfl rfl (mQ d1 most false pr (by omega)) [2] (bh .nil) rfl rfl rfl rfl (an .nil) (fun s ob' hq => ?_) (fun s ob' hq => ?_))
    rotate_left
    ·obtain ⟨_, _, _, hq1, _⟩ := hq; cases hq1
    obtain ⟨ok, d2, t2, hq1, rfl, hst⟩ := hq; cases hq1; refine ⟨_, _, _, _, _, rfl, rfl, rfl, rfl, rfl, ?_⟩;refine go 10 ?_;refine cj (fun h13 => ?_) (fun h13 => ?_)
    ·refine kc 0 [6, 4] 14 ?_;refine eo ((ae.mk k1 m1 s1 l1 a1).d) [0, 1, 2] [aP es false, aN, gZ d2 most t2 pr] ?_
     ·obtain rfl : kh = 6 := (by omega)
      obtain ⟨A, v, b, rfl, rfl, rfl, rfl, _, _, _⟩ := hH.three rfl
      rcases hst with ⟨h3, h4', h5', h6⟩ | ⟨h3, _⟩
      ·exact ⟨.mk k1 m1 s1 l1 a1, d2, t2, false, rfl, rfl, by omega, by omega, fun _ => .inl ⟨h6, hRR _ (.inr (.inl ⟨A, v, b, by rw [hS], .inl ⟨h4', rfl⟩⟩))⟩⟩
      ·rw [h3] at h13; simp at h13
    refine kc 3 [8, 7, 6, 4, 0, 2] 0 ?_
    have hst' : d1 < most ∧ d2 = d1 + 1 ∧ t2 = false := (by
     rcases hst with ⟨h3, _⟩ | ⟨_, h4', h5', h6⟩
     ·rw [h3] at h13; simp at h13
     ·exact ⟨h4', h5', h6⟩)
    obtain ⟨hlt, hd2, ht2⟩ := hst'; obtain rfl : kh = 6 := (by omega); obtain ⟨⟨kA, mA, sA, lA, aA⟩, ⟨kx, mx, sx, lx, ax⟩, ⟨kb, mb, sb, lb, ab⟩, rfl, rfl, rfl, rfl, hA1, hX1, hB1⟩ := hH.three rfl
    have hzz := hz
    rw [show (ae.mk 6 0 .empty [] [.mk kA mA sA lA aA, .mk kx mx sx lx ax, .mk kb mb sb lb ab]).size = 1 + 0 + ((ae.mk kA mA sA lA aA).size + ((ae.mk kx mx sx lx ax).size + ((ae.mk kb mb sb lb ab).size + 0))) from rfl] at hzz
    refine gz [0, 1, 2] mixed ?_;refine A1 3 rfl (bV bE bK ⟨_, rfl, ?_⟩ (he := by exact (rfl)));refine ga [4, 5, 6] ?_;refine A1 7 rfl (bV bE bK ⟨_, rfl, ?_⟩ (he := by exact (rfl)));refine ga [8, 10] ?_;refine A2 9 rfl (ay BQ rfl rfl rfl rfl (mH es false (B := 4398046511104) (B' := 4398046511104) (by omega) (by omega) kb mb sb lb ab kx mx sx lx ax (by omega) (by omega) (hB1.sh (by omega)) (hX1.sh (by omega))) [0, 1] (bh (cu .nil)) rfl rfl rfl rfl (an (bd (bd .nil))) (fun s ob' hq => ?_) (fun s ob' hq => ?_))
    rotate_left
    ·obtain ⟨_, _, hq1, _⟩ := hq; cases hq1
    obtain ⟨⟨k2, m2, s2, l2, a2⟩, w2, hq1, rfl, hw2⟩ := hq; cases hq1; obtain ⟨kU, mU, sU, lU, aU, hU⟩ := ae.case (bN (.mk k2 m2 s2 l2 a2) az)
    have hap := n9 (gl := gl) k2 m2 s2 l2 a2 az (by omega)
    rw [hU] at hap
    have hnx : yo es ps c most N T0 d0 q w2 t2 d2 (.mk kU mU sU lU aU) := (by
     rw [← hU]
     refine hinv.step (.inl (by omega)) (by omega) (by omega) fun hw => ?_
     rcases hw2 with ⟨_, _, e1, e2⟩ | ⟨e1, _⟩
     ·refine ⟨ht2, Wt.apply (by rw [e1]; exact Wt.sub hcc.1 hB1 hX1) hA, by rw [cI]; omega, fun o ho => ?_⟩
      exact .inr (.inl ⟨.mk kA mA sA lA aA, .mk kx mx sx lx ax, .mk kb mb sb lb ab, by rw [hS], .inr ⟨hlt, by rw [← e1]; exact e2, by rw [hS, ← e1, ← hd2]; exact ho⟩⟩)
     ·rw [e1] at hw; cases hw)
    refine ⟨_, _, _, _, _, rfl, rfl, rfl, rfl, rfl, ?_⟩;refine A2 11 rfl (cv Js rfl rfl (hap) (an (an .nil)) ?_);refine A2 12 rfl (eD bM ?_);refine aQ ?_;refine ge 5 ?_;refine bk (q, w2, t2, d2, kU, mU, sU, lU, aU) rfl ?_ [0, 1, 2, 3, 4] mz
    exact ⟨hnx, show q < q + 1 by omega⟩
   refine kc 0 [35, 8, 7, 6, 4, 0, 2] 6 ?_;refine cJ (fun h16 => ?_) (fun h16 => ?_)
   ·refine gc 2 ?_;refine bk (false, false, d1) rfl ?_ [0, 1, 2, 3, 4] mz
    exact ⟨Nat.le_refl _, hdm, fun _ => .inr ⟨rfl, hstuck ⟨fun h => (by have h3 : kh = 4 := h.1; omega), fun h => (by have h3 : kh = 6 := h; omega), fun s us h => by cases h; omega⟩⟩⟩
   refine gc 1 ?_; obtain rfl : kh = 2 := (by omega); obtain ⟨rfl, rfl⟩ : mh = 0 ∧ ah = [] := (by
    rcases hH.2.2 with h3 | h3 | h3 | h3 | h3
    ·omega
    ·omega
    ·exact ⟨h3.2.1, List.eq_nil_of_length_eq_zero h3.2.2.2⟩
    ·omega
    ·omega)
   have hfs := find_spec (gl := gl) es false sh hE.b
   rcases hF : bB sh es with ⟨kf, ⟨⟨kg, sg', pg, ⟨u1, v1, x1, y1, z1⟩, ⟨u2, v2, x2, y2, z2⟩, ag, cg⟩, rg, ⟨u3, v3, x3, y3, z3⟩⟩, jf⟩
   rw [hF] at hfs
   dsimp only at hfs
   have hzz := hz
   rw [show (ae.mk 2 0 sh lh []).size = 1 + aS lh + 0 from rfl] at hzz
   have hplen := bU pg
   have hrlen := bU rg
   have hlsz : ∀ u ∈ lh, u.size ≤ 1099511627776 := (fun u hu => by
    obtain ⟨i, hi⟩ := List.getElem?_of_mem hu
    have h3 := dN hi
    omega)
   refine gc 4 ?_;refine oc (ck Hy rfl rfl (hfs) [0, 1] rfl (bh (cu .nil)) (an (an .nil)) ?_);refine ko 11 [11, 12, 8, 7, 6, 4, 0, 2] 5 ?_
   refine' oa (yt := 98) (d := 90) 8 ?a2 ?b2 ?_
   case a2 =>
    intro hc hK
    refine go 8 ?_; exact hK [_, _, _, _, _, _, _, _] rfl rfl
   case b2 =>
    intro _ hK; refine go 8 ?_; exact hK [_, _, _, _, _, _, _, _] rfl
   refine go 2 ?_;refine cj (fun h18 => ?_) (fun h18 => ?_)
   ·refine kc 0 [12, 8, 7, 6, 4, 0, 2] 3 ?_;refine oc (ay Ht rfl rfl rfl rfl (mQ d1 most false pr (by omega)) [2] (bh .nil) rfl rfl rfl rfl (an .nil) (fun s ob' hq => ?_) (fun s ob' hq => ?_))
    rotate_left
    ·obtain ⟨_, _, _, hq1, _⟩ := hq; cases hq1
    obtain ⟨ok, d2, t2, hq1, rfl, hst⟩ := hq; cases hq1; refine ⟨_, _, _, _, _, rfl, rfl, rfl, rfl, rfl, ?_⟩;refine go 10 ?_;refine cj (fun h20 => ?_) (fun h20 => ?_)
    ·refine kc 0 [6, 4] 15 ?_;refine eo ((ae.mk k1 m1 s1 l1 a1).d) [0, 1, 2] [aP es false, aN, gZ d2 most t2 pr] ?_
     ·have h18' : kf = 2 ∧ pg.length = lh.length := (by refine ⟨?_, ?_⟩ <;> omega)
      obtain ⟨rfl, hpl⟩ := h18'
      rcases hst with ⟨h3, h4', h5', h6⟩ | ⟨h3, _⟩
      ·exact ⟨.mk k1 m1 s1 l1 a1, d2, t2, false, rfl, rfl, by omega, by omega, fun _ => .inl ⟨h6, hRR _ (.inr (.inr (.inl ⟨sh, lh, _, jf, by rw [hS], hF, hpl, .inl ⟨h4', rfl⟩⟩)))⟩⟩
      ·rw [h3] at h20; simp at h20
    refine kc 3 [12, 8, 7, 6, 4, 0, 2] 0 ?_
    have hst' : d1 < most ∧ d2 = d1 + 1 ∧ t2 = false := (by
     rcases hst with ⟨h3, _⟩ | ⟨_, h4', h5', h6⟩
     ·rw [h3] at h20; simp at h20
     ·exact ⟨h4', h5', h6⟩)
    obtain ⟨hlt, hd2, ht2⟩ := hst'
    have h18' : kf = 2 ∧ pg.length = lh.length := (by refine ⟨?_, ?_⟩ <;> omega)
    obtain ⟨rfl, hpl⟩ := h18'
    have hin := jQ hF (by decide)
    have hkk := (by
     rcases iG hF (by decide) with h | h | h
     ·exact h.symm
     ·omega
     ·omega : (⟨⟨kg, sg', pg, ⟨u1, v1, x1, y1, z1⟩, ⟨u2, v2, x2, y2, z2⟩, ag, cg⟩, rg, ⟨u3, v3, x3, y3, z3⟩⟩ : cq).d.k = 2)
    have hent := hE.vU _ hin
    obtain ⟨hvw, hvz⟩ := hent.vl hkk
    have hp6 := hent.ps
    simp only [dp.vl, dp.ps] at hvw hvz hp6
    have hvW := (hvw.Gs (us := lh) (by omega) hH.1).up hcc.1
    refine gc 10 ?_;refine oc (ay Hw rfl rfl rfl rfl (pa es false pg lh (by omega) (by omega) hlsz u2 v2 x2 y2 z2 (by omega)) [0, 1] (bh (cu .nil)) rfl rfl rfl rfl (an (bd (an (an .nil)))) (fun s ob' hq => ?_) (fun s ob' hq => ?_))
    rotate_left
    ·obtain ⟨_, _, hq1, _⟩ := hq; cases hq1
    obtain ⟨⟨k2, m2, s2, l2, a2⟩, w2, hq1, rfl, hw2⟩ := hq; cases hq1; obtain ⟨kU, mU, sU, lU, aU, hU⟩ := ae.case (bN (.mk k2 m2 s2 l2 a2) az)
    have hap := n9 (gl := gl) k2 m2 s2 l2 a2 az (by omega)
    rw [hU] at hap
    have hnx : yo es ps c most N T0 d0 q w2 t2 d2 (.mk kU mU sU lU aU) := (by
     rw [← hU]
     refine hinv.step (.inl (by omega)) (by omega) (by omega) fun hw => ?_
     rcases hw2 with ⟨_, _, e1, e2⟩ | ⟨e1, _⟩
     ·refine ⟨ht2, Wt.apply (by rw [e1]; exact hvW) hA, by rw [cI]; omega, fun o ho => ?_⟩
      exact .inr (.inr (.inl ⟨sh, lh, _, jf, by rw [hS], hF, hpl, .inr ⟨hlt, by simp only [dp.ps, dp.vl]; rw [← e1]; exact e2, by simp only [dp.ps, dp.vl]; rw [hS, ← e1, ← hd2]; exact ho⟩⟩))
     ·rw [e1] at hw; cases hw)
    refine ⟨_, _, _, _, _, rfl, rfl, rfl, rfl, rfl, ?_⟩;refine go 1 ?_;refine oc (cv Js rfl rfl (hap) (an (an .nil)) ?_);refine go 8 ?_;refine bk (q, w2, t2, d2, kU, mU, sU, lU, aU) rfl ?_ [0, 1, 2, 3, 4] mz
    exact ⟨hnx, show q < q + 1 by omega⟩
   refine kc 2 [11, 12, 8, 7, 6, 4, 0, 2] 5 ?_
   refine' oa (yt := 126) (d := 119) 7 ?a3 ?b3 ?_
   case a3 =>
    intro hc hK
    refine go 7 ?_
    exact hK [_, _, _, _, _, _, _] rfl rfl
   case b3 =>
    intro _ hK; refine go 7 ?_; exact hK [_, _, _, _, _, _, _] rfl
   refine go 2 ?_;refine cJ (fun h23 => ?_) (fun h23 => ?_)
   ·refine gc 2 ?_;refine bk (false, false, d1) rfl ?_ [0, 1, 2, 3, 4] mz
    ·refine ⟨Nat.le_refl _, hdm, fun _ => .inr ⟨rfl, hstuck ⟨fun h => (by have h3 : (2 : Int) = 4 := h.1; omega), fun h => (by have h3 : (2 : Int) = 6 := h; omega), fun s us h => ?_⟩⟩⟩
     cases h
     rw [hF]
     refine ⟨fun h => ?_, fun h => ?_⟩ <;> (obtain ⟨h3, h4'⟩ := h; simp only [dp.ps] at h3 h4'; omega)
   refine kc 1 [12, 8, 7, 6, 4, 0, 2] 0 ?_
   have h23' : kf = 5 ∧ rg.length = lh.length := (by refine ⟨?_, ?_⟩ <;> omega)
   obtain ⟨rfl, hpl⟩ := h23'
   have hin := jQ hF (by decide)
   have hkk := (by
    rcases iG hF (by decide) with h | h | h
    ·rcases (hE.vU _ hin).k with h' | h' | h' <;> omega
    ·omega
    ·exact h.2 : (⟨⟨kg, sg', pg, ⟨u1, v1, x1, y1, z1⟩, ⟨u2, v2, x2, y2, z2⟩, ag, cg⟩, rg, ⟨u3, v3, x3, y3, z3⟩⟩ : cq).d.k = 3)
   have hio := DH (gl := gl) hE (ps := ps) (c := c) hcc hm (ih q (by omega)) kg sg' pg u1 v1 x1 y1 z1 u2 v2 x2 y2 z2 ag cg rg u3 v3 x3 y3 z3 hin hkk sh lh az d1 pr hdm hH (by omega) hA (by omega) (fun x hx => by
    obtain ⟨i, hi⟩ := List.getElem?_of_mem hx
    have h3 := bC hi
    omega)
   refine gc 6 ?_;refine oc (ay Lj rfl rfl rfl rfl (hio) [0, 1, 2] (bh (cu (bh .nil))) rfl rfl rfl rfl (an (bd (an (bd (an .nil))))) (fun s ob' hq => ?_) (fun s ob' hq => ?_))
   rotate_left
   ·obtain ⟨_, _, _, _, _, hq1, _⟩ := hq; cases hq1
   obtain ⟨⟨kU, mU, sU, lU, aU⟩, ok, d2, t2, w2, hq1, rfl, hq3, hq4, hres⟩ := hq; cases hq1
   have hio2 : ∀ io, RI es most (RW es most q) _ (.mk 2 0 sh lh []) az d1 io → ∀ o, Kf (RW es most q) cur o io → RW es most (q + 1) cur d1 o := (fun io h3 o h4' => .inr (.inr (.inr (.inl ⟨sh, lh, _, jf, io, by rw [hS], hF, hpl, by rw [hS]; exact h3, h4'⟩))))
   refine ⟨_, _, _, _, _, rfl, rfl, rfl, rfl, rfl, ?_⟩;refine ko 8 [16, 15, 6, 4, 0, 2] 5 ?_;refine cJ (fun h25 => ?_) (fun h25 => ?_)
   ·refine gc 2 ?_;refine bk (w2, t2, d2) rfl ?_ [0, 1, 2, 3, 4] mz
    ·refine ⟨hq3, hq4, fun hw => ?_⟩
     rcases hres hw with ⟨h3, _, h4'⟩ | ⟨h3, _, h4'⟩ | ⟨_, h3, _⟩
     ·exact .inl ⟨h3, hio2 _ h4' _ rfl⟩
     ·exact .inr ⟨h3, hio2 _ h4' _ rfl⟩
     ·rw [h3] at h25; simp at h25
   refine gc 1 ?_
   have hok : ok = true := (by first | exact h25 | simpa using h25)
   subst hok
   have hnx : yo es ps c most N T0 d0 q w2 t2 d2 (.mk kU mU sU lU aU) := (by
    refine hinv.step ?_ hq3 hq4 fun hw => ?_
    ·cases w2 with
     | true => exact .inr rfl
     | false =>
      rcases hres rfl with ⟨_, h4', _⟩ | ⟨_, h4', _⟩ | ⟨_, _, h4'⟩
      ·cases h4'
      ·cases h4'
      ·exact .inl (Il hE hcc.1 hin hkk hH hA hdm h4').2.1
    ·rcases hres hw with ⟨_, h4', _⟩ | ⟨_, h4', _⟩ | ⟨h5', _, h4'⟩
     ·cases h4'
     ·cases h4'
     ·obtain ⟨g1, g2, g3, g4⟩ := Il hE hcc.1 hin hkk hH hA hdm h4'
      exact ⟨h5', g1, by omega, fun o ho => hio2 _ h4' o ho⟩)
   refine gc 9 ?_;refine bk (q, w2, t2, d2, kU, mU, sU, lU, aU) rfl ?_ [0, 1, 2, 3, 4] mz
   exact ⟨hnx, show q < q + 1 by omega⟩
  case B5 =>
   rintro ⟨w3, t3, d3⟩ hcut
   try dsimp only at hcut
   refine kc 0 [6, 4] 11 ?_;refine eo ((ae.mk k1 m1 s1 l1 a1).d) [0, 1, 2] [aP es w3, aN, gZ d3 most t3 pr] ?_
   ·refine ⟨.mk k1 m1 s1 l1 a1, d3, t3, w3, rfl, rfl, by have h3 := hcut.1; omega, hcut.2.1, fun h => ?_⟩
    rw [← hcur]
    rcases hcut.2.2 h with ⟨h3, h4'⟩ | ⟨h3, h4'⟩
    ·exact .inl ⟨h3, hRR _ h4'⟩
    ·exact .inr ⟨h3, hRR _ h4'⟩
theorem Db (hE : cP es) (hcc : 0 ≤ c ∧ c ≤ 1099511627776) (hm : most ≤ 1000000) (N : Nat) : C5 gl es ps c most N :=
 Nat.strongRecOn N fun _ ih => Da hE hcc hm ih
end Go.Proofs.YtndbnldjidciiaaGreatDoor
namespace Go.Proofs.YtndbnldjidciiaaGreatDoor
open Go Go.Vd Go.RowKit
attribute [local irreducible] bl br de aj bI cY
variable {g gl : Nat → List D}
theorem C9 (es : List cq) (w t : Bool) (h : w = true ∨ t = true) (k m : Int) (s : ByteArray) (ls : List aJ) (args : List ae) (d most pr : Int) :
 ey Tryz.prog gl 51 [aP es w, aN, gZ d most t pr] [.bZ 0 0, .d (ae.mk k m s ls args).d, .bZ 2 0] fun out ob' => out = .ret (.d (ae.mk k m s ls args).d) ∧ ob' = [aP es w, aN, gZ d most t pr] := by
 refine bS Tryz.func51 Tryz.ntmps51 3 ?_;refine kc 8 [6, 4, 0, 2] 0 ?_;refine lp (ι := Unit) (fun _ => []) (fun _ => [aP es w, aN, gZ d most t pr, tO k m s ls args, zO]) [6, 4, 0, 2] (fun _ => True) (fun _ => 0) (()) ([0, 1, 2, 3, 4]) rfl ?I2 ?M2 ?H2
 case I2 =>
  trivial
 case M2 =>
  exact mz
 case H2 =>
  rintro _ hinv
  try dsimp only at hinv
  refine kc 0 [6, 4, 0, 2] 9 ?_
  refine' oa (yt := 27) (d := 22) 5 ?a1 ?b1 ?_
  case a1 =>
   intro hc hK
   refine go 5 ?_; exact hK [_, _, _, _, _] rfl rfl
  case b1 =>
   intro _ hK; refine go 5 ?_; exact hK [_, _, _, _, _] rfl
  refine go 2 ?_;refine cj (fun h1 => ?_) (fun h1 => ?_)
  ·exfalso; (exfalso; rcases h with h | h <;> (rw [h] at h1; simp at h1))
  refine kc 5 [6, 4] 7 ?_;refine eo ((ae.mk k m s ls args).d) [0, 1, 2] [aP es w, aN, gZ d most t pr] ?_
  ·exact ⟨rfl, rfl⟩
def vp (es : List cq) (most n : Nat) (t : ae) (d : Nat) (pr : Int) (w tI : Bool) (out : Out) (ob' : List Ob) : Prop :=
 ∃ (u : ae) (d' : Nat) (t' w' : Bool), out = .ret (.d u.d) ∧ ob' = [aP es w', aN, gZ d' most t' pr] ∧ d ≤ d' ∧ d' ≤ most ∧ (w' = false → w = false ∧ ((t' = true ∧ (tI = true ∨ RW es most n t d .dU)) ∨ (t' = false ∧ tI = false ∧ RW es most n t d (.ok u d'))))
variable {es : List cq} {ps : List ByteArray} {most : Nat}
theorem yv (hE : cP es) {c : Int} (hcc : 0 ≤ c ∧ c ≤ 1099511627776) (hm : most ≤ 1000000) (n : Nat) (w tI : Bool) (k m : Int) (s : ByteArray) (ls : List aJ) (args : List ae) (d : Nat) (pr : Int) (hd : d ≤ most) (h1 : (ae.mk k m s ls args).size + 30000 * (most - d) < n) (h2 : (ae.mk k m s ls args).size + 30000 * (most - d) ≤ 1000000000000) (hw : Wt (eB es) ps (.mk k m s ls args) c) :
 ey Tryz.prog gl 51 [aP es w, aN, gZ d most tI pr] [.bZ 0 0, .d (ae.mk k m s ls args).d, .bZ 2 0] (vp es most n (.mk k m s ls args) d pr w tI) := by
 by_cases h : w = true ∨ tI = true
 ·refine (C9 es w tI h k m s ls args d most pr).mono fun o b hh => ?_
  obtain ⟨rfl, rfl⟩ := hh
  refine ⟨_, d, tI, w, rfl, rfl, Nat.le_refl _, hd, fun hw => ?_⟩
  rcases h with h | h
  ·rw [h] at hw; cases hw
  ·exact ⟨hw, .inl ⟨h, .inl h⟩⟩
 ·obtain ⟨rfl, rfl⟩ : w = false ∧ tI = false := by cases w <;> cases tI <;> simp_all
  refine (Db hE hcc hm n k m s ls args d pr hd h1 h2 hw).mono fun o b hh => ?_
  obtain ⟨u, d', t', w', e1, e2, e3, e4, e5⟩ := hh
  refine ⟨u, d', t', w', e1, e2, e3, e4, fun h => ⟨rfl, ?_⟩⟩
  rcases e5 h with ⟨h3, h4⟩ | ⟨h3, h4⟩
  ·exact .inl ⟨h3, .inr h4⟩
  ·exact .inr ⟨h3, rfl, h4⟩
def ae.LI : ae → List ae | .mk _ _ _ _ a => a
def ae.wa : ae → List ae → ae | .mk k m s ls _, l => .mk k m s ls l
inductive Gk where
 | ok (u : ae) (d : Nat) (p : Int)
 | dU
inductive vu where
 | ok (l : List ae) (d : Nat) (p : Int)
 | dU
def vu.to (f : List ae → ae) : vu → Gk
 | .ok l d p => .ok (f l) d p
 | .dU => .dU
def vu.cons (y : ae) : vu → vu
 | .ok l d p => .ok (y :: l) d p
 | .dU => .dU
def Cc (R : ae → Nat → Int → Gk → Prop) : List ae → Nat → Int → vu → Prop
 | [], d, p, o => o = .ok [] d p
 | x :: r, d, p, o => (R x d p .dU ∧ o = .dU) ∨ ∃ y d1 p1 so, R x d p (.ok y d1 p1) ∧ Cc R r d1 p1 so ∧ o = so.cons y
def RN (es : List cq) (most : Nat) : Nat → ae → Nat → Int → Gk → Prop
 | 0, _, _, _, _ => False
 | n + 1, t, d, p, o => (∃ m, RW es most m t d .dU ∧ o = .dU) ∨ ∃ m u d1 so, RW es most m t d (.ok u d1) ∧ p + 1 ≤ 20000 ∧
  ((ae.kd u = 3 ∧ Cc (RN es most n) (bt u).2 d1 (p + 1) so ∧ o = so.to (bN (bt u).1)) ∨ (ae.kd u ≠ 3 ∧ Cc (RN es most n) (ae.LI u) d1 (p + 1) so ∧ o = so.to (ae.wa u)))
theorem Cc.snoc {R : ae → Nat → Int → Gk → Prop} : ∀ {l : List ae} {d : Nat} {p : Int} {ys : List ae} {d1 : Nat} {p1 : Int} {x : ae}, Cc R l d p (.ok ys d1 p1) → (∀ {y d2 p2}, R x d1 p1 (.ok y d2 p2) → Cc R (l ++ [x]) d p (.ok (ys ++ [y]) d2 p2)) ∧ (R x d1 p1 .dU → ∀ r, Cc R (l ++ x :: r) d p .dU)
 | [], d, p, ys, d1, p1, x, h => by
  cases h
  exact ⟨fun h2 => .inr ⟨_, _, _, _, h2, rfl, rfl⟩, fun h2 r => .inl ⟨h2, rfl⟩⟩
 | a :: l, d, p, ys, d1, p1, x, h => by
  rcases h with ⟨_, h2⟩ | ⟨y, d2, p2, so, h2, h3, h4⟩
  ·cases h2
  ·cases so with
   | dU => cases h4
   | ok l2 d3 p3 =>
    cases h4
    obtain ⟨g1, g2⟩ := Cc.snoc (x := x) h3
    exact ⟨fun h5 => .inr ⟨_, _, _, _, h2, g1 h5, rfl⟩, fun h5 r => .inr ⟨_, _, _, _, h2, g2 h5 r, rfl⟩⟩
theorem fQ.flat {sg : Sg} {ps : List ByteArray} {c : Int} : ∀ {l : List ae}, (∀ x ∈ l, Wt sg ps x c) → fQ sg ps false l c
 | [], _ => trivial
 | a :: r, h => ⟨by rw [Bool.false_and]; exact h a List.mem_cons_self, fQ.flat fun x hx => h x (List.mem_cons_of_mem _ hx)⟩
theorem fQ.Et {sg : Sg} {ps : List ByteArray} {c : Int} : ∀ {l : List ae}, fQ sg ps false l c → ∀ x ∈ l, Wt sg ps x c
 | a :: r, h, x, hx => by
  rcases List.mem_cons.1 hx with rfl | hx
  ·have := h.1; rw [Bool.false_and] at this; exact this
  ·exact fQ.Et h.2 x hx
theorem Cb {sg : Sg} {ps : List ByteArray} {most : Nat} {R : ae → Nat → Int → Gk → Prop} {b : Bool}
 (hR : ∀ {t u : ae} {d d' : Nat} {p p' c : Int}, R t d p (.ok u d' p') → d ≤ most → 0 ≤ c → Wt sg ps t c → Wt sg ps u c ∧ d ≤ d' ∧ d' ≤ most ∧ p < p' ∧ p' ≤ 20000 ∧ u.size + 30000 * (most - d') ≤ t.size + 30000 * (most - d)) :
 ∀ {l ys : List ae} {d d' : Nat} {p p' c : Int}, Cc R l d p (.ok ys d' p') → d ≤ most → 0 ≤ c → p ≤ 20000 → fQ sg ps b l c → fQ sg ps b ys c ∧ ys.length = l.length ∧ d ≤ d' ∧ d' ≤ most ∧ p ≤ p' ∧ p' ≤ 20000 ∧ ai ys + 30000 * (most - d') ≤ ai l + 30000 * (most - d)
 | [], ys, d, d', p, p', c, h, hd, hc, hp, hw => by
  cases h; exact ⟨trivial, rfl, Nat.le_refl _, hd, Int.le_refl _, hp, Nat.le_refl _⟩
 | a :: l, ys, d, d', p, p', c, h, hd, hc, hp, hw => by
  rcases h with ⟨_, h2⟩ | ⟨y, d2, p2, so, h2, h3, h4⟩
  ·cases h2
  ·cases so with
   | dU => cases h4
   | ok l2 d3 p3 =>
    cases h4
    obtain ⟨g1, g2, g3, g4, g5, g6⟩ := hR h2 hd (by split <;> omega) hw.1
    obtain ⟨k1, k2, k3, k4, k5, k6, k7⟩ := Cb hR h3 g3 hc g5 hw.2
    refine ⟨⟨?_, k1⟩, by simp only [List.length_cons, k2], by omega, k4, by omega, k6, by simp only [ai]; omega⟩
    have e : l2.isEmpty = l.isEmpty := by cases l2 <;> cases l <;> simp_all
    rw [e]; exact g1
theorem KJ (hE : cP es) : ∀ (n : Nat) {t u : ae} {d d' : Nat} {p p' c : Int}, RN es most n t d p (.ok u d' p') → d ≤ most → 0 ≤ c → Wt (eB es) ps t c →
 Wt (eB es) ps u c ∧ d ≤ d' ∧ d' ≤ most ∧ p < p' ∧ p' ≤ 20000 ∧ u.size + 30000 * (most - d') ≤ t.size + 30000 * (most - d) := by
 intro n
 induction n with
 | zero => intro t u d d' p p' c h; exact h.elim
 | succ n ih =>
  intro t u d d' p p' c h hd hc hw
  rcases h with ⟨_, _, h⟩ | ⟨m, v, d1, so, h1, h2, h3⟩
  ·cases h
  ·obtain ⟨hv, e1, e2, e3⟩ := Ar hE hc m h1 hd hw
   rcases h3 with ⟨_, h3, h4⟩ | ⟨_, h3, h4⟩
   ·cases so with
    | dU => cases h4
    | ok l2 d3 p3 =>
     cases h4
     obtain ⟨_, hH, hA, _⟩ := Wt.spine _ (Nat.le_refl _) hv
     have hz2 := mS hv
     obtain ⟨k1, k2, k3, k4, k5, k6, k7⟩ := Cb (b := false) ih h3 e2 hc h2 (fQ.flat hA)
     exact ⟨Wt.apply hH (fQ.Et k1), by omega, k4, by omega, k6, by rw [cI]; omega⟩
   ·cases so with
    | dU => cases h4
    | ok l2 d3 p3 =>
     cases h4
     obtain ⟨k, m2, s, ls, args⟩ := v
     simp only [ae.LI, ae.wa, ae.size] at *
     obtain ⟨k1, k2, k3, k4, k5, k6, k7⟩ := Cb (b := decide (4 ≤ k)) ih h3 e2 hc h2 hv.2.1
     exact ⟨⟨hv.1, k1, by rw [k2]; exact hv.2.2⟩, by omega, k4, by omega, k6, by omega⟩
end Go.Proofs.YtndbnldjidciiaaGreatDoor
namespace Go.Proofs.YtndbnldjidciiaaGreatDoor
open Go Go.Vd Go.RowKit
attribute [local irreducible] bl br de aj bI cY
variable {g gl : Nat → List D}
def pB (p : Int) : Int := if p ≤ 20000 then 20001 + (20001 - p) * 1000000000001 else p + 1
def Gj (es : List cq) (most n : Nat) (t : ae) (d : Nat) (pr : Int) (w tI : Bool) (out : Out) (ob' : List Ob) : Prop :=
 ∃ (u : ae) (d' : Nat) (t' w' : Bool) (p' : Int), out = .ret (.d u.d) ∧ ob' = [aP es w', aN, gZ d' most t' p'] ∧ d ≤ d' ∧ d' ≤ most ∧ pr < p' ∧ p' ≤ pB pr ∧ (w' = false → w = false ∧ ((t' = true ∧ (tI = true ∨ RN es most n t d pr .dU)) ∨ (t' = false ∧ tI = false ∧ RN es most n t d pr (.ok u d' p'))))
def KK (gl : Nat → List D) (es : List cq) (ps : List ByteArray) (most n : Nat) : Prop :=
 ∀ (k m : Int) (s : ByteArray) (ls : List aJ) (args : List ae) (c : Int) (d : Nat) (pr : Int) (w tI : Bool), d ≤ most → 0 ≤ c → (ae.mk k m s ls args).size + 30000 * (most - d) < n → c + (ae.mk k m s ls args).size + 30000 * (most - d) ≤ 1000000000000 → Wt (eB es) ps (.mk k m s ls args) c → 0 ≤ pr → pr ≤ 1000000000000000000 →
  ey Tryz.prog gl 37 [aP es w, aN, gZ d most tI pr] [.bZ 0 0, .d (ae.mk k m s ls args).d, .bZ 2 0] (Gj es most n (.mk k m s ls args) d pr w tI)
structure Gl (es : List cq) (most n : Nat) (l : List ae) (d1 : Nat) (p1 : Int) (i : Nat) (w t : Bool) (d : Nat) (p : Int) (ys : List ae) : Prop where
 il : i ≤ l.length
 yl : ys.length = i
 dl : d1 ≤ d
 dm : d ≤ most
 pl : p1 ≤ p
 pu : p ≤ 20001 + (20001 - p1) * 1000000000001 + i
 ok : w = false → (t = true ∧ Cc (RN es most n) l d1 p1 .dU) ∨ (t = false ∧ Cc (RN es most n) (l.take i) d1 p1 (.ok ys d p))
variable {es : List cq} {most : Nat}
theorem Gl.step {n : Nat} {l : List ae} {d1 : Nat} {p1 : Int} {i : Nat} {w t : Bool} {d : Nat} {p : Int} {ys : List ae} {x y : ae} {d' : Nat} {t' w' : Bool} {p' : Int} (h : Gl es most n l d1 p1 i w t d p ys) (hx : l[i]? = some x) (h1 : d ≤ d') (h2 : d' ≤ most) (h3 : p < p') (h4 : p' ≤ pB p) (hp : p1 < p ∨ i = 0) (hp1 : p1 ≤ 20000)
 (h5 : w' = false → w = false ∧ ((t' = true ∧ (t = true ∨ RN es most n x d p .dU)) ∨ (t' = false ∧ t = false ∧ RN es most n x d p (.ok y d' p')))) : Gl es most n l d1 p1 (i + 1) w' t' d' p' (ys ++ [y]) := by
 have hi := (List.getElem?_eq_some_iff.1 hx).1
 have h6 := h.dl; have h7 := h.dm; have h8 := h.pl; have h9 := h.pu
 refine ⟨by omega, by rw [List.length_append, h.yl]; rfl, by omega, h2, by omega, ?_, fun hw => ?_⟩
 ·unfold pB at h4
  split at h4 <;> omega
 ·obtain ⟨e1, e2⟩ := h5 hw
  have e3 : l.take (i + 1) = l.take i ++ [x] := by rw [List.take_add_one, hx]; rfl
  have e4 : l = l.take i ++ x :: l.drop (i + 1) := by
   conv => lhs; rw [← List.take_append_drop (i + 1) l, e3]
   rw [List.append_assoc]; rfl
  rcases h.ok e1 with ⟨g1, g2⟩ | ⟨g1, g2⟩
  ·rcases e2 with ⟨k1, _⟩ | ⟨_, k1, _⟩
   ·exact .inl ⟨k1, g2⟩
   ·rw [g1] at k1; cases k1
  ·rcases e2 with ⟨k1, k2 | k2⟩ | ⟨k1, _, k2⟩
   ·rw [g1] at k2; cases k2
   ·refine .inl ⟨k1, ?_⟩
    rw [e4]; exact (Cc.snoc (x := x) g2).2 k2 _
   ·refine .inr ⟨k1, ?_⟩
    rw [e3]; exact (Cc.snoc (x := x) g2).1 k2
set_option maxHeartbeats 1600000 in
theorem Dv (hE : cP es) {ps : List ByteArray} (hm : most ≤ 1000000) : ∀ N, KK gl es ps most N := by
 intro N
 induction N with
 | zero => intro k m s ls args c d pr w tI _ _ h; omega
 | succ N ih =>
  intro k m s ls args c d pr w tI hdm hc hz1 hz2 hWt hp0 hpm
  have hwh := yv (gl := gl) hE (ps := ps) (c := c) ⟨hc, by omega⟩ hm ((ae.mk k m s ls args).size + 30000 * (most - d) + 1) w tI k m s ls args d pr hdm (by omega) (by omega) hWt
  obtain ⟨T0, hT0⟩ : ∃ x, x = ae.mk k m s ls args := ⟨_, rfl⟩
  rw [← hT0] at hz1 hz2 hWt
  rw [show Gj es most (N + 1) (.mk k m s ls args) d pr w tI = Gj es most (N + 1) T0 d pr w tI by rw [hT0]]
  rw [show vp es most ((ae.mk k m s ls args).size + 30000 * (most - d) + 1) (.mk k m s ls args) d pr w tI = vp es most ((ae.mk k m s ls args).size + 30000 * (most - d) + 1) T0 d pr w tI by rw [hT0]] at hwh
  generalize (ae.mk k m s ls args).size + 30000 * (most - d) + 1 = G at hwh
  have hpb : pr + 1 ≤ pB pr := by unfold pB; split <;> omega
  refine bS Tryz.func37 Tryz.ntmps37 3 ?_;refine gc 11 ?_;refine oc (ay F4 rfl rfl rfl rfl (hwh) [0, 1, 2] (bh (cu (bh .nil))) rfl rfl rfl rfl (an (bd (an .nil))) (fun s ob' hq => ?_) (fun s ob' hq => ?_))
  rotate_left
  ·obtain ⟨_, _, _, _, hq1, _⟩ := hq; cases hq1
  obtain ⟨⟨k1, m1, s1, l1, a1⟩, d1, t1, w1, hq1, rfl, hd1, hd2, hres⟩ := hq; cases hq1; refine ⟨_, _, _, _, _, rfl, rfl, rfl, rfl, rfl, ?_⟩;refine ko 3 [6, 4, 0, 2] 6 ?_;refine o1 (cw ?_);refine ko 5 [6, 4, 0, 2] 8 ?_
  refine' oo (yt := 33) (d := 28) 5 ?a1 ?b1 ?_
  case a1 =>
   intro hc hK
   refine go 5 ?_; exact hK [_, _, _, _, _] rfl rfl
  case b1 =>
   intro _ hK; refine go 5 ?_; exact hK [_, _, _, _, _] rfl
  refine ko 6 [6, 4, 0, 2] 7 ?_
  refine' oo (yt := 45) (d := 41) 4 ?a2 ?b2 ?_
  case a2 =>
   intro hc hK
   refine go 4 ?_
   exact hK [_, _, _, _] rfl rfl
  case b2 =>
   intro _ hK; refine go 4 ?_; exact hK [_, _, _, _] rfl
  refine go 2 ?_;refine cj (fun h4 => ?_) (fun h4 => ?_)
  ·refine kc 0 [6, 4] 8 ?_;refine eo ((ae.mk k1 m1 s1 l1 a1).d) [0, 1, 2] [aP es (w1 || decide (20000 < pr + 1)), aN, gZ d1 most t1 (pr + 1)] ?_
   ·refine ⟨.mk k1 m1 s1 l1 a1, d1, t1, _, pr + 1, rfl, rfl, hd1, hd2, by omega, hpb, fun hw => ?_⟩
    simp only [Bool.or_eq_false_iff, decide_eq_false_iff_not, Int.not_lt] at hw
    obtain ⟨e1, e2⟩ := hres hw.1; refine ⟨e1, ?_⟩
    rcases e2 with ⟨e3, e4 | e4⟩ | ⟨e3, e4, e5⟩
    ·exact .inl ⟨e3, .inl e4⟩
    ·exact .inl ⟨e3, .inr (.inl ⟨_, e4, rfl⟩)⟩
    ·exfalso
     rcases h4 with h | h | h
     ·rw [e3] at h; cases h
     ·rw [hw.1] at h; cases h
     ·omega
  refine kc 4 [6, 4, 0, 2] 0 ?_
  have hok : t1 = false ∧ w1 = false ∧ pr + 1 ≤ 20000 := (by cases t1 <;> cases w1 <;> simp_all)
  obtain ⟨rfl, rfl, hpr⟩ := hok; obtain ⟨rfl, hres2⟩ := hres rfl
  have hres3 : tI = false ∧ RW es most G T0 d (.ok (.mk k1 m1 s1 l1 a1) d1) := (by
   rcases hres2 with ⟨h, _⟩ | ⟨_, h1, h2⟩
   ·cases h
   ·exact ⟨h1, h2⟩)
  obtain ⟨rfl, hRW⟩ := hres3; obtain ⟨hv, e1, e2, e3⟩ := Ar hE hc G hRW hdm hWt
  have hdec : decide (20000 < pr + 1) = false := decide_eq_false (by omega)
  refine gc 6 ?_;refine cJ (fun h6 => ?_) (fun h6 => ?_)
  ·refine gc 9 ?_
   have hal := bf a1
   have has := bA a1
   have hvz : (ae.mk k1 m1 s1 l1 a1).size = 1 + aS l1 + ai a1 := rfl
   have hRN : ∀ so, Cc (RN es most N) a1 d1 (pr + 1) so → RN es most (N + 1) T0 d pr (so.to (ae.wa (.mk k1 m1 s1 l1 a1))) := (fun so h => .inr ⟨G, _, d1, so, hRW, hpr, .inr ⟨h6, h, rfl⟩⟩)
   refine kc 5 [11, 10, 6, 4, 0, 2] 0 ?_;refine bq 39 5 rfl ?_;refine lp (ι := Nat × Bool × Bool × Nat × Int × List ae) (fun ⟨i, w3, t3, d3, p3, ys⟩ => [(11, int i), (10, .own 5 5 (ba ys))]) (fun ⟨i, w3, t3, d3, p3, ys⟩ => [aP es w3, aN, gZ d3 most t3 p3, tO k1 m1 s1 l1 a1, zO, tR]) [6, 4, 0, 2] (fun ⟨i, w3, t3, d3, p3, ys⟩ => Gl es most N a1 d1 (pr + 1) i w3 t3 d3 p3 ys ∧ (pr + 1 < p3 ∨ i = 0)) (fun ⟨i, w3, t3, d3, p3, ys⟩ => a1.length - i) ((0, (false || decide (20000 < pr + 1)), false, d1, pr + 1, [])) ([0, 1, 2, 3, 4, 5]) rfl ?I3 ?M3 ?H3
   case I3 =>
    exact ⟨⟨Nat.zero_le _, rfl, Nat.le_refl _, e2, Int.le_refl _, by omega, fun _ => .inr ⟨rfl, rfl⟩⟩, .inr rfl⟩
   case M3 =>
    refine mo ?_ (aH (eh rfl (by exact Fit.nil rfl) (aH (aH (aH (aH dF))))))
    repeat (first | exact cW | refine bh ?_ | refine cu ?_ | refine p6 ?_)
   case H3 =>
    rintro ⟨i, w3, t3, d3, p3, ys⟩ hinv
    try dsimp only at hinv
    refine kc 0 [11, 10, 6, 4, 0, 2] 10 ?_;refine cJ (fun h15 => ?_) (fun h15 => ?_)
    ·refine kc 6 [10, 6, 4] 0 ?_
     have hws := jr (gl := gl) k1 m1 s1 l1 a1 ys
     refine gc 3 ?_;refine oc (cv D9 rfl rfl (hws) (bd (bd .nil)) ?_);refine go 4 ?_;refine eo ((ae.mk k1 m1 s1 l1 ys).d) [0, 1, 2] [aP es w3, aN, gZ d3 most t3 p3] ?_
     ·have hx1 := hinv.1.dl
      have hx3 := hinv.1.pl
      have hx4 := hinv.1.pu
      have hx5 := hinv.1.il
      have hi : i = a1.length := (by omega)
      refine ⟨.mk k1 m1 s1 l1 ys, d3, t3, w3, p3, rfl, rfl, by omega, hinv.1.dm, by omega, by unfold pB; rw [if_pos (by omega)]; omega, fun hw => ⟨rfl, ?_⟩⟩
      rcases hinv.1.ok hw with ⟨g1, g2⟩ | ⟨g1, g2⟩
      ·exact .inl ⟨g1, .inr (hRN _ g2)⟩
      ·rw [hi, List.take_length] at g2
       exact .inr ⟨g1, rfl, hRN _ g2⟩
    refine kc 4 [11, 10, 6, 4, 0, 2] 0 ?_
    obtain ⟨kx, mx, sx, lx, ax, hget⟩ := bQ (show i < a1.length by omega)
    have hxz := bC hget
    have hx1 := hinv.1.dl
    have hx2 := hinv.1.dm
    have hx3 := hinv.1.pl
    have hx4 := hinv.1.pu
    have hyl := hinv.1.yl
    have hxw := fQ.get hv.2.1 hget
    obtain ⟨cx, hcx, hcl⟩ : ∃ cx, cx = (if decide (4 ≤ k1) = true ∧ i + 1 = a1.length then c + 1 else c) ∧ c ≤ cx ∧ cx ≤ c + 1 := ⟨_, rfl, by split <;> omega, by split <;> omega⟩
    rw [← hcx] at hxw
    have hnm := ih kx mx sx lx ax cx d3 p3 w3 t3 hx2 (by omega) (by omega) (by omega) hxw (by omega) (by omega)
    have hytl := bf ys
    refine gc 6 ?_;refine o1 (bV bE bK ?_ (he := by exact (bY hget)));refine go 2 ?_;refine oc (ay F6 rfl rfl rfl rfl (hnm) [0, 1, 2] (bh (cu (bh .nil))) rfl rfl rfl rfl (an (bd (an .nil))) (fun s ob' hq => ?_) (fun s ob' hq => ?_))
    rotate_left
    ·obtain ⟨_, _, _, _, _, hq1, _⟩ := hq; cases hq1
    obtain ⟨⟨kY, mY, sY, lY, aY⟩, d4, t4, w4, p4, hq1, rfl, hq3, hq4, hq5, hq6, hq7⟩ := hq; cases hq1
    have hnx : ba ys ++ [[.v (.int .i64 kY), .v (.int .i64 mY), .v (.string sY), .sl 3 (bF lY), .sl 5 (ba aY)]] = ba (ys ++ [.mk kY mY sY lY aY]) := (by rw [er]; rfl)
    refine ⟨_, _, _, _, _, rfl, rfl, rfl, rfl, rfl, ?_⟩;refine oc (gR fA [.tmp 87] bM ?_);refine oc (nU fA ?_);refine ko 4 [10, 11, 6, 4, 0, 2] 2 ?_;refine o1 (cw ?_);refine go 2 ?_
    rw [hnx]
    refine bk (i + 1, w4, t4, d4, p4, ys ++ [.mk kY mY sY lY aY]) rfl ?_ [0, 1, 2, 3, 4, 5] mz;refine ⟨⟨hinv.1.step hget hq3 hq4 hq5 hq6 hinv.2 hpr hq7, .inl (by omega)⟩, show a1.length - (i + 1) < a1.length - i by omega⟩
  refine gc 1 ?_; obtain rfl : k1 = 3 := (by omega); obtain ⟨hok, hH, hA, hsp⟩ := Wt.spine _ (Nat.le_refl _) hv
  have hspn := et (gl := gl) 3 m1 s1 l1 a1 hok (by omega)
  have hz := mS hv
  rcases hS : bt (.mk 3 m1 s1 l1 a1) with ⟨⟨kh, mh, sh, lh, ah⟩, az⟩
  rw [hS] at hspn hH hA hz hsp
  dsimp only at hspn hH hA hz hsp
  have hal := bf az
  have has := bA az
  have hRN : ∀ so, Cc (RN es most N) az d1 (pr + 1) so → RN es most (N + 1) T0 d pr (so.to (bN (.mk kh mh sh lh ah))) := (fun so h => .inr ⟨G, _, d1, so, hRW, hpr, .inl ⟨rfl, by rw [hS]; exact h, by rw [hS]⟩⟩)
  refine gc 2 ?_;refine oc (cv vX rfl rfl (hspn) (bd .nil) ?_);refine ko 9 [8, 7, 6, 0, 2] 6 ?_;refine lp (ι := Nat × Bool × Bool × Nat × Int × List ae × Int × Int × ByteArray × List aJ × List ae) (fun ⟨i, w3, t3, d3, p3, ys, k3, m3, s3, l3, a3⟩ => [(9, int i)]) (fun ⟨i, w3, t3, d3, p3, ys, k3, m3, s3, l3, a3⟩ => [aP es w3, aN, gZ d3 most t3 p3, tO 3 m1 s1 l1 a1, zO, tO k3 m3 s3 l3 a3]) [8, 7, 6, 0, 2] (fun ⟨i, w3, t3, d3, p3, ys, k3, m3, s3, l3, a3⟩ => Gl es most N az d1 (pr + 1) i w3 t3 d3 p3 ys ∧ (pr + 1 < p3 ∨ i = 0) ∧ bN (.mk kh mh sh lh ah) ys = .mk k3 m3 s3 l3 a3) (fun ⟨i, w3, t3, d3, p3, ys, k3, m3, s3, l3, a3⟩ => az.length - i) ((0, (false || decide (20000 < pr + 1)), false, d1, pr + 1, [], kh, mh, sh, lh, ah)) ([0, 1, 2, 3, 4, 5]) rfl ?I4 ?M4 ?H4
  case I4 =>
   exact ⟨⟨Nat.zero_le _, rfl, Nat.le_refl _, e2, Int.le_refl _, by omega, fun _ => .inr ⟨rfl, rfl⟩⟩, .inr rfl, rfl⟩
  case M4 =>
   exact mz
  case H4 =>
   rintro ⟨i, w3, t3, d3, p3, ys, k3, m3, s3, l3, a3⟩ hinv
   try dsimp only at hinv
   refine kc 0 [9, 8, 7, 6, 0, 2] 9 ?_;refine cJ (fun h9 => ?_) (fun h9 => ?_)
   ·refine kc 5 [7, 6] 8 ?_;refine eo ((ae.mk k3 m3 s3 l3 a3).d) [0, 1, 2] [aP es w3, aN, gZ d3 most t3 p3] ?_
    ·have hx1 := hinv.1.dl
     have hx3 := hinv.1.pl
     have hx4 := hinv.1.pu
     have hx5 := hinv.1.il
     have hi : i = az.length := (by omega)
     refine ⟨.mk k3 m3 s3 l3 a3, d3, t3, w3, p3, rfl, rfl, by omega, hinv.1.dm, by omega, by unfold pB; rw [if_pos (by omega)]; omega, fun hw => ⟨rfl, ?_⟩⟩
     rcases hinv.1.ok hw with ⟨g1, g2⟩ | ⟨g1, g2⟩
     ·exact .inl ⟨g1, .inr (hRN _ g2)⟩
     ·rw [hi, List.take_length] at g2
      refine .inr ⟨g1, rfl, ?_⟩
      have := hRN _ g2
      rw [vu.to, hinv.2.2] at this
      exact this
   refine kc 4 [9, 8, 7, 6, 0, 2] 0 ?_
   obtain ⟨kx, mx, sx, lx, ax, hget⟩ := bQ (show i < az.length by omega)
   have hxz := bC hget
   have hx1 := hinv.1.dl
   have hx2 := hinv.1.dm
   have hx3 := hinv.1.pl
   have hx4 := hinv.1.pu
   have hnm := ih kx mx sx lx ax c d3 p3 w3 t3 hx2 hc (by omega) (by omega) (hA _ (List.mem_of_getElem? hget)) (by omega) (by omega)
   refine gz [0, 1, 2, 3] mixed ?_;refine A1 4 rfl (bV bE bK ⟨_, rfl, ?_⟩ (he := by exact (bY hget)));refine ga [5, 6] ?_;refine A2 7 rfl (ay F6 rfl rfl rfl rfl (hnm) [0, 1, 2] (bh (cu (bh .nil))) rfl rfl rfl rfl (an (bd (an .nil))) (fun s ob' hq => ?_) (fun s ob' hq => ?_))
   rotate_left
   ·obtain ⟨_, _, _, _, _, hq1, _⟩ := hq; cases hq1
   obtain ⟨⟨kY, mY, sY, lY, aY⟩, d4, t4, w4, p4, hq1, rfl, hq3, hq4, hq5, hq6, hq7⟩ := hq; cases hq1; refine ⟨_, _, _, _, _, rfl, rfl, rfl, rfl, rfl, ?_⟩;refine A2 8 rfl (cv nK rfl rfl (cR k3 m3 s3 l3 a3 kY mY sY lY aY) (bd (an .nil)) ?_);refine A2 9 rfl (eD bM ?_);refine aQ ?_;refine ke 2 [9, 8, 7, 6, 0, 2] 2 ?_;refine o1 (cw ?_);refine go 2 ?_;refine bk (i + 1, w4, t4, d4, p4, ys ++ [.mk kY mY sY lY aY], 3, 0, .empty, [], [.mk k3 m3 s3 l3 a3, .mk kY mY sY lY aY]) rfl ?_ [0, 1, 2, 3, 4, 5] mz;refine ⟨⟨hinv.1.step hget hq3 hq4 hq5 hq6 hinv.2.1 hpr hq7, .inl (by omega), by rw [nL, hinv.2.2]⟩, show az.length - (i + 1) < az.length - i by omega⟩
end Go.Proofs.YtndbnldjidciiaaGreatDoor
namespace Go.Proofs.YtndbnldjidciiaaGreatDoor
open Go Go.Vd Go.RowKit
attribute [local irreducible] bl br de aj bI cY
variable {g gl : Nat → List D}
def LK (es : List cq) (most : Nat) (t : ae) (o : Ca) : Prop := ∃ n, RW es most n t 0 o
def B0 (es : List cq) (most : Nat) (t : ae) (w : Bool) (out : Out) (ob' : List Ob) : Prop :=
 ∃ (u : ae) (d' : Nat) (code : Int) (w' : Bool), out = .ret (.d (.cb [u.d, .v (.int .i64 d'), .v (.int .i64 code)])) ∧ ob' = [aP es w', aN] ∧ d' ≤ most ∧ (code = 0 ∨ code = 14) ∧ (code = 0 → w' = false) ∧ (w' = false → w = false ∧ ((code = 14 ∧ LK es most t .dU) ∨ (code = 0 ∧ LK es most t (.ok u d'))))
theorem AU {es : List cq} (hE : cP es) {ps : List ByteArray} {c : Int} (hc : 0 ≤ c) {most : Nat} (hm : most ≤ 1000000) (w : Bool) (k m : Int) (s : ByteArray) (ls : List aJ) (args : List ae) (hz : c + (ae.mk k m s ls args).size + 30000 * most ≤ 1000000000000) (hw : Wt (eB es) ps (.mk k m s ls args) c) :
 ey Tryz.prog gl 32 [aP es w, aN] [.bZ 0 0, .d (ae.mk k m s ls args).d, .d (.v (.int .i64 most))] (B0 es most (.mk k m s ls args) w) := by
 have hwh := yv (gl := gl) hE (ps := ps) (c := c) ⟨hc, by omega⟩ hm ((ae.mk k m s ls args).size + 30000 * (most - 0) + 1) w false k m s ls args 0 0 (by omega) (by omega) (by omega) hw
 obtain ⟨T0, hT0⟩ : ∃ x, x = ae.mk k m s ls args := ⟨_, rfl⟩
 rw [show B0 es most (.mk k m s ls args) w = B0 es most T0 w by rw [hT0]]
 rw [show vp es most ((ae.mk k m s ls args).size + 30000 * (most - 0) + 1) (.mk k m s ls args) 0 0 w false = vp es most ((ae.mk k m s ls args).size + 30000 * (most - 0) + 1) T0 0 0 w false by rw [hT0]] at hwh
 generalize (ae.mk k m s ls args).size + 30000 * (most - 0) + 1 = G at hwh
 refine bS Tryz.func32 Tryz.ntmps32 2 ?_;refine kc 16 [9, 6, 4, 0] 5 ?_;refine oc (ay F4 rfl rfl rfl rfl (hwh) [0, 1, 4] (bh (cu (bh .nil))) rfl rfl rfl rfl (an (bd (an .nil))) (fun s ob' hq => ?_) (fun s ob' hq => ?_))
 rotate_left
 ·obtain ⟨_, _, _, _, hq1, _⟩ := hq; cases hq1
 obtain ⟨⟨k1, m1, s1, l1, a1⟩, d1, t1, w1, hq1, rfl, hd1, hd2, hres⟩ := hq; cases hq1; refine ⟨_, _, _, _, _, rfl, rfl, rfl, rfl, rfl, ?_⟩;refine ko 5 [10, 9, 6, 0] 7 ?_
 refine' oo (yt := 26) (d := 22) 4 ?a1 ?b1 ?_
 case a1 =>
  intro hc hK
  refine go 4 ?_
  exact hK [_, _, _, _] rfl rfl
 case b1 =>
  intro _ hK; refine go 4 ?_; exact hK [_, _, _, _] rfl
 refine go 2 ?_;refine cj (fun h3 => ?_) (fun h3 => ?_)
 ·refine kc 0 [6] 10 ?_;refine eo (.cb [aI.d, .v (.int .i64 0), .v (.int .i64 14)]) [0, 1] [aP es w1, aN] ?_
  ·refine ⟨aI, 0, 14, w1, rfl, rfl, by omega, .inr rfl, fun h => by omega, fun h => ?_⟩
   obtain ⟨e1, e2⟩ := hres h; refine ⟨e1, ?_⟩
   rcases e2 with ⟨e3, e4 | e4⟩ | ⟨e3, e4, e5⟩
   ·cases e4
   ·exact .inl ⟨rfl, _, e4⟩
   ·exfalso; rw [e3, h] at h3; simp at h3
 refine kc 3 [10, 9, 6] 0 ?_;refine gz [0, 1, 2, 3, 4] mixed ?_;refine A2 5 rfl (eD bM ?_);refine ga [6, 7] ?_;refine aQ ?_;refine ge 2 ?_;refine eo (.cb [(ae.mk k1 m1 s1 l1 a1).d, .v (.int .i64 d1), .v (.int .i64 0)]) [0, 1] [aP es w1, aN] ?_
 ·have hok : t1 = false ∧ w1 = false := (by cases t1 <;> cases w1 <;> simp_all)
  obtain ⟨rfl, rfl⟩ := hok; refine ⟨.mk k1 m1 s1 l1 a1, d1, 0, false, rfl, rfl, hd2, .inl rfl, fun _ => rfl, fun _ => ?_⟩; obtain ⟨e1, e2⟩ := hres rfl; refine ⟨e1, ?_⟩
  rcases e2 with ⟨e3, _⟩ | ⟨e3, e4, e5⟩
  ·cases e3
  ·exact .inr ⟨rfl, _, e5⟩
end Go.Proofs.YtndbnldjidciiaaGreatDoor
namespace Go.Proofs.YtndbnldjidciiaaGreatDoor
open Go Go.Vd Go.RowKit
attribute [local irreducible] bl br de aj bI cY
variable {gl : Nat → List D}
theorem tT : ∀ (n : Nat) (k : Int) (s : ByteArray) (args : List aJ), (aJ.mk k s args).size ≤ n → (aJ.mk k s args).size ≤ 4398046511104 →
 cD Tryz.prog gl 143 [(aJ.mk k s args).d] (· = .v (.int .i64 (aJ.mk k s args).eg)) := by
 intro n
 induction n with
 | zero => intro k s args h; simp [aJ.size] at h
 | succ n ih =>
  intro k s args hn hb
  have hsz : aS args ≤ n := by simp [aJ.size] at hn; omega
  have hlen := bR args
  have hlb := iA args
  have hsl := q0 args
  simp only [aJ.size] at hb
  have hk1 : (0 : Int) ≤ (if k = 1 then 1 else 0) ∧ (if k = 1 then (1 : Int) else 0) ≤ 1 := by split <;> omega
  refine bD Tryz.func143 Tryz.ntmps143 ?_;refine kc 19 [7, 3, 1] 0 ?_;refine xc (ι := Unit) (fun _ => [(3, int (if k = 1 then 1 else 0))]) [1] (fun _ => True) rfl ?A2 ?B2
  case A2 =>
   refine cJ (fun h2 => ?_) (fun h2 => ?_)
   ·refine gc 1 ?_;refine bi (()) rfl ?_ ?_
    ·trivial
    ·refine mo ?_ (eh rfl (by exact Fit.of_eq (by simp only [h2, if_true, if_false]; rfl)) (aH dF))
     repeat (first | exact cW | refine bh ?_)
   refine gc 3 ?_;refine bi (()) rfl ?_ ?_
   ·trivial
   ·refine mo ?_ (eh rfl (by exact Fit.of_eq (by simp only [h2, if_true, if_false]; rfl)) (aH dF))
    repeat (first | exact cW | refine bh ?_)
  case B2 =>
   rintro _ hcut
   try dsimp only at hcut
   refine kc 0 [3, 1] 7 ?_;refine lP (ι := Nat) (fun i => [(4, int i), (3, int ((if k = 1 then 1 else 0) + (dV (args.take i) : Nat)))]) [1] (fun i => i ≤ args.length) (fun i => args.length - i) (0) rfl ?I3 ?M3 ?H3
   case I3 =>
    exact Nat.zero_le _
   case M3 =>
    refine mo ?_ (aH (eh rfl (by exact Fit.of_eq (by simp [dV]; rfl)) (aH dF)))
    repeat (first | exact cW | refine bh ?_)
   case H3 =>
    rintro i hinv
    try dsimp only at hinv
    refine kc 0 [4, 3, 1] 10 ?_;refine cJ (fun h5 => ?_) (fun h5 => ?_)
    ·refine kc 5 [3] 7 ?_;refine ez ?_
     rw [List.take_of_length_le (by omega)]
     simp only [aJ.eg]
     split <;> rfl
    refine kc 4 [4, 3, 1] 0 ?_
    obtain ⟨k', s', a', hget⟩ := cU (show i < args.length by omega)
    have hsz' := iT hget
    have hst := tU args (i + 1)
    have hst1 := rU hget
    refine gc 5 ?_;refine o1 (bV ee ei ?_ (he := by exact (cZ hget)));refine go 1 ?_;refine oc (cv xl rfl rfl (ih k' s' a' (by omega) (by omega)) (bd .nil) ?_);refine o1 (cw ?_);refine ko 4 [3, 4, 1] 2 ?_;refine o1 (cw ?_);refine go 2 ?_;refine bi (i + 1) rfl ?_ ?_
    ·exact ⟨by omega, by omega⟩
    ·refine mo ?_ (aH (eh rfl (by exact Fit.of_eq (by rw [rU hget]; simp only [int, Int.natCast_add, ← Int.add_assoc]; rfl)) (aH dF)))
     repeat (first | exact cW | refine bh ?_)
def p3 (i : Nat) : Nat := 3 ^ i
theorem Cx (i : Nat) : p3 (i + 1) = p3 i * 3 := by simp [p3, Nat.pow_succ]
theorem Cy {i : Nat} (h : i ≤ 6) : 1 ≤ p3 i ∧ p3 i ≤ 729 := by
 rcases (show i = 0 ∨ i = 1 ∨ i = 2 ∨ i = 3 ∨ i = 4 ∨ i = 5 ∨ i = 6 by omega) with rfl | rfl | rfl | rfl | rfl | rfl | rfl <;> decide
def dv (k i : Nat) : Nat := k / 3 ^ i
theorem HS (k i : Nat) : dv k i ≤ k := Nat.div_le_self _ _
theorem CU (k i : Nat) : dv k (i + 1) = dv k i / 3 := by unfold dv; rw [Nat.pow_succ, ← Nat.div_div_eq_div_mul]
theorem CT (k : Nat) : dv k 0 = k := by unfold dv; rw [Nat.pow_zero, Nat.div_one]
theorem yB (oO : Int) (r : Nat) : [[D.v (.int .i64 0)], [D.v (.int .i64 1)], [D.v (.int .i64 oO)]][((r : Int) % 3).toNat]? = some [D.v (.int .i64 (tQ oO r))] := by
 have e : ((r : Int) % 3).toNat = r % 3 := by omega
 have : r % 3 < 3 := Nat.mod_lt _ (by omega)
 rw [e]
 unfold tQ
 rcases (show r % 3 = 0 ∨ r % 3 = 1 ∨ r % 3 = 2 by omega) with h | h | h <;> simp [h]
theorem vd {oO : Int} (h0 : 0 ≤ oO) (h1 : oO ≤ 4398046511104) {k n : Nat} : ∀ d ∈ oK oO k n, -4398046511104 ≤ d ∧ d ≤ 4398046511104 := fun d hd => by
 unfold oK at hd
 obtain ⟨j, _, rfl⟩ := List.mem_map.1 hd
 exact yA h0 h1 _
theorem iw : ∀ (l : cB) (ah : List ByteArray), ah.length ≤ (l.params ah).length
 | .zero, _ => Nat.le_refl _
 | .succ a, ah => iw a ah
 | .max a b, ah => Nat.le_trans (iw a ah) (iw b _)
 | .imax a b, ah => Nat.le_trans (iw a ah) (iw b _)
 | .param s, ah => by simp only [cB.params]; split <;> simp
theorem wE (a b : cB) (hps : (a.ps b).length ≤ 6) (hsa : a.size ≤ 1000000000000) (hsb : b.size ≤ 1000000000000) :
 cD Tryz.prog gl 114 [a.bG.d, b.bG.d] (· = .v (.bool (nk a b))) := by
 have hla := a.gB
 have hlb := b.gB
 have hza := a.dq
 have hzb := b.dq
 have hpa := a.dz []
 have hpb := b.dz (a.params [])
 have hSa := a.fw
 have hSb := b.fw
 have hplen := a.bG.pU []
 have hpge : (a.params []).length ≤ (a.ps b).length := iw b _
 have hbig : 0 ≤ a.oO b ∧ a.oO b ≤ 4398046511104 := by unfold cB.oO; omega
 have hWa := fun k => tG (gl := gl) (a.ps b) (oK (a.oO b) k (a.ps b).length) (by rw [oJ]; exact Nat.le_refl _) (by omega) (vd hbig.1 hbig.2) a (by omega)
 have hWb := fun k => tG (gl := gl) (a.ps b) (oK (a.oO b) k (a.ps b).length) (by rw [oJ]; exact Nat.le_refl _) (by omega) (vd hbig.1 hbig.2) b (by omega)
 have hsl := bU (a.ps b)
 rw [hpa] at hplen
 simp only [List.length_nil, Nat.zero_add] at hplen
 obtain ⟨ka, na, aa, hXa⟩ := aJ.case a.bG
 obtain ⟨kb, nb, ab, hXb⟩ := aJ.case b.bG
 rw [hXa] at hpa hza hSa hWa hplen
 rw [hXb] at hpb hzb hSb hWb
 rw [hXa, hXb]
 have hp1 := oh (gl := gl) _ ka na aa [] (Nat.le_refl _) (by simp; omega)
 have hp2 := oh (gl := gl) _ kb nb ab (a.params []) (Nat.le_refl _) (by omega)
 rw [hpa] at hp1
 rw [hpb] at hp2
 have hs1 := tT (gl := gl) _ ka na aa (Nat.le_refl _) (by omega)
 have hs2 := tT (gl := gl) _ kb nb ab (Nat.le_refl _) (by omega)
 rw [hSa] at hs1
 rw [hSb] at hs2
 have hpsdef : b.params (a.params []) = a.ps b := rfl
 rw [hpsdef] at hp2
 have hbe : (2 : Int) + (a.eg : Int) + (b.eg : Int) = a.oO b := rfl
 refine bD Tryz.func114 Tryz.ntmps114 ?_;refine gc 8 ?_;refine bq 9 1 rfl ?_;refine gz [0, 1] mixed ?_;refine A2 2 rfl (ck vm rfl rfl (hp1) [2] rfl (p6 .nil) (bd (.cons (.nil rfl) .nil)) ?_);refine A2 3 rfl (ck vm rfl rfl (hp2) [2] rfl (cu .nil) (bd (an .nil)) ?_);refine ga [4] ?_;refine aQ ?_;refine ke 2 [5, 3, 2] 0 ?_;refine gz [0, 3] mixed ?_;refine A2 1 rfl (cv xl rfl rfl (hs1) (bd .nil) ?_);refine A1 2 rfl (cw ⟨_, rfl, ?_⟩);refine A2 4 rfl (cv xl rfl rfl (hs2) (bd .nil) ?_);refine A1 5 rfl (cw ⟨_, rfl, ?_⟩);refine ga [6] ?_;refine aQ ?_;refine ke 2 [6, 5, 3, 2] 0 ?_
 rw [hbe]
 refine gc 2 ?_;refine oc (gR nY [.const (.int .i64 0), .const (.int .i64 1), .tmp 24] AE ?_);refine ko 15 [9, 8, 7, 5, 3, 2] 0 ?_;refine lP (ι := Nat) (fun i => [(9, int i), (8, int (p3 i))]) [7, 5, 3, 2] (fun i => i ≤ (a.ps b).length) (fun i => (a.ps b).length - i) (0) rfl ?I4 ?M4 ?H4
 case I4 =>
  exact Nat.zero_le _
 case M4 =>
  exact mz
 case H4 =>
  rintro i hinv
  try dsimp only at hinv
  refine kc 0 [9, 8, 7, 5, 3, 2] 9 ?_;refine cj (fun h6 => ?_) (fun h6 => ?_)
  ·refine kc 4 [9, 8, 7, 5, 3, 2] 0 ?_
   have hp3 := Cy (i := i) (by omega)
   refine gc 2 ?_;refine o1 (uZ rfl rfl rfl (by omega) ?_);refine go 6 ?_;refine o1 (cw ?_);refine go 2 ?_;refine bi (i + 1) rfl ?_ ?_
   ·exact ⟨by omega, by omega⟩
   ·refine mo ?_ (aH (eh rfl (by exact Fit.of_eq (by rw [Cx]; rfl)) (aH (aH (aH (aH dF))))))
    repeat (first | exact cW | refine bh ?_ | refine cu ?_)
  refine kc 7 [8, 7, 5, 3, 2] 0 ?_
  have hi : i = (a.ps b).length := by omega
  subst hi
  have hp3 := Cy hps
  refine gc 5 ?_;refine lP (ι := Nat) (fun k => [(10, int k)]) [8, 7, 5, 3, 2] (fun k => k ≤ p3 (a.ps b).length ∧ ∀ j, j < k → yV a b j) (fun k => p3 (a.ps b).length - k) (0) rfl ?I5 ?M5 ?H5
  case I5 =>
   exact ⟨Nat.zero_le _, fun j hj => by omega⟩
  case M5 =>
   exact mz
  case H5 =>
   rintro k hinv
   try dsimp only at hinv
   refine kc 0 [10, 8, 7, 5, 3, 2] 8 ?_;refine cJ (fun h10 => ?_) (fun h10 => ?_)
   ·refine kc 5 [] 6 ?_;refine ez ?_
    have : nk a b = true := by
     unfold nk
     exact decide_eq_true fun j hj => hinv.2 j (by have hj' : j < p3 _ := hj; omega)
    rw [this]
   refine gc 5 ?_
   have houter := hinv
   refine kc 11 [12, 11, 10, 8, 7, 5, 3, 2] 6 ?_;refine bq 3 1 rfl ?_;refine lp (ι := Nat) (fun i => [(13, int i), (12, int (dv k i)), (11, .own 4 1 (ints (oK (a.oO b) k i)))]) (fun i => [.cells [.d (.v (.int .i64 ka)), .d (.v (.string na)), .d (.sl 3 (bF aa))] 121, .cells [.d (.v (.int .i64 kb)), .d (.v (.string nb)), .d (.sl 3 (bF ab))] 121, .row 9 1, .row 3 1, .row 3 1]) [10, 8, 7, 5, 3, 2] (fun i => i ≤ (a.ps b).length) (fun i => (a.ps b).length - i) (0) ([0, 1, 2, 3, 4]) rfl ?I6 ?M6 ?H6
   case I6 =>
    exact Nat.zero_le _
   case M6 =>
    refine mo ?_ (aH (eh rfl (by exact Fit.of_eq (by rw [CT]; rfl)) (eh rfl (by exact .nil rfl) (aH (aH (aH (aH (aH (aH dF)))))))))
    repeat (first | exact cW | refine bh ?_ | refine cu ?_ | refine p6 ?_)
   case H6 =>
    rintro i hinv
    try dsimp only at hinv
    refine kc 0 [13, 12, 11, 10, 8, 7, 5, 3, 2] 9 ?_;refine cj (fun h15 => ?_) (fun h15 => ?_)
    ·refine kc 5 [13, 12, 11, 10, 8, 7, 5, 3, 2] 0 ?_
     have hil := eP (oK (a.oO b) k i)
     have hdl := oJ (a.oO b) k i
     have hk3 := HS k i
     refine gc 4 ?_;refine o1 (FN ?_);refine o1 (wU iQ jh ?_ (he := by exact (yB (a.oO b) (dv k i))));refine go 1 ?_;refine oc (gR nY [.tmp 51] AE ?_);refine oc (nU nY ?_);refine ko 3 [11, 13, 12, 10, 8, 7, 5, 3, 2] 2 ?_;refine o1 (Br rfl rfl rfl (by omega) ?_);refine go 6 ?_;refine o1 (cw ?_);refine go 2 ?_;refine bk (i + 1) rfl ?_ ([0, 1, 2, 3, 4]) ?_
     ·exact ⟨by omega, by omega⟩
     ·refine mo ?_ (aH (eh rfl (by exact Fit.of_eq (by rw [CU]; rfl)) (eh rfl (by exact Fit.of_eq (by rw [w0, ← qC]; rfl)) (aH (aH (aH (aH (aH (aH dF)))))))))
      repeat (first | exact cW | refine bh ?_ | refine cu ?_)
    refine kc 6 [11, 10, 8, 7, 5, 3, 2] 0 ?_
    have hi : i = (a.ps b).length := by omega
    subst hi
    have hba := a.fu (σ := hZ (a.ps b) (oK (a.oO b) k (a.ps b).length)) (B := 4398046511104) (by omega) (fun s => pT (by omega) (vd hbig.1 hbig.2))
    refine gz [0, 1, 2, 4, 5, 6] mixed ?_;refine A2 3 rfl (cv kz rfl rfl (hWa k) (bd (bd (bd .nil))) ?_);refine A2 7 rfl (cv kz rfl rfl (hWb k) (bd (bd (bd .nil))) ?_);refine ga [8] ?_;refine aQ ?_;refine ge 1 ?_;refine cj (fun h19 => ?_) (fun h19 => ?_)
    ·refine kc 0 [] 11 ?_;refine ez ?_
     have : nk a b = false := by
      unfold nk
      refine decide_eq_false fun hall => ?_
      have h5 := hall k (show k < p3 _ by omega)
      unfold yV at h5
      omega
     rw [this]
    refine kc 3 [10, 8, 7, 5, 3, 2] 2 ?_;refine o1 (cw ?_);refine go 2 ?_;refine bi (k + 1) rfl ?_ mz
    ·refine ⟨⟨by omega, fun j hj => ?_⟩, by omega⟩
     rcases Nat.lt_or_ge j k with h | h
     ·exact houter.2 j h
     ·obtain rfl : j = k := by omega
      exact h19
theorem AS (a b : cB) (hps : (a.ps b).length ≤ 6) (hps2 : (b.ps a).length ≤ 6) (hsa : a.size ≤ 1000000000000) (hsb : b.size ≤ 1000000000000) :
 cD Tryz.prog gl 71 [a.bG.d, b.bG.d] (· = .v (.bool (nk a b && nk b a))) := by
 have h1 := wE (gl := gl) a b hps hsa hsb
 have h2 := wE (gl := gl) b a hps2 hsb hsa
 obtain ⟨ka, na, aa, hXa⟩ := aJ.case a.bG
 obtain ⟨kb, nb, ab, hXb⟩ := aJ.case b.bG
 rw [hXa, hXb] at h1 h2 ⊢
 refine bD Tryz.func71 Tryz.ntmps71 ?_;refine gc 11 ?_;refine oc (cv vk rfl rfl (h1) (bd (bd .nil)) ?_);refine ko 3 [5, 3, 2] 4 ?_;refine oc (cv vk rfl rfl (h2) (bd (bd .nil)) ?_);refine ko 3 [6, 5] 4 ?_
 refine' oa (yt := 15) (d := 14) 1 ?a1 ?b1 ?_
 case a1 =>
  intro hc hK
  refine go 1 ?_; exact hK [_] rfl rfl
 case b1 =>
  intro _ hK; refine go 1 ?_; exact hK [_] rfl
 refine go 4 ?_;refine ez ?_
 rfl
end Go.Proofs.YtndbnldjidciiaaGreatDoor
namespace Go.Proofs.YtndbnldjidciiaaGreatDoor
open Go Go.Vd Go.RowKit
attribute [local irreducible] bl br de aj bI cY
variable {gl : Nat → List D}
theorem qo : ∀ (n : Nat) (k : Int) (s : ByteArray) (args : List aJ) (k2 : Int) (s2 : ByteArray) (args2 : List aJ), (aJ.mk k s args).size ≤ n → (aJ.mk k s args).size ≤ 1099511627776 →
 cD Tryz.prog gl 70 [(aJ.mk k s args).d, (aJ.mk k2 s2 args2).d] (· = .v (.bool (aJ.same (.mk k s args) (.mk k2 s2 args2)))) := by
 intro n
 induction n with
 | zero => intro k s args k2 s2 args2 h; simp [aJ.size] at h
 | succ n ih =>
  intro k s args k2 s2 args2 hn hb
  have hsz : aS args ≤ n := by simp [aJ.size] at hn; omega
  have hlen := bR args
  have hlen2 := bR args2
  have hlb := iA args
  simp only [aJ.size] at hb
  refine bD Tryz.func70 Tryz.ntmps70 ?_;refine gc 16 ?_
  refine' oo (yt := 17) (d := 12) 5 ?a1 ?b1 ?_
  case a1 =>
   intro hc hK
   refine go 5 ?_; exact hK [_, _, _, _, _] rfl rfl
  case b1 =>
   intro _ hK; refine go 5 ?_; exact hK [_, _, _, _, _] rfl
  refine go 1 ?_
  refine' oo (yt := 26) (d := 19) 7 ?a2 ?b2 ?_
  case a2 =>
   intro hc hK
   refine go 7 ?_
   exact hK [_, _, _, _, _, _, _] rfl rfl
  case b2 =>
   intro _ hK; refine go 7 ?_; exact hK [_, _, _, _, _, _, _] rfl
  refine go 2 ?_;refine cj (fun h1 => ?_) (fun h1 => ?_)
  ·refine kc 0 [] 7 ?_;refine ez ?_
   rw [aJ.iL]
   rcases h1 with (h | h) | h
   ·simp [h]
   ·simp [h]
   ·have : eE args args2 = false := by
     cases hs : eE args args2 with
     | false => rfl
     | true => exact absurd (by have := rf hs; omega) h
    simp [this]
  refine kc 3 [3, 2] 6 ?_;refine lP (ι := Nat) (fun i => [(5, int i)]) [3, 2] (fun i => i ≤ args.length ∧ eE (args.take i) (args2.take i) = true) (fun i => args.length - i) (0) rfl ?I3 ?M3 ?H3
  case I3 =>
   exact ⟨Nat.zero_le _, by simp [eE]⟩
  case M3 =>
   exact mz
  case H3 =>
   rintro i hinv
   try dsimp only at hinv
   refine kc 0 [5, 3, 2] 10 ?_;refine cJ (fun h4 => ?_) (fun h4 => ?_)
   ·refine kc 5 [] 6 ?_;refine ez ?_
    rw [aJ.iL]; have h9 := hinv.2; rw [List.take_of_length_le (by omega), List.take_of_length_le (by omega)] at h9; simp [h9, h1]
   refine kc 5 [5, 3, 2] 0 ?_
   obtain ⟨k', s', a', hget⟩ := cU (show i < args.length by omega); obtain ⟨k2', s2', a2', hget2⟩ := cU (show i < args2.length by omega)
   have hsz' := iT hget
   refine gz [0, 1, 2] mixed ?_;refine A1 3 rfl (bV ee ei ⟨_, rfl, ?_⟩ (he := by exact (cZ hget)));refine ga [4, 5, 6, 7] ?_;refine A1 8 rfl (bV ee ei ⟨_, rfl, ?_⟩ (he := by exact (cZ hget2)));refine ga [9] ?_;refine A2 10 rfl (cv F2 rfl rfl (ih k' s' a' k2' s2' a2' (by omega) (by omega)) (bd (bd .nil)) ?_);refine ga [11] ?_;refine aQ ?_;refine ke 1 [6, 5, 3, 2] 6 ?_;refine cj (fun h7 => ?_) (fun h7 => ?_)
   ·refine kc 0 [] 11 ?_;refine ez ?_
    rw [aJ.iL]; rw [n6 hget hget2 h7]; simp
   refine gc 5 ?_;refine o1 (cw ?_);refine go 2 ?_;refine bi (i + 1) rfl ?_ mz
   exact ⟨⟨by omega, by rw [ug hget hget2]; simp [hinv.2, h7]⟩, by omega⟩
end Go.Proofs.YtndbnldjidciiaaGreatDoor
namespace Go.Vd
open Go Go.RowKit
theorem gE {l : List ae} {i : Nat} {a : ae} (h : l[i]? = some a) : ai (l.take (i + 1)) = ai (l.take i) + a.size := by
 rw [List.take_add_one, h]
 have : ∀ (l m : List ae), ai (l ++ m) = ai l + ai m := fun l m => by
  induction l with
  | nil => simp [ai]
  | cons a r ih => simp [ai, ih]; omega
 simp [this, ai]
theorem ja (l : List ae) (i : Nat) : ai (l.take i) ≤ ai l := by
 induction l generalizing i with
 | nil => simp [ai]
 | cons a r ih =>
  cases i with
  | zero => simp [ai]
  | succ i => have := ih i; simp only [List.take_succ_cons, ai]; omega
end Go.Vd
namespace Go.Proofs.YtndbnldjidciiaaGreatDoor
open Go Go.Vd Go.RowKit
attribute [local irreducible] bl br de aj bI cY
variable {g gl : Nat → List D}
theorem nn {L : List ByteArray} (hn : L.length ≤ 6) {a b : cB} (ha : ∀ p, a.has p → p ∈ L) (hb : ∀ p, b.has p → p ∈ L) : (a.ps b).length ≤ 6 := by
 refine Nat.le_trans (rk (b := L) ?_ fun x hx => ?_) hn
 ·exact b.eX (a.eX List.nodup_nil)
 ·rcases b.iv hx with h | h
  ·rcases a.iv h with h | h
   ·cases h
   ·exact ha x h
  ·exact hb x h
variable {sg : Sg} {ps : List ByteArray}
theorem Ik (hL : ps.length ≤ 6) : ∀ (n : Nat) (k m : Int) (s : ByteArray) (ls : List aJ) (args : List ae) (k2 m2 : Int) (s2 : ByteArray) (ls2 : List aJ) (args2 : List ae) (c c2 : Int), (ae.mk k m s ls args).size ≤ n → (ae.mk k m s ls args).size ≤ 1000000000000 → (ae.mk k2 m2 s2 ls2 args2).size ≤ 1000000000000 →
 Wt sg ps (.mk k m s ls args) c → Wt sg ps (.mk k2 m2 s2 ls2 args2) c2 →
 cD Tryz.prog gl 40 [(ae.mk k m s ls args).d, (ae.mk k2 m2 s2 ls2 args2).d, .v (.bool true)] fun d => ∃ b : Bool, d = .v (.bool b) := by
 intro n
 induction n with
 | zero => intro k m s ls args k2 m2 s2 ls2 args2 c c2 h; simp [ae.size] at h
 | succ n ih =>
  intro k m s ls args k2 m2 s2 ls2 args2 c c2 hn hb hb2 hw hw2
  have hlen := bf args
  have hlen2 := bf args2
  have hlb := bA args
  have hlenL := bR ls
  have hlenL2 := bR ls2
  have hlbL := iA ls
  simp only [ae.size] at hn hb hb2
  refine bD Tryz.func40 Tryz.ntmps40 ?_;refine gc 16 ?_
  refine' oo (yt := 21) (d := 16) 5 ?a1 ?b1 ?_
  case a1 =>
   intro hc hK
   refine go 5 ?_; exact hK [_, _, _, _, _] rfl rfl
  case b1 =>
   intro _ hK; refine go 5 ?_; exact hK [_, _, _, _, _] rfl
  refine go 1 ?_
  refine' oo (yt := 28) (d := 23) 5 ?a2 ?b2 ?_
  case a2 =>
   intro hc hK
   refine go 5 ?_; exact hK [_, _, _, _, _] rfl rfl
  case b2 =>
   intro _ hK; refine go 5 ?_; exact hK [_, _, _, _, _] rfl
  refine go 1 ?_
  refine' oo (yt := 37) (d := 30) 7 ?a3 ?b3 ?_
  case a3 =>
   intro hc hK
   refine go 7 ?_
   exact hK [_, _, _, _, _, _, _] rfl rfl
  case b3 =>
   intro _ hK; refine go 7 ?_; exact hK [_, _, _, _, _, _, _] rfl
  refine go 1 ?_
  refine' oo (yt := 46) (d := 39) 7 ?a4 ?b4 ?_
  case a4 =>
   intro hc hK
   refine go 7 ?_
   exact hK [_, _, _, _, _, _, _] rfl rfl
  case b4 =>
   intro _ hK; refine go 7 ?_; exact hK [_, _, _, _, _, _, _] rfl
  refine go 2 ?_;refine cj (fun h1 => ?_) (fun h1 => ?_)
  ·refine kc 0 [] 7 ?_;refine ez ?_; exact ⟨_, rfl⟩
  refine kc 3 [4, 3, 2] 6 ?_;refine lP (ι := Nat) (fun i => [(7, int i)]) [4, 3, 2] (fun i => i ≤ ls.length) (fun i => ls.length - i) (0) rfl ?I9 ?M9 ?H9
  case I9 =>
   exact Nat.zero_le _
  case M9 =>
   exact mz
  case H9 =>
   rintro i hinv
   try dsimp only at hinv
   refine kc 0 [7, 4, 3, 2] 10 ?_;refine cJ (fun h4 => ?_) (fun h4 => ?_)
   ·refine kc 6 [4, 3, 2] 6 ?_;refine lP (ι := Nat) (fun j => [(9, int j)]) [4, 3, 2] (fun j => j ≤ args.length) (fun j => args.length - j) (0) rfl ?I10 ?M10 ?H10
    case I10 =>
     exact Nat.zero_le _
    case M10 =>
     exact mz
    case H10 =>
     rintro j hinv
     try dsimp only at hinv
     refine kc 0 [9, 4, 3, 2] 10 ?_;refine cJ (fun h12 => ?_) (fun h12 => ?_)
     ·refine kc 5 [] 6 ?_;refine ez ?_
      exact ⟨_, rfl⟩
     refine kc 5 [9, 4, 3, 2] 0 ?_
     obtain ⟨k', n', s', l', a', hget⟩ := bQ (show j < args.length by omega); obtain ⟨k2', n2', s2', l2', a2', hget2⟩ := bQ (show j < args2.length by omega)
     have hsz' := bC hget
     have hsz2' := bC hget2
     refine gz [0, 1, 2] mixed ?_;refine A1 3 rfl (bV bE bK ⟨_, rfl, ?_⟩ (he := by exact (bY hget)));refine ga [4, 5, 6, 7] ?_;refine A1 8 rfl (bV bE bK ⟨_, rfl, ?_⟩ (he := by exact (bY hget2)));refine ga [9, 10] ?_;refine A2 (T := fun _ => False) 11 rfl (bo F5 rfl rfl rfl rfl (ih k' n' s' l' a' k2' n2' s2' l2' a2' _ _ (by omega) (by omega) (by omega) (fQ.get hw.2.1 hget) (fQ.get hw2.2.1 hget2)) (bd (bd (an .nil))) (fun d hd => ?_))
     obtain ⟨r2, rfl⟩ := hd; refine ga [12] ?_;refine aQ ?_;refine ke 1 [10, 9, 4, 3, 2] 6 ?_;refine cj (fun h15 => ?_) (fun h15 => ?_)
     ·refine kc 0 [] 11 ?_;refine ez ?_; exact ⟨_, rfl⟩
     refine gc 5 ?_;refine o1 (cw ?_);refine go 2 ?_;refine bi (j + 1) rfl ?_ mz
     exact ⟨by omega, by omega⟩
   refine kc 5 [7, 4, 3, 2] 0 ?_
   obtain ⟨k', s', a', hget⟩ := cU (show i < ls.length by omega); obtain ⟨k2', s2', a2', hget2⟩ := cU (show i < ls2.length by omega)
   have hsz' := iT hget
   have hsz2' := iT hget2
   obtain ⟨x, hx, fx, ix⟩ := hw.1 _ (List.mem_of_getElem? hget); obtain ⟨y, hy, fy, iy⟩ := hw2.1 _ (List.mem_of_getElem? hget2)
   have sx := x.dq
   have sy := y.dq
   have hrs := AS (gl := gl) x y (nn hL ix iy) (nn hL iy ix) (by rw [← hx] at sx; omega) (by rw [← hy] at sy; omega)
   rw [← hx, ← hy] at hrs
   have hss := qo (gl := gl) _ k' s' a' k2' s2' a2' (Nat.le_refl _) (by omega)
   refine gz [0, 1, 2] mixed ?_;refine A1 3 rfl (bV ee ei ⟨_, rfl, ?_⟩ (he := by exact (cZ hget)));refine ga [4, 5, 6, 7] ?_;refine A1 8 rfl (bV ee ei ⟨_, rfl, ?_⟩ (he := by exact (cZ hget2)));refine ga [9] ?_;refine A2 10 rfl (cv F2 rfl rfl (hss) (bd (bd .nil)) ?_);refine ga [11] ?_;refine aQ ?_;refine ke 2 [8, 7, 4, 3, 2] 5 ?_
   refine' oa (yt := 69) (d := 68) 1 ?a5 ?b5 ?_
   case a5 =>
    intro hc hK
    refine go 1 ?_; exact hK [_] rfl rfl
   case b5 =>
    intro _ hK; refine go 1 ?_; exact hK [_] rfl
   refine ko 2 [70, 8, 7, 4, 3, 2] 0 ?_;refine xc (ι := Bool) (fun r => [(8, .d (.v (.bool r)))]) [7, 4, 3, 2] (fun r => True) rfl ?A11 ?B11
   case A11 =>
    refine cJ (fun h7 => ?_) (fun h7 => ?_)
    ·refine gc 1 ?_;refine bi (aJ.same (.mk k' s' a') (.mk k2' s2' a2')) rfl ?_ mz
     trivial
    refine gz [0, 1, 2] mixed ?_;refine A1 3 rfl (bV ee ei ⟨_, rfl, ?_⟩ (he := by exact (cZ hget)));refine ga [4, 5, 6, 7] ?_;refine A1 8 rfl (bV ee ei ⟨_, rfl, ?_⟩ (he := by exact (cZ hget2)));refine ga [9] ?_;refine A2 10 rfl (cv Kl rfl rfl (hrs) (bd (bd .nil)) ?_);refine ga [11] ?_;refine aQ ?_;refine bi (nk x y && nk y x) rfl ?_ mz
    trivial
   case B11 =>
    rintro r hcut
    try dsimp only at hcut
    refine kc 0 [8, 7, 4, 3, 2] 6 ?_;refine cj (fun h9 => ?_) (fun h9 => ?_)
    ·refine kc 0 [] 11 ?_;refine ez ?_; exact ⟨_, rfl⟩
    refine gc 5 ?_;refine o1 (cw ?_);refine go 2 ?_;refine bi (i + 1) rfl ?_ mz
    exact ⟨by omega, by omega⟩
theorem yF : ∀ (n : Nat) (k m : Int) (s : ByteArray) (ls : List aJ) (args : List ae) (v : Int), (ae.mk k m s ls args).size ≤ n → (ae.mk k m s ls args).size ≤ 1099511627776 → 0 ≤ v → v + (ae.mk k m s ls args).size ≤ 4398046511104 →
 cD Tryz.prog gl 81 [(ae.mk k m s ls args).d, .v (.int .i64 v)] fun d => ∃ b : Bool, d = .v (.bool b) := by
 intro n
 induction n with
 | zero => intro k m s ls args v h; simp [ae.size] at h
 | succ n ih =>
  intro k m s ls args v hsz hb hv0 hv1
  simp only [ae.size] at hsz hb hv1
  have hal := bf args
  have hsa := bA args
  refine bD Tryz.func81 Tryz.ntmps81 ?_;refine gc 14 ?_;refine cj (fun h1 => ?_) (fun h1 => ?_)
  ·refine kc 0 [2, 1] 11 ?_;refine ez ?_
   exact ⟨_, rfl⟩
  refine kc 3 [2, 1] 6 ?_;refine lP (ι := Nat) (fun i => [(5, int i)]) [2, 1] (fun i => i ≤ args.length) (fun i => args.length - i) (0) rfl ?I12 ?M12 ?H12
  case I12 =>
   exact Nat.zero_le _
  case M12 =>
   exact mz
  case H12 =>
   rintro i hinv
   try dsimp only at hinv
   refine kc 0 [5, 2, 1] 10 ?_;refine cJ (fun h4 => ?_) (fun h4 => ?_)
   ·refine kc 5 [] 6 ?_;refine ez ?_
    exact ⟨_, rfl⟩
   refine kc 5 [5, 2, 1] 0 ?_
   obtain ⟨k2, m2, s2, l2, a2, hget⟩ := bQ (show i < args.length by omega)
   have hg1 := bC hget
   refine gc 10 ?_;refine oc (cv Hq rfl rfl (kF k m s ls args i (by omega)) (bd (an .nil)) ?_);refine ko 2 [25, 6, 5, 2, 1] 0 ?_;refine xc (ι := Unit) (fun _ => [(6, int (if decide (4 ≤ k) = true ∧ i + 1 = args.length then v + 1 else v))]) [5, 2, 1] (fun _ => True) rfl ?A13 ?B13
   case A13 =>
    refine cJ (fun h7 => ?_) (fun h7 => ?_)
    ·refine gc 1 ?_;refine bi (()) rfl ?_ ?_
     ·trivial
     ·refine mo ?_ (eh rfl (by exact Fit.of_eq (by first | (rw [if_pos (by simp only [decide_eq_true_eq]; omega)]; rfl) | (rw [if_neg (by simp only [decide_eq_true_eq]; omega)]; rfl))) (aH (aH (aH dF))))
      repeat (first | exact cW | refine bh ?_)
    refine gc 2 ?_;refine o1 (cw ?_);refine go 2 ?_;refine bi (()) rfl ?_ ?_
    ·trivial
    ·refine mo ?_ (eh rfl (by exact Fit.of_eq (by first | (rw [if_pos (by simp only [decide_eq_true_eq]; omega)]; rfl) | (rw [if_neg (by simp only [decide_eq_true_eq]; omega)]; rfl))) (aH (aH (aH dF))))
     repeat (first | exact cW | refine bh ?_)
   case B13 =>
    rintro _ hcut
    try dsimp only at hcut
    refine kc 0 [6, 5, 2, 1] 1 ?_
    have hihx := ih k2 m2 s2 l2 a2 (if decide (4 ≤ k) = true ∧ i + 1 = args.length then v + 1 else v) (by omega) (by omega) (by split <;> omega) (by split <;> omega)
    refine gc 4 ?_;refine o1 (bV bE bK ?_ (he := by exact (bY hget)));refine go 2 ?_;refine oc (T := fun _ => False) (bo Kj rfl rfl rfl rfl (hihx) (bd (an .nil)) (fun d hd => ?_)); obtain ⟨r2, rfl⟩ := hd; refine ko 3 [7, 5, 2, 1] 5 ?_;refine cj (fun h10 => ?_) (fun h10 => ?_)
    ·refine kc 0 [] 11 ?_;refine ez ?_; exact ⟨_, rfl⟩
    refine gc 5 ?_;refine o1 (cw ?_);refine go 2 ?_;refine bi (i + 1) rfl ?_ mz
    exact ⟨by omega, by omega⟩
mutual
theorem nj {v : ae} (hv : v.size ≤ 1) : ∀ (t : ae) (d : Int), (eL (dD v) t d).size ≤ t.size
 | .mk k n s ls args, d => by
  by_cases hk : k = 0
  ·rw [eL, if_pos hk, dD]
   split
   ·simp only [ae.size]; omega
   ·split
    ·rw [iu]; simp only [ae.size]; omega
    ·simp only [ae.size]; omega
  ·rw [eL, if_neg hk]
   have := rY hv args (decide (4 ≤ k)) d
   simp only [ae.size]; omega
theorem rY {v : ae} (hv : v.size ≤ 1) : ∀ (l : List ae) (b : Bool) (d : Int), ai (b0 (dD v) b l d) ≤ ai l
 | [], b, d => by simp [b0]
 | t :: r, b, d => by
  have h1 := nj hv t (if b && r.isEmpty then d + 1 else d)
  have h2 := rY hv r b d
  simp only [b0, ai]; omega
end
theorem fQ.Fb {sg : Sg} {ps : List ByteArray} {b : Bool} {c : Int} : ∀ {l : List ae}, (∀ (j : Nat) y, l[j]? = some y → Wt sg ps y (if b = true ∧ j + 1 = l.length then c + 1 else c)) → fQ sg ps b l c
 | [], _ => trivial
 | t :: r, h => by
  refine ⟨?_, fQ.Fb fun j y hy => ?_⟩
  ·have := h 0 t rfl
   cases r with
   | nil => simpa using this
   | cons a r => simpa using this
  ·have := h (j + 1) y hy
   simpa using this
theorem AK : ∀ (n : Nat) (k m : Int) (s : ByteArray) (ls : List aJ) (args : List ae) (c : Int), (ae.mk k m s ls args).size ≤ n → (ae.mk k m s ls args).size ≤ 1000000000000 → 0 ≤ c → c + (ae.mk k m s ls args).size ≤ 2000000000000 → Wt sg ps (.mk k m s ls args) c →
 cD Tryz.prog gl 49 [(ae.mk k m s ls args).d] fun d => ∃ u : ae, d = u.d ∧ Wt sg ps u (c + (ae.mk k m s ls args).size) ∧ u.size ≤ (ae.mk k m s ls args).size := by
 intro n
 induction n with
 | zero => intro k m s ls args c h; simp [ae.size] at h
 | succ n ih =>
  intro k m s ls args c hsz hb hc hcz hw
  have hTz : (ae.mk k m s ls args).size = 1 + aS ls + ai args := rfl
  have hal := bf args
  have hsa := bA args
  generalize hG : (ae.mk k m s ls args).size = G at hTz hsz hb hcz ⊢
  refine bD Tryz.func49 Tryz.ntmps49 ?_;refine kc 18 [4, 3, 2, 1] 0 ?_;refine bq 39 5 rfl ?_;refine lp (ι := Nat × List ae) (fun ⟨i, ys⟩ => [(4, int i), (3, .own 2 5 (ba ys))]) (fun ⟨i, ys⟩ => [tO k m s ls args, zO, tR]) [2, 1] (fun ⟨i, ys⟩ => i ≤ args.length ∧ ys.length = i ∧ ai ys ≤ ai (args.take i) ∧ ∀ (j : Nat) y, ys[j]? = some y → Wt sg ps y (if decide (4 ≤ k) = true ∧ j + 1 = args.length then c + ai args + 1 else c + ai args)) (fun ⟨i, ys⟩ => args.length - i) ((0, [])) ([0, 1, 2]) rfl ?I14 ?M14 ?H14
  case I14 =>
   exact ⟨Nat.zero_le _, rfl, Nat.zero_le _, fun j y h => by cases h⟩
  case M14 =>
   refine mo ?_ (aH (eh rfl (by exact Fit.nil rfl) (aH (aH dF))))
   repeat (first | exact cW | refine bh ?_ | refine p6 ?_)
  case H14 =>
   rintro ⟨i, ys⟩ hinv
   try dsimp only at hinv
   refine kc 0 [4, 3, 2, 1] 10 ?_;refine cj (fun h3 => ?_) (fun h3 => ?_)
   ·refine kc 4 [4, 3, 2, 1] 0 ?_; obtain ⟨kx, mx, sx, lx, ax, hget⟩ := bQ (show i < args.length by omega)
    have hxz := bC hget
    have hxw := fQ.get hw.2.1 hget
    obtain ⟨cx, hcx, hcl⟩ : ∃ cx, cx = (if decide (4 ≤ k) = true ∧ i + 1 = args.length then c + 1 else c) ∧ c ≤ cx ∧ cx ≤ c + 1 := ⟨_, rfl, by split <;> omega, by split <;> omega⟩
    rw [← hcx] at hxw
    have hnm := ih kx mx sx lx ax cx (by omega) (by omega) (by omega) (by omega) hxw
    have hytl := bf ys
    have hyl := hinv.2.1
    refine gc 5 ?_;refine o1 (bV bE bK ?_ (he := by exact (bY hget)));refine go 1 ?_;refine oc (T := fun _ => False) (bo Hx rfl rfl rfl rfl (hnm) (bd .nil) (fun d hd => ?_)); obtain ⟨⟨kY, mY, sY, lY, aY⟩, rfl, hYw, hYz⟩ := hd
    have hnx : ba ys ++ [[.v (.int .i64 kY), .v (.int .i64 mY), .v (.string sY), .sl 3 (bF lY), .sl 5 (ba aY)]] = ba (ys ++ [.mk kY mY sY lY aY]) := (by rw [er]; rfl)
    refine oc (gR fA [.tmp 21] bM ?_);refine oc (nU fA ?_);refine ko 4 [3, 4, 2, 1] 2 ?_;refine o1 (cw ?_);refine go 2 ?_
    rw [hnx]
    refine bk (i + 1, ys ++ [.mk kY mY sY lY aY]) rfl ?_ [0, 1, 2] mz
    ·refine ⟨⟨by omega, by rw [List.length_append, hinv.2.1]; rfl, ?_, fun j y hy => ?_⟩, show args.length - (i + 1) < args.length - i by omega⟩
     ·have h1 := hinv.2.2.1
      have h2 := gE hget
      rw [c7]; simp only [ai]; omega
     ·have hyl := hinv.2.1
      rcases Nat.lt_or_ge j i with hji | hji
      ·rw [List.getElem?_append_left (by omega)] at hy; exact hinv.2.2.2 j y hy
      ·rw [List.getElem?_append_right (by omega)] at hy
       have hj : j = i := by
        have h3 := (List.getElem?_eq_some_iff.1 hy).1
        simp only [List.length_cons, List.length_nil] at h3
        omega
       subst hj
       rw [hyl, Nat.sub_self] at hy
       cases hy; refine hYw.up ?_
       rw [hcx]
       split <;> omega
   refine kc 6 [3, 2, 1] 0 ?_
   have hi : i = args.length := (by omega)
   have hyl := hinv.2.1
   have hyz := hinv.2.2.1
   have hy4 := hinv.2.2.2
   rw [hi, List.take_length] at hyz
   rw [hi] at hyl
   have hN : Wt sg ps (.mk k m s ls ys) (c + ai args) := ⟨hw.1, fQ.Fb (by rw [hyl]; exact hy4), by rw [hyl]; exact hw.2.2.imp (fun _ h => ⟨h.1, by omega⟩) fun _ h => h⟩
   have hNz : (ae.mk k m s ls ys).size ≤ G := (by simp only [ae.size]; omega)
   have hws := jr (gl := gl) k m s ls args ys
   obtain ⟨kb, mb, sb, lb, ab, hb1⟩ : ∃ kb mb sb lb ab, k = 4 → ys[1]? = some (.mk kb mb sb lb ab) := (by
    by_cases h : k = 4
    ·obtain ⟨A, ⟨kb, mb, sb, lb, ab⟩, e, _⟩ := hN.two (.inr (.inl h))
     exact ⟨kb, mb, sb, lb, ab, fun _ => by rw [e]; rfl⟩
    ·exact ⟨0, 0, .empty, [], [], fun e => absurd e h⟩)
   refine gc 3 ?_;refine oc (cv D9 rfl rfl (hws) (bd (bd .nil)) ?_);refine ko 4 [2, 1] 6 ?_
   refine' oo (yt := 36) (d := 30) 6 ?a6 ?b6 ?_
   case a6 =>
    intro hc hK
    refine go 2 ?_;refine gy ?_;refine o1 (bV bE bK ?_ (he := by exact (bY (hb1 hc))));refine go 3 ?_; exact hK [_, _, _, _, _, _] rfl rfl
   case b6 =>
    intro _ hK; refine go 6 ?_
    exact hK [_, _, _, _, _, _] rfl
   refine go 2 ?_;refine cj (fun h7 => ?_) (fun h7 => ?_)
   ·refine kc 0 [2, 1] 8 ?_;refine ed ((ae.mk k m s ls ys).d) ?_; exact ⟨_, rfl, hN.up (by omega), hNz⟩
   refine kc 3 [2, 1] 0 ?_; obtain rfl : k = 4 := (by omega); obtain rfl : kb = 3 := (by omega)
   obtain ⟨⟨kA, mA, sA, lA, aA⟩, bb, rfl, rfl, rfl, rfl, hA, hB⟩ := hN.two (.inr (.inl rfl)); obtain rfl : bb = .mk 3 mb sb lb ab := (by have := hb1 rfl; cases this; rfl)
   rw [if_neg (by decide)] at hB
   obtain ⟨⟨kf, mf, sf, lf, af⟩, ⟨kx, mx, sx, lx, ax⟩, rfl, rfl, rfl, rfl, hF, hX⟩ := hB.two (.inl rfl)
   have hFz : (ae.mk kf mf sf lf af).size + 3 ≤ G := (by simp only [ae.size, ai] at hNz ⊢; omega)
   have hst := yF (gl := gl) _ kf mf sf lf af 0 (Nat.le_refl _) (by omega) (by omega) (by omega)
   have hW : Wt sg ps (dK (.mk kf mf sf lf af) (.mk 0 0 .empty [] [])) (c + ai args + 1) := Wt.sub (by omega) (hF.up (by omega)) (Wt.var (by omega) (by omega))
   have hWz : (dK (.mk kf mf sf lf af) (.mk 0 0 .empty [] [])).size ≤ (ae.mk kf mf sf lf af).size := nj (by decide) _ _
   have hsub := oz (gl := gl) (B := 4398046511104) (by omega) 0 0 .empty [] [] ((Wt.var (sg := sg) (ps := ps) (c := 1) (by omega) (by omega)).sh (by simp only [ae.size, aS, ai]; omega)) (by simp only [ae.size, aS, ai]; omega) kf mf sf lf af (hF.sh (by omega)) (by omega)
   obtain ⟨kU, mU, sU, lU, aU, hU⟩ := ae.case (dK (.mk kf mf sf lf af) (.mk 0 0 .empty [] []))
   rw [hU] at hsub hW hWz
   refine gc 3 ?_;refine o1 (bV bE bK ?_ (he := by exact (rfl)));refine ko 5 [5, 2, 1] 4 ?_;refine o1 (bV bE bK ?_ (he := by exact (rfl)));refine ko 5 [6, 5, 2, 1] 4 ?_;refine o1 (bV bE bK ?_ (he := by exact (rfl)));refine go 1 ?_;refine oc (T := fun _ => False) (bo Kj rfl rfl rfl rfl (hst) (bd (an .nil)) (fun d hd => ?_)); obtain ⟨r2, rfl⟩ := hd; refine ko 4 [7, 6, 5, 2, 1] 6 ?_
   refine' oo (yt := 58) (d := 55) 3 ?a7 ?b7 ?_
   case a7 =>
    intro hc hK
    refine go 3 ?_; exact hK [_, _, _] rfl rfl
   case b7 =>
    intro _ hK; refine go 3 ?_; exact hK [_, _, _] rfl
   refine go 1 ?_
   refine' oo (yt := 61) (d := 60) 1 ?a8 ?b8 ?_
   case a8 =>
    intro hc hK
    refine go 1 ?_; exact hK [_] rfl rfl
   case b8 =>
    intro _ hK; refine go 1 ?_; exact hK [_] rfl
   refine go 2 ?_;refine cj (fun h12 => ?_) (fun h12 => ?_)
   ·refine kc 0 [2, 1] 8 ?_;refine ed ((ae.mk 4 0 .empty [] [.mk kA mA sA lA aA, .mk 3 0 .empty [] [.mk kf mf sf lf af, .mk kx mx sx lx ax]]).d) ?_
    exact ⟨_, rfl, hN.up (by omega), hNz⟩
   refine kc 3 [5, 2] 0 ?_;refine gz [0, 1] mixed ?_;refine A1 2 rfl (bV bE bK ⟨_, rfl, ?_⟩ (he := by exact (rfl)));refine ga [3] ?_;refine A2 4 rfl (cv Hu rfl rfl (o4 0) (an .nil) ?_);refine A2 5 rfl (cv Jt rfl rfl (hsub) (bd (an .nil)) ?_);refine A2 6 rfl (eD bM ?_);refine aQ ?_;refine ge 2 ?_;refine ed ((ae.mk kU mU sU lU aU).d) ?_; exact ⟨_, rfl, hW.up (by omega), by omega⟩
end Go.Proofs.YtndbnldjidciiaaGreatDoor
namespace Go.Proofs.YtndbnldjidciiaaGreatDoor
open Go Go.Vd Go.RowKit
attribute [local irreducible] bl br de aj bI cY
variable {g gl : Nat → List D}
structure RD where
 kd : Int
 sd : ByteArray
 pd : List ByteArray
 k1 : Int
 n1 : Int
 s1 : ByteArray
 l1 : List aJ
 a1 : List ae
 k2 : Int
 n2 : Int
 s2 : ByteArray
 l2 : List aJ
 a2 : List ae
 ad : Int
 cd : List (ByteArray × ae)
def RD.dec (x : RD) : dp := .mk x.kd x.sd x.pd (.mk x.k1 x.n1 x.s1 x.l1 x.a1) (.mk x.k2 x.n2 x.s2 x.l2 x.a2) x.ad x.cd
def eT (x : RD) (m : Int) (n : Nat) (mot : Int) : Ob := .cells [.d (.v (.int .i64 x.kd)), .d (.v (.string x.sd)), .d (.sl 1 (strs x.pd)), .d (.v (.int .i64 x.k1)), .d (.v (.int .i64 x.n1)), .d (.v (.string x.s1)), .d (.sl 3 (bF x.l1)), .d (.sl 5 (ba x.a1)), .d (.v (.int .i64 x.k2)), .d (.v (.int .i64 x.n2)), .d (.v (.string x.s2)), .d (.sl 3 (bF x.l2)), .d (.sl 5 (ba x.a2)), .d (.v (.int .i64 x.ad)), .d (.sl 6 (gV x.cd)), .d (.v (.int .i64 m)), .arr 1 n, .d (.v (.int .i64 mot))] 232
def rG (x : RD) : Ob := .cells [.d (.v (.int .i64 x.kd)), .d (.v (.string x.sd)), .d (.sl 1 (strs x.pd)), .d (.v (.int .i64 x.k1)), .d (.v (.int .i64 x.n1)), .d (.v (.string x.s1)), .d (.sl 3 (bF x.l1)), .d (.sl 5 (ba x.a1)), .d (.v (.int .i64 x.k2)), .d (.v (.int .i64 x.n2)), .d (.v (.string x.s2)), .d (.sl 3 (bF x.l2)), .d (.sl 5 (ba x.a2)), .d (.v (.int .i64 x.ad)), .d (.sl 6 (gV x.cd))] 61
def lO (k : Int) (s : ByteArray) (args : List aJ) : Ob := .cells [.d (.v (.int .i64 k)), .d (.v (.string s)), .d (.sl 3 (bF args))] 121
def Aj (cs : List (ByteArray × ae)) : Nat := ai (cs.map (·.2))
variable {i : Nat}
theorem FY {cs : List (ByteArray × ae)} {c : ByteArray × ae} (h : cs[i]? = some c) : Aj (cs.take (i + 1)) = Aj (cs.take i) + c.2.size := by
 unfold Aj
 rw [List.map_take, List.map_take, gE (a := c.2) (by rw [List.getElem?_map, h]; rfl)]
theorem Hp (cs : List (ByteArray × ae)) : cs.length ≤ Aj cs := by
 have := bA (cs.map (·.2)); rw [List.length_map] at this; exact this
def eC (bs : List ae) : Ob := .buf 39 5 (ba bs) none
def vr (n : Int) : ae := .mk 0 n .empty [] []
def yp (sg : Sg) (ps : List ByteArray) (bs : List ae) : Prop := ∀ (i : Nat) x, bs[i]? = some x → Wt sg ps x i
variable {sg : Sg} {ps : List ByteArray} {bs : List ae} {t : ae}
theorem yp.app (h : yp sg ps bs) (ht : Wt sg ps t bs.length) : yp sg ps (bs ++ [t]) := by
 intro i x hx
 rcases Nat.lt_or_ge i bs.length with hi | hi
 ·rw [List.getElem?_append_left hi] at hx; exact h i x hx
 ·rw [List.getElem?_append_right hi] at hx
  have h3 := (List.getElem?_eq_some_iff.1 hx).1
  simp only [List.length_cons, List.length_nil] at h3
  obtain rfl : i = bs.length := by omega
  rw [Nat.sub_self] at hx
  cases hx
  exact ht
theorem yp.take {sg : Sg} {ps : List ByteArray} {bs : List ae} (h : yp sg ps bs) (n : Nat) : yp sg ps (bs.take n) := by
 intro i x hx
 rw [List.getElem?_take] at hx
 split at hx
 ·exact h i x hx
 ·cases hx
def pf (xs : List ae) (t : ae) : ae := xs.foldr (fun x h => .mk 5 0 .empty [] [x, h]) t
theorem lN (xs : List ae) (h : ae) : (pf xs h).size = ai xs + xs.length + h.size := by
 unfold pf
 induction xs with
 | nil => simp [ai]
 | cons x r ih => rw [List.foldr_cons]; simp only [ae.size, aS, ai, List.length_cons, ih]; omega
theorem Cv {sg : Sg} {ps : List ByteArray} : ∀ {xs : List ae} {h : ae} {c : Int}, (∀ (i : Nat) x, xs[i]? = some x → Wt sg ps x (c + i)) → Wt sg ps h (c + xs.length) → Wt sg ps (pf xs h) c
 | [], h, c, _, hw => by simpa [pf] using hw
 | x :: r, h, c, hx, hw => by
  refine Wt.bind (.inr rfl) (by simpa using hx 0 x rfl) (Cv (fun i y hy => ?_) ?_)
  ·have := hx (i + 1) y (by simpa using hy)
   rwa [show c + 1 + (i : Int) = c + ((i + 1 : Nat) : Int) by omega]
  ·rw [show c + 1 + (r.length : Int) = c + ((x :: r).length : Int) by simp only [List.length_cons]; omega]; exact hw
theorem yp.vH (h : yp sg ps bs) {n : Nat} (hn : n ≤ bs.length) (ht : Wt sg ps t bs.length) : Wt sg ps (pf (bs.drop n) t) n := by
 refine Cv (fun i x hx => ?_) (by rw [List.length_drop]; exact ht.up (by omega))
 rw [List.getElem?_drop] at hx
 exact (h _ _ hx).up (by omega)
def vars (n : Int) (pl : List Int) : List ae := pl.map fun p => vr (n - 1 - p)
def xO (n : Int) (pl : List Int) (t : ae) : ae := gS (vars n pl) pl.length t
variable {n : Int} {pl : List Int}
theorem oS (h : ∀ p ∈ pl, 0 ≤ p ∧ p < n) : ∀ x ∈ vars n pl, Wt sg ps x n := by
 intro x hx
 obtain ⟨p, hp, rfl⟩ := List.mem_map.1 hx
 have := h p hp
 exact Wt.var (by omega) (by omega)
theorem ly (n : Int) (pl : List Int) : (vars n pl).length = pl.length := by simp [vars]
theorem jC (n : Int) (pl : List Int) : ai (vars n pl) = pl.length := by
 unfold vars
 induction pl with
 | nil => rfl
 | cons p r ih => rw [List.map_cons, ai, ih, List.length_cons]; simp only [vr, ae.size, aS, ai]; omega
theorem yw (h : i < pl.length) : (vars n pl).getD i aI = vr (n - 1 - pl[i]) := by
 simp [vars, List.getD_eq_getElem?_getD, h]
theorem xS (m i : Int) (h : 0 ≤ m) : fT (vr m) i 0 = vr (m + i) := by
 rw [fk]; unfold vr; rw [fg, eM]; rw [if_pos (by omega)]
theorem Bn (h : ∀ p ∈ pl, 0 ≤ p ∧ p < n) : ∀ (i : Nat) (t : ae), i ≤ pl.length → (gS (vars n pl) i t).size ≤ t.size := by
 intro i
 induction i with
 | zero => intro t _; exact Nat.le_refl _
 | succ i ih =>
  intro t hi
  rw [gS, yw (by omega)]
  have hp := h _ (List.getElem_mem (show i < pl.length by omega))
  rw [xS _ _ (by omega)]
  refine Nat.le_trans (ih _ (by omega)) ?_
  exact nj (v := vr _) (by simp [vr, ae.size, aS, ai]) t 0
theorem tB (hn : 0 ≤ n) (h : ∀ p ∈ pl, 0 ≤ p ∧ p < n) (ht : Wt sg ps t pl.length) : Wt sg ps (xO n pl t) n ∧ (xO n pl t).size ≤ t.size :=
 ⟨Wt.gS hn (oS h) _ (by rw [ly]; exact Nat.le_refl _) (ht.up (by omega)), Bn h _ _ (Nat.le_refl _)⟩
theorem kH (x : RD) (m mot : Int) (bs : List ae) (i : Int) (hb : bs.length ≤ 1099511627776) (hi : 0 ≤ i ∧ i ≤ 1099511627776) :
 ey Tryz.prog gl 178 [eT x m bs.length mot, eC bs] [.bZ 0 0, .d (.v (.int .i64 i))] fun out ob' => out = .ret (.d (vr (bs.length - 1 - i)).d) ∧ ob' = [eT x m bs.length mot, eC bs] := by
 refine bS Tryz.func178 Tryz.ntmps178 2 ?_;refine gc 11 ?_;refine o1 (gj bE rfl rfl ?_);refine o1 (nT ?_);refine go 1 ?_;refine o1 (nT ?_);refine oc (cv Hu rfl rfl (o4 (bs.length - 1 - i)) (an .nil) ?_);refine go 4 ?_;refine eo ((vr (bs.length - 1 - i)).d) [0, 1] [eT x m bs.length mot, eC bs] ?_
 ·exact ⟨rfl, rfl⟩
theorem gG (x : RD) (m mot : Int) (bs : List ae) (k n : Int) (s : ByteArray) (ls : List aJ) (args : List ae) (hb : bs.length ≤ 1000000000000) :
 ey Tryz.prog gl 175 [eT x m bs.length mot, eC bs] [.bZ 0 0, .d (ae.mk k n s ls args).d] fun out ob' => out = .ret (.d (.cb [])) ∧ ob' = [eT x m (bs ++ [ae.mk k n s ls args]).length mot, eC (bs ++ [ae.mk k n s ls args])] := by
 have hbl := bf bs
 have hset : (ba bs ++ [[D.v (.int .i64 0), .v (.int .i64 0), .v (.string { data := #[] }), .v (.slice none 0 0), .v (.slice none 0 0)]]).set (bs.length : Int).toNat [D.v (.int .i64 k), .v (.int .i64 n), .v (.string s), .sl 3 (bF ls), .sl 5 (ba args)] = ba (bs ++ [ae.mk k n s ls args]) := by
  rw [er, Int.toNat_natCast, ← hbl, List.set_append_right _ _ (Nat.le_refl _), Nat.sub_self]; rfl
 have hlen2 : (ba bs ++ [[D.v (.int .i64 0), .v (.int .i64 0), .v (.string { data := #[] }), .v (.slice none 0 0), .v (.slice none 0 0)]]).length = (bs ++ [ae.mk k n s ls args]).length := by
  rw [List.length_append, List.length_append, hbl]; rfl
 refine bS Tryz.func175 Tryz.ntmps175 2 ?_;refine gc 5 ?_;refine gz [0, 1, 2, 3, 4] mixed ?_;refine A1 5 rfl (gj bE rfl rfl ⟨_, rfl, ?_⟩);refine A2 6 rfl (gR fA [.const _] bM ?_);refine A2 7 rfl (vL fA rfl rfl rfl rfl rfl rfl rfl (by decide) (by simp) (by (simp only [maxLen, List.length_cons, List.length_nil]; omega)) rfl rfl rfl ?_);refine A1 8 rfl (pz bE bK rfl rfl rfl rfl rfl rfl (by (simp only [List.length_append, List.length_cons, List.length_nil]; omega)) ⟨_, rfl, ?_⟩);refine ga [10, 11] ?_;refine dj (rs := [9, 12]) (by kernel_rfl) rfl ⟨?_, ?_, trivial⟩
 ·skip
  refine A4 9 rfl (sr bM rfl rfl rfl rfl rfl rfl rfl rfl rfl rfl rfl rfl ⟨rfl, by (simp only [List.length_append, List.length_cons, List.length_nil]; omega)⟩ rfl ?_);refine A2 12 rfl (eD EC ?_);refine aQ ?_;refine fN ?_
  rw [hset, hlen2]
  refine nG (l := []) rfl rfl ([0, 1]) ([eT x m (bs ++ [ae.mk k n s ls args]).length mot, eC (bs ++ [ae.mk k n s ls args])]) rfl rfl rfl ?_ ?_
  ·repeat (first | exact cW | refine bh ?_ | refine Eg ?_)
  ·exact ⟨rfl, rfl⟩
 ·skip
  refine A4 12 rfl (eD EC ?_);refine A2 9 rfl (sr bM rfl rfl rfl rfl rfl rfl rfl rfl rfl rfl rfl rfl ⟨rfl, by (simp only [List.length_append, List.length_cons, List.length_nil]; omega)⟩ rfl ?_);refine aQ ?_;refine fN ?_
  rw [hset, hlen2]
  refine nG (l := []) rfl rfl ([0, 1]) ([eT x m (bs ++ [ae.mk k n s ls args]).length mot, eC (bs ++ [ae.mk k n s ls args])]) rfl rfl rfl ?_ ?_
  ·repeat (first | exact cW | refine bh ?_ | refine Eg ?_)
  ·exact ⟨rfl, rfl⟩
end Go.Proofs.YtndbnldjidciiaaGreatDoor
namespace Go.Proofs.YtndbnldjidciiaaGreatDoor
open Go Go.Vd Go.RowKit
attribute [local irreducible] bl br de aj bI cY
variable {g gl : Nat → List D}
def JD (w : Bool) (es : List cq) (out : Out) (ob' : List Ob) : Prop :=
 ∃ (r : Bool) (code : Int) (w' : Bool), out = .ret (.d (.cb [.v (.bool r), .v (.int .i64 code)])) ∧ ob' = [aP es w', aN] ∧ (code = 0 ∨ code = 14) ∧ (code = 0 → w' = false) ∧ (w' = false → w = false)
end Go.Proofs.YtndbnldjidciiaaGreatDoor
namespace Go.Proofs.YtndbnldjidciiaaGreatDoor
open Go Go.Vd Go.RowKit
attribute [local irreducible] bl br de aj bI cY
variable {g gl : Nat → List D}
mutual
def G4 : aJ → Prop
 | .mk _ _ args => args.length ≤ 1000000 ∧ IS args
def IS : List aJ → Prop
 | [] => True
 | t :: r => G4 t ∧ IS r
end
theorem lS : ∀ {l : List aJ} {i : Nat} {t : aJ}, IS l → l[i]? = some t → G4 t
 | a :: r, 0, t, h, hi => by cases hi; exact h.1
 | a :: r, i + 1, t, h, hi => lS (l := r) (i := i) h.2 (by simpa using hi)
theorem iK : ∀ x : cB, G4 x.bG
 | .zero => ⟨by decide, trivial⟩
 | .succ a => ⟨by simp, iK a, trivial⟩
 | .max a b => ⟨by simp, iK a, iK b, trivial⟩
 | .imax a b => ⟨by simp, iK a, iK b, trivial⟩
 | .param s => ⟨by decide, trivial⟩
theorem rr : ∀ (n : Nat) (k : Int) (s : ByteArray) (args : List aJ) (most : Int), (aJ.mk k s args).size ≤ n → G4 (.mk k s args) → 0 ≤ most → most ≤ 1099511627776 →
 cD Tryz.prog gl 103 [(aJ.mk k s args).d, .v (.int .i64 most)] fun d => ∃ r : Int, d = .v (.int .i64 r) ∧ 1 ≤ r ∧ r ≤ most + 1 ∧ (r ≤ most → r = (aJ.mk k s args).size) := by
 intro n
 induction n with
 | zero => intro k s args most h; simp [aJ.size] at h
 | succ n ih =>
  intro k s args most hsz hb hm0 hm1
  simp only [aJ.size] at hsz
  obtain ⟨hb1, hb2⟩ := hb
  have hal := bR args
  refine bD Tryz.func103 Tryz.ntmps103 ?_;refine kc 18 [6, 5, 2, 1] 0 ?_;refine lP (ι := Nat × Int) (fun ⟨i, c⟩ => [(6, int i), (5, int c)]) [2, 1] (fun ⟨i, c⟩ => i ≤ args.length ∧ 1 ≤ c ∧ c ≤ most + 1 ∧ (c ≤ most → c = 1 + aS (args.take i))) (fun ⟨i, c⟩ => args.length - i) ((0, 1)) rfl ?I4 ?M4 ?H4
  case I4 =>
   exact ⟨Nat.zero_le _, by omega, by omega, fun _ => by simp [aS]⟩
  case M4 =>
   exact mz
  case H4 =>
   rintro ⟨i, c⟩ hinv
   try dsimp only at hinv
   refine kc 0 [6, 5, 2, 1] 9 ?_
   refine' oa (yt := 16) (d := 13) 3 ?a1 ?b1 ?_
   case a1 =>
    intro hc hK
    refine go 3 ?_; exact hK [_, _, _] rfl rfl
   case b1 =>
    intro _ hK; refine go 3 ?_; exact hK [_, _, _] rfl
   refine go 2 ?_;refine cJ (fun h3 => ?_) (fun h3 => ?_)
   ·refine kc 5 [5] 2 ?_
    have hend : c ≤ most → i = args.length := (fun h => by omega)
    refine go 5 ?_;refine ez ?_; exact ⟨c, rfl, hinv.2.1, hinv.2.2.1, fun h => by rw [hinv.2.2.2 h, hend h, List.take_length]; simp only [aJ.size]; omega⟩
   refine kc 5 [6, 5, 2, 1] 0 ?_
   obtain ⟨k', s', a', hget⟩ := cU (show i < args.length by omega)
   have hg1 := dN hget
   refine gc 4 ?_;refine o1 (bV ee ei ?_ (he := by exact (cZ hget)));refine go 3 ?_;refine o1 (nT ?_);refine oc (T := fun _ => False) (bo Ao rfl rfl rfl rfl (ih k' s' a' (most - c) (by omega) (lS hb2 hget) (by omega) (by omega)) (bd (an .nil)) (fun d hd => ?_)); obtain ⟨r, rfl, hr1, hr2, hr3⟩ := hd; refine ko 3 [7, 6, 5, 2, 1] 3 ?_;refine o1 (cw ?_);refine ko 4 [5, 6, 2, 1] 2 ?_;refine o1 (cw ?_);refine go 2 ?_;refine bi (i + 1, c + r) rfl ?_ mz
   exact ⟨⟨by omega, by omega, by omega, fun h => by rw [fC hget]; omega⟩, show args.length - (i + 1) < args.length - i by omega⟩
theorem vE : ∀ (n : Nat) (k : Int) (s : ByteArray) (args : List aJ) (k2 : Int) (s2 : ByteArray) (args2 : List aJ), (aJ.mk k s args).size ≤ n → G4 (.mk k s args) → G4 (.mk k2 s2 args2) →
 cD Tryz.prog gl 70 [(aJ.mk k s args).d, (aJ.mk k2 s2 args2).d] fun d => ∃ b : Bool, d = .v (.bool b) := by
 intro n
 induction n with
 | zero => intro k s args k2 s2 args2 h; simp [aJ.size] at h
 | succ n ih =>
  intro k s args k2 s2 args2 hn hb hb2
  simp only [aJ.size] at hn
  obtain ⟨hb1, hb3⟩ := hb
  obtain ⟨hb4, hb5⟩ := hb2
  have hlen := bR args
  have hlen2 := bR args2
  refine bD Tryz.func70 Tryz.ntmps70 ?_;refine gc 16 ?_
  refine' oo (yt := 17) (d := 12) 5 ?a2 ?b2 ?_
  case a2 =>
   intro hc hK
   refine go 5 ?_; exact hK [_, _, _, _, _] rfl rfl
  case b2 =>
   intro _ hK; refine go 5 ?_; exact hK [_, _, _, _, _] rfl
  refine go 1 ?_
  refine' oo (yt := 26) (d := 19) 7 ?a3 ?b3 ?_
  case a3 =>
   intro hc hK
   refine go 7 ?_
   exact hK [_, _, _, _, _, _, _] rfl rfl
  case b3 =>
   intro _ hK; refine go 7 ?_; exact hK [_, _, _, _, _, _, _] rfl
  refine go 2 ?_;refine cj (fun h1 => ?_) (fun h1 => ?_)
  ·refine kc 0 [] 7 ?_;refine ez ?_; exact ⟨_, rfl⟩
  refine kc 3 [3, 2] 6 ?_;refine lP (ι := Nat) (fun i => [(5, int i)]) [3, 2] (fun i => i ≤ args.length) (fun i => args.length - i) (0) rfl ?I5 ?M5 ?H5
  case I5 =>
   exact Nat.zero_le _
  case M5 =>
   exact mz
  case H5 =>
   rintro i hinv
   try dsimp only at hinv
   refine kc 0 [5, 3, 2] 10 ?_;refine cJ (fun h4 => ?_) (fun h4 => ?_)
   ·refine kc 5 [] 6 ?_;refine ez ?_
    exact ⟨_, rfl⟩
   refine kc 5 [5, 3, 2] 0 ?_
   obtain ⟨k', s', a', hget⟩ := cU (show i < args.length by omega); obtain ⟨k2', s2', a2', hget2⟩ := cU (show i < args2.length by omega)
   have hsz' := dN hget
   refine gz [0, 1, 2] mixed ?_;refine A1 3 rfl (bV ee ei ⟨_, rfl, ?_⟩ (he := by exact (cZ hget)));refine ga [4, 5, 6, 7] ?_;refine A1 8 rfl (bV ee ei ⟨_, rfl, ?_⟩ (he := by exact (cZ hget2)));refine ga [9] ?_;refine A2 (T := fun _ => False) 10 rfl (bo F2 rfl rfl rfl rfl (ih k' s' a' k2' s2' a2' (by omega) (lS hb3 hget) (lS hb5 hget2)) (bd (bd .nil)) (fun d hd => ?_))
   obtain ⟨r2, rfl⟩ := hd; refine ga [11] ?_;refine aQ ?_;refine ke 1 [6, 5, 3, 2] 6 ?_;refine cj (fun h7 => ?_) (fun h7 => ?_)
   ·refine kc 0 [] 11 ?_;refine ez ?_; exact ⟨_, rfl⟩
   refine gc 5 ?_;refine o1 (cw ?_);refine go 2 ?_;refine bi (i + 1) rfl ?_ mz
   exact ⟨by omega, by omega⟩
theorem rT : ∀ (n : Nat) (k : Int) (s : ByteArray) (args : List aJ), (aJ.mk k s args).size ≤ n → G4 (.mk k s args) →
 cD Tryz.prog gl 143 [(aJ.mk k s args).d] fun d => ∃ r : Int, d = .v (.int .i64 r) := by
 intro n
 induction n with
 | zero => intro k s args h; simp [aJ.size] at h
 | succ n ih =>
  intro k s args hn hb
  simp only [aJ.size] at hn
  obtain ⟨hb1, hb2⟩ := hb
  have hlen := bR args
  refine bD Tryz.func143 Tryz.ntmps143 ?_;refine kc 19 [7, 3, 1] 0 ?_;refine xc (ι := Unit) (fun _ => [(3, int (if k = 1 then 1 else 0))]) [1] (fun _ => True) rfl ?A6 ?B6
  case A6 =>
   refine cJ (fun h2 => ?_) (fun h2 => ?_)
   ·refine gc 1 ?_;refine bi (()) rfl ?_ ?_
    ·trivial
    ·refine mo ?_ (eh rfl (by exact Fit.of_eq (by simp only [h2, if_true, if_false]; rfl)) (aH dF))
     repeat (first | exact cW | refine bh ?_)
   refine gc 3 ?_;refine bi (()) rfl ?_ ?_
   ·trivial
   ·refine mo ?_ (eh rfl (by exact Fit.of_eq (by simp only [h2, if_true, if_false]; rfl)) (aH dF))
    repeat (first | exact cW | refine bh ?_)
  case B6 =>
   rintro _ hcut
   try dsimp only at hcut
   refine kc 0 [3, 1] 7 ?_;refine lP (ι := Nat × Int) (fun ⟨i, c⟩ => [(4, int i), (3, int c)]) [1] (fun ⟨i, c⟩ => i ≤ args.length) (fun ⟨i, c⟩ => args.length - i) ((0, if k = 1 then 1 else 0)) rfl ?I7 ?M7 ?H7
   case I7 =>
    exact Nat.zero_le _
   case M7 =>
    exact mz
   case H7 =>
    rintro ⟨i, c⟩ hinv
    try dsimp only at hinv
    refine kc 0 [4, 3, 1] 10 ?_;refine cJ (fun h5 => ?_) (fun h5 => ?_)
    ·refine kc 5 [3] 7 ?_;refine ez ?_; exact ⟨_, rfl⟩
    refine kc 4 [4, 3, 1] 0 ?_
    obtain ⟨k', s', a', hget⟩ := cU (show i < args.length by omega)
    have hsz' := dN hget
    refine gc 5 ?_;refine o1 (bV ee ei ?_ (he := by exact (cZ hget)));refine go 1 ?_;refine oc (T := fun _ => False) (bo xl rfl rfl rfl rfl (ih k' s' a' (by omega) (lS hb2 hget)) (bd .nil) (fun d hd => ?_)); obtain ⟨r, rfl⟩ := hd; refine o1 (tC rfl rfl rfl ?_);refine ko 4 [3, 4, 1] 2 ?_;refine o1 (cw ?_);refine go 2 ?_;refine bi (i + 1, IntKind.i64.wrap (c + r)) rfl ?_ mz
    exact ⟨by omega, show args.length - (i + 1) < args.length - i by omega⟩
end Go.Proofs.YtndbnldjidciiaaGreatDoor
namespace Go.Proofs.YtndbnldjidciiaaGreatDoor
open Go Go.Vd Go.RowKit
attribute [local irreducible] bl br de aj bI cY
variable {g gl : Nat → List D}
mutual
theorem uF : ∀ (l : aJ) (ah : List ByteArray), ah.length ≤ (l.params ah).length
 | .mk k s args, ah => by
  simp only [aJ.params]
  split
  ·split <;> simp
  ·exact ox args ah
theorem ox : ∀ (ls : List aJ) (ah : List ByteArray), ah.length ≤ (cF ls ah).length
 | [], ah => by simp [cF]
 | l :: r, ah => by
  simp only [cF]
  exact Nat.le_trans (uF l ah) (ox r _)
end
theorem vM (l : List aJ) (i : Nat) (ah : List ByteArray) : (cF (l.take i) ah).length ≤ (cF l ah).length := by
 have h := ox (l.drop i) (cF (l.take i) ah)
 rwa [← oq, List.take_append_drop] at h
theorem qt : ∀ (n : Nat) (k : Int) (s : ByteArray) (args : List aJ) (ah : List ByteArray), (aJ.mk k s args).size ≤ n → G4 (.mk k s args) → ((aJ.mk k s args).params ah).length ≤ 1000000 →
 ey Tryz.prog gl 100 [.row 9 1] [.d (aJ.mk k s args).d, .own 0 1 (strs ah)] fun out ob' => out = .ret (.own 0 1 (strs ((aJ.mk k s args).params ah))) ∧ ob' = [.row 9 1] := by
 intro n
 induction n with
 | zero => intro k s args ah h; simp [aJ.size] at h
 | succ n ih =>
  intro k s args ah hn hb hpl
  simp only [aJ.size] at hn
  have hge := uF (.mk k s args) ah
  obtain ⟨hb1, hb2⟩ := hb
  have hlen := bR args
  have hlen2 := bU ah
  have hpL : ¬ k = 4 → (cF args ah).length ≤ 1000000 := (fun h => by rw [aJ.params, if_neg h] at hpl; exact hpl)
  refine bS Tryz.func100 Tryz.ntmps100 1 ?_;refine gc 14 ?_;refine cj (fun h1 => ?_) (fun h1 => ?_)
  ·refine kc 0 [2, 1] 5 ?_;refine oc (cv xm rfl rfl (iJ s ah (by omega)) (an (bd .nil)) ?_);refine ko 4 [5, 2, 1] 6 ?_;refine cJ (fun h3 => ?_) (fun h3 => ?_)
   ·refine kc 2 [1] 8 ?_;refine fR ?_;refine jS ⟨_, _, rfl, rfl, rfl⟩ [0] (.own 0 1 (strs ah)) ([.row 9 1]) rfl rfl rfl ?_ rfl ?_ ?_
    ·repeat (first | exact cW | refine cu ?_)
    ·exact .refl _
    ·refine ⟨?_, rfl⟩; simp only [aJ.params, if_pos (show k = 4 by omega), h3]; rfl
   refine gc 4 ?_;refine oc (gR ng [.tmp 18] AB ?_);refine oc (nU ng ?_);refine ko 3 [1] 8 ?_;refine fR ?_;refine jS ⟨_, _, rfl, rfl, rfl⟩ [0] (.own 0 1 (strs (ah ++ [s]))) ([.row 9 1]) rfl rfl rfl ?_ rfl ?_ ?_
   ·repeat (first | exact cW | refine cu ?_)
   ·exact Fit.of_eq (by rw [← gC]; rfl)
   ·refine ⟨?_, rfl⟩; simp only [aJ.params, if_pos (show k = 4 by omega), h3]; rfl
  refine kc 3 [2, 1] 6 ?_;refine lP (ι := Nat) (fun i => [(6, int i), (1, .own 0 1 (strs (cF (args.take i) ah)))]) [2] (fun i => i ≤ args.length) (fun i => args.length - i) (0) rfl ?I2 ?M2 ?H2
  case I2 =>
   exact Nat.zero_le _
  case M2 =>
   exact mz
  case H2 =>
   rintro i hinv
   try dsimp only at hinv
   refine kc 0 [6, 1, 2] 10 ?_;refine cJ (fun h7 => ?_) (fun h7 => ?_)
   ·refine kc 5 [1] 7 ?_;refine fR ?_;refine jS ⟨_, _, rfl, rfl, rfl⟩ [0] (.own 0 1 (strs (cF (args.take i) ah))) ([.row 9 1]) rfl rfl rfl ?_ rfl ?_ ?_
    ·repeat (first | exact cW | refine cu ?_)
    ·exact .refl _
    ·refine ⟨?_, rfl⟩; simp only [aJ.params, if_neg (show ¬ k = 4 by omega)]; rw [List.take_of_length_le (by omega)]
   refine kc 4 [6, 1, 2] 4 ?_; obtain ⟨k', s', a', hget⟩ := cU (show i < args.length by omega)
   have hsz' := dN hget
   have hlt := vM args (i + 1) ah
   have hpL2 := hpL (by omega)
   refine o1 (bV ee ei ?_ (he := by exact (cZ hget)));refine go 2 ?_;refine oc (ay vm rfl rfl rfl rfl (ih k' s' a' (cF (args.take i) ah) (by omega) (lS hb2 hget) (by rw [← np hget]; omega)) [0] (cu .nil) rfl rfl rfl rfl (bd (an .nil)) (fun s ob' hq => ?_) (fun s ob' hq => ?_))
   rotate_left
   ·first | exact hq.elim | cases hq.1
   obtain ⟨hq1, rfl⟩ := hq; cases hq1
   rw [← np hget]; refine ⟨_, _, _, _, _, rfl, rfl, rfl, rfl, rfl, ?_⟩;refine ko 4 [1, 6, 2] 2 ?_;refine o1 (cw ?_);refine go 2 ?_;refine bi (i + 1) rfl ?_ mz
   exact ⟨by omega, by omega⟩
theorem yu (ps : List ByteArray) (ns : List Int) (hl : ps.length ≤ ns.length) (hl2 : ps.length ≤ 281474976710656) : ∀ x : cB,
 cD Tryz.prog gl 144 [x.bG.d, c6 ps, HP ns] fun d => ∃ r : Int, d = .v (.int .i64 r) := by
 have hlp := bU ps
 have hln := eP ns
 intro x
 induction x with
 | zero =>
  refine bD Tryz.func144 Tryz.ntmps144 ?_;refine gc 20 ?_;refine ct ?_;refine kc 0 [] 8 ?_;refine ez ?_; exact ⟨_, rfl⟩
 | succ a ih =>
  refine bD Tryz.func144 Tryz.ntmps144 ?_;refine gc 20 ?_;refine cf ?_;refine kc 0 [11, 3, 1, 2] 6 ?_;refine ct ?_;refine gc 4 ?_;refine o1 (bV ee ei ?_ (he := by exact (rfl)));refine o1 (Gt dB ?_ (hlen := by exact (aJ.eR _)));refine go 2 ?_;refine oc (T := fun _ => False) (bo kz rfl rfl rfl rfl (ih) (an (an (an .nil))) (fun d hd => ?_)); obtain ⟨r, rfl⟩ := hd
  refine o1 (tC rfl rfl rfl ?_);refine go 6 ?_;refine ez ?_; exact ⟨_, rfl⟩
 | param s =>
  refine bD Tryz.func144 Tryz.ntmps144 ?_;refine gc 20 ?_;refine cf ?_;refine kc 0 [11, 3, 1, 2] 6 ?_;refine cf ?_;refine gc 6 ?_;refine ct ?_;refine kc 1 [3, 1, 2] 6 ?_;refine lP (ι := Nat) (fun i => [(7, int i)]) [3, 1, 2] (fun i => i ≤ ps.length) (fun i => ps.length - i) (0) rfl ?I3 ?M3 ?H3
  case I3 =>
   exact Nat.zero_le _
  case M3 =>
   exact mz
  case H3 =>
   rintro i hinv
   try dsimp only at hinv
   refine kc 0 [7, 3, 1, 2] 9 ?_;refine cJ (fun h8 => ?_) (fun h8 => ?_)
   ·refine kc 5 [] 8 ?_;refine ez ?_; exact ⟨_, rfl⟩
   refine kc 5 [7, 3, 1, 2] 0 ?_;refine gz [0, 1] mixed ?_;refine A1 2 rfl (bV jW lF ⟨_, rfl, ?_⟩ (he := by exact (fX (by omega))));refine ga [3, 4, 5, 6] ?_;refine aQ ?_;refine ge 1 ?_;refine cJ (fun h10 => ?_) (fun h10 => ?_)
   ·refine kc 3 [7, 3, 1, 2] 2 ?_;refine o1 (cw ?_);refine go 2 ?_;refine bi (i + 1) rfl ?_ mz
    exact ⟨by omega, by omega⟩
   refine kc 0 [7, 2] 4 ?_
   have hin : i < ns.length := by omega
   refine o1 (bV iQ jh ?_ (he := by exact (oD (by omega))));refine go 12 ?_;refine ez ?_; exact ⟨_, rfl⟩
 | max a b iha ihb =>
  refine bD Tryz.func144 Tryz.ntmps144 ?_;refine gc 20 ?_;refine cf ?_;refine kc 0 [11, 3, 1, 2] 6 ?_;refine cf ?_;refine gc 6 ?_;refine cf ?_;refine kc 3 [3, 1, 2] 4 ?_;refine o1 (bV ee ei ?_ (he := by exact (rfl)));refine o1 (Gt dB ?_ (hlen := by exact (aJ.eR _)));refine go 2 ?_;refine oc (T := fun _ => False) (bo kz rfl rfl rfl rfl (iha) (an (an (an .nil))) (fun d hd => ?_)); obtain ⟨r, rfl⟩ := hd; refine ko 3 [8, 3, 1, 2] 4 ?_;refine o1 (bV ee ei ?_ (he := by exact (rfl)));refine o1 (Gt dB ?_ (hlen := by exact (aJ.eR _)));refine go 2 ?_;refine oc (T := fun _ => False) (bo kz rfl rfl rfl rfl (ihb) (an (an (an .nil))) (fun d hd => ?_)); obtain ⟨r2, rfl⟩ := hd; refine ko 4 [9, 8, 3] 6 ?_;refine j1 60 false rfl (by decide) ?_;refine ln ?_ (hbw := by exact rfl);refine ln ?_ (hbw := by exact rfl);refine o1 (qG ?_);refine go 2 ?_;refine cf ?_;refine kc 3 [9, 8] 7 ?_;refine cj (fun h17 => ?_) (fun h17 => ?_)
  ·refine kc 0 [9] 8 ?_;refine ez ?_; exact ⟨_, rfl⟩
  refine kc 2 [8] 7 ?_;refine ez ?_; exact ⟨_, rfl⟩
 | imax a b iha ihb =>
  refine bD Tryz.func144 Tryz.ntmps144 ?_;refine gc 20 ?_;refine cf ?_;refine kc 0 [11, 3, 1, 2] 6 ?_;refine cf ?_;refine gc 6 ?_;refine cf ?_;refine kc 3 [3, 1, 2] 4 ?_;refine o1 (bV ee ei ?_ (he := by exact (rfl)));refine o1 (Gt dB ?_ (hlen := by exact (aJ.eR _)));refine go 2 ?_;refine oc (T := fun _ => False) (bo kz rfl rfl rfl rfl (iha) (an (an (an .nil))) (fun d hd => ?_)); obtain ⟨r, rfl⟩ := hd; refine ko 3 [8, 3, 1, 2] 4 ?_;refine o1 (bV ee ei ?_ (he := by exact (rfl)));refine o1 (Gt dB ?_ (hlen := by exact (aJ.eR _)));refine go 2 ?_;refine oc (T := fun _ => False) (bo kz rfl rfl rfl rfl (ihb) (an (an (an .nil))) (fun d hd => ?_)); obtain ⟨r2, rfl⟩ := hd; refine ko 4 [9, 8, 3] 6 ?_;refine j1 60 true rfl (by decide) ?_;refine ml ?_ (hbw := by exact rfl);refine go 1 ?_;refine ml ?_ (hbw := by exact rfl);refine go 1 ?_;refine o1 (u5 ?_);refine go 2 ?_;refine cj (fun h15 => ?_) (fun h15 => ?_)
  ·refine kc 0 [] 7 ?_;refine ez ?_; exact ⟨_, rfl⟩
  refine kc 3 [9, 8] 7 ?_;refine cj (fun h17 => ?_) (fun h17 => ?_)
  ·refine kc 0 [9] 8 ?_;refine ez ?_; exact ⟨_, rfl⟩
  refine kc 2 [8] 7 ?_;refine ez ?_; exact ⟨_, rfl⟩
theorem jI (a b : cB) (hps : (a.ps b).length ≤ 6) :
 cD Tryz.prog gl 114 [a.bG.d, b.bG.d] fun d => ∃ r : Bool, d = .v (.bool r) := by
 have hpa := a.dz []
 have hpb := b.dz (a.params [])
 have hpge : (a.params []).length ≤ (a.ps b).length := iw b _
 have hW := fun (B : Int) k (x : cB) => yu (gl := gl) (a.ps b) (oK B k (a.ps b).length) (by rw [oJ]; exact Nat.le_refl _) (by omega) x
 have hWa := fun (B : Int) k => hW B k a
 have hWb := fun (B : Int) k => hW B k b
 have hsl := bU (a.ps b)
 have hLa := iK a
 have hLb := iK b
 obtain ⟨ka, na, aa, hXa⟩ := aJ.case a.bG
 obtain ⟨kb, nb, ab, hXb⟩ := aJ.case b.bG
 rw [hXa] at hpa hWa hLa
 rw [hXb] at hpb hWb hLb
 rw [hXa, hXb]
 have hpsdef : b.params (a.params []) = a.ps b := rfl
 rw [hpsdef] at hpb
 have hp1 := qt (gl := gl) _ ka na aa [] (Nat.le_refl _) hLa (by rw [hpa]; omega)
 have hp2 := qt (gl := gl) _ kb nb ab (a.params []) (Nat.le_refl _) hLb (by rw [hpb]; omega)
 rw [hpa] at hp1
 rw [hpb] at hp2
 have hs1 := rT (gl := gl) _ ka na aa (Nat.le_refl _) hLa
 have hs2 := rT (gl := gl) _ kb nb ab (Nat.le_refl _) hLb
 refine bD Tryz.func114 Tryz.ntmps114 ?_;refine gc 8 ?_;refine bq 9 1 rfl ?_;refine gz [0, 1] mixed ?_;refine A2 2 rfl (ck vm rfl rfl (hp1) [2] rfl (p6 .nil) (bd (.cons (.nil rfl) .nil)) ?_);refine A2 3 rfl (ck vm rfl rfl (hp2) [2] rfl (cu .nil) (bd (an .nil)) ?_);refine ga [4] ?_;refine aQ ?_;refine ke 2 [5, 3, 2] 0 ?_;refine gz [0, 3] mixed ?_;refine A2 (T := fun _ => False) 1 rfl (bo xl rfl rfl rfl rfl (hs1) (bd .nil) (fun d hd => ?_)); obtain ⟨r1, rfl⟩ := hd
 refine A1 2 rfl (tC rfl rfl rfl ⟨_, rfl, ?_⟩);refine A2 (T := fun _ => False) 4 rfl (bo xl rfl rfl rfl rfl (hs2) (bd .nil) (fun d hd => ?_)); obtain ⟨r2, rfl⟩ := hd; refine A1 5 rfl (tC rfl rfl rfl ⟨_, rfl, ?_⟩);refine ga [6] ?_;refine aQ ?_;refine ke 2 [6, 5, 3, 2] 0 ?_
 generalize IntKind.i64.wrap (IntKind.i64.wrap (2 + r1) + r2) = B
 refine gc 2 ?_;refine oc (gR nY [.const (.int .i64 0), .const (.int .i64 1), .tmp 24] AE ?_);refine ko 15 [9, 8, 7, 5, 3, 2] 0 ?_;refine lP (ι := Nat) (fun i => [(9, int i), (8, int (p3 i))]) [7, 5, 3, 2] (fun i => i ≤ (a.ps b).length) (fun i => (a.ps b).length - i) (0) rfl ?I4 ?M4 ?H4
 case I4 =>
  exact Nat.zero_le _
 case M4 =>
  exact mz
 case H4 =>
  rintro i hinv
  try dsimp only at hinv
  refine kc 0 [9, 8, 7, 5, 3, 2] 9 ?_;refine cj (fun h6 => ?_) (fun h6 => ?_)
  ·refine kc 4 [9, 8, 7, 5, 3, 2] 0 ?_
   have hp3 := Cy (i := i) (by omega)
   refine gc 2 ?_;refine o1 (uZ rfl rfl rfl (by omega) ?_);refine go 6 ?_;refine o1 (cw ?_);refine go 2 ?_;refine bi (i + 1) rfl ?_ ?_
   ·exact ⟨by omega, by omega⟩
   ·refine mo ?_ (aH (eh rfl (by exact Fit.of_eq (by rw [Cx]; rfl)) (aH (aH (aH (aH dF))))))
    repeat (first | exact cW | refine bh ?_ | refine cu ?_)
  refine kc 7 [8, 7, 5, 3, 2] 0 ?_
  have hi : i = (a.ps b).length := by omega
  subst hi
  have hp3 := Cy hps
  refine gc 5 ?_;refine lP (ι := Nat) (fun k => [(10, int k)]) [8, 7, 5, 3, 2] (fun k => k ≤ p3 (a.ps b).length) (fun k => p3 (a.ps b).length - k) (0) rfl ?I5 ?M5 ?H5
  case I5 =>
   exact Nat.zero_le _
  case M5 =>
   exact mz
  case H5 =>
   rintro k hinv
   try dsimp only at hinv
   refine kc 0 [10, 8, 7, 5, 3, 2] 8 ?_;refine cJ (fun h10 => ?_) (fun h10 => ?_)
   ·refine kc 5 [] 6 ?_;refine ez ?_
    exact ⟨_, rfl⟩
   refine gc 5 ?_
   have houter := hinv
   refine kc 11 [12, 11, 10, 8, 7, 5, 3, 2] 6 ?_;refine bq 3 1 rfl ?_;refine lp (ι := Nat) (fun i => [(13, int i), (12, int (dv k i)), (11, .own 4 1 (ints (oK B k i)))]) (fun i => [.cells [.d (.v (.int .i64 ka)), .d (.v (.string na)), .d (.sl 3 (bF aa))] 121, .cells [.d (.v (.int .i64 kb)), .d (.v (.string nb)), .d (.sl 3 (bF ab))] 121, .row 9 1, .row 3 1, .row 3 1]) [10, 8, 7, 5, 3, 2] (fun i => i ≤ (a.ps b).length) (fun i => (a.ps b).length - i) (0) ([0, 1, 2, 3, 4]) rfl ?I6 ?M6 ?H6
   case I6 =>
    exact Nat.zero_le _
   case M6 =>
    refine mo ?_ (aH (eh rfl (by exact Fit.of_eq (by rw [CT]; rfl)) (eh rfl (by exact .nil rfl) (aH (aH (aH (aH (aH (aH dF)))))))))
    repeat (first | exact cW | refine bh ?_ | refine cu ?_ | refine p6 ?_)
   case H6 =>
    rintro i hinv
    try dsimp only at hinv
    refine kc 0 [13, 12, 11, 10, 8, 7, 5, 3, 2] 9 ?_;refine cj (fun h15 => ?_) (fun h15 => ?_)
    ·refine kc 5 [13, 12, 11, 10, 8, 7, 5, 3, 2] 0 ?_
     have hil := eP (oK B k i)
     have hdl := oJ B k i
     have hk3 := HS k i
     refine gc 4 ?_;refine o1 (FN ?_);refine o1 (wU iQ jh ?_ (he := by exact (yB B (dv k i))));refine go 1 ?_;refine oc (gR nY [.tmp 51] AE ?_);refine oc (nU nY ?_);refine ko 3 [11, 13, 12, 10, 8, 7, 5, 3, 2] 2 ?_;refine o1 (Br rfl rfl rfl (by omega) ?_);refine go 6 ?_;refine o1 (cw ?_);refine go 2 ?_;refine bk (i + 1) rfl ?_ ([0, 1, 2, 3, 4]) ?_
     ·exact ⟨by omega, by omega⟩
     ·refine mo ?_ (aH (eh rfl (by exact Fit.of_eq (by rw [CU]; rfl)) (eh rfl (by exact Fit.of_eq (by rw [w0, ← qC]; rfl)) (aH (aH (aH (aH (aH (aH dF)))))))))
      repeat (first | exact cW | refine bh ?_ | refine cu ?_)
    refine kc 6 [11, 10, 8, 7, 5, 3, 2] 0 ?_
    have hi : i = (a.ps b).length := by omega
    subst hi
    refine gz [0, 1, 2, 4, 5, 6] mixed ?_;refine A2 (T := fun _ => False) 3 rfl (bo kz rfl rfl rfl rfl (hWa B k) (bd (bd (bd .nil))) (fun d hd => ?_)); obtain ⟨q1, rfl⟩ := hd
    refine A2 (T := fun _ => False) 7 rfl (bo kz rfl rfl rfl rfl (hWb B k) (bd (bd (bd .nil))) (fun d hd => ?_)); obtain ⟨q2, rfl⟩ := hd; refine ga [8] ?_;refine aQ ?_;refine ge 1 ?_;refine cj (fun h19 => ?_) (fun h19 => ?_)
    ·refine kc 0 [] 11 ?_;refine ez ?_; exact ⟨_, rfl⟩
    refine kc 3 [10, 8, 7, 5, 3, 2] 2 ?_;refine o1 (cw ?_);refine go 2 ?_;refine bi (k + 1) rfl ?_ mz
    exact ⟨by omega, by omega⟩
theorem yT (a b : cB) (hps : (a.ps b).length ≤ 6) (hps2 : (b.ps a).length ≤ 6) :
 cD Tryz.prog gl 71 [a.bG.d, b.bG.d] fun d => ∃ r : Bool, d = .v (.bool r) := by
 have h1 := jI (gl := gl) a b hps
 have h2 := jI (gl := gl) b a hps2
 obtain ⟨ka, na, aa, hXa⟩ := aJ.case a.bG
 obtain ⟨kb, nb, ab, hXb⟩ := aJ.case b.bG
 rw [hXa, hXb] at h1 h2 ⊢
 refine bD Tryz.func71 Tryz.ntmps71 ?_;refine gc 11 ?_;refine oc (T := fun _ => False) (bo vk rfl rfl rfl rfl (h1) (bd (bd .nil)) (fun d hd => ?_)); obtain ⟨q1, rfl⟩ := hd; refine ko 3 [5, 3, 2] 4 ?_;refine oc (T := fun _ => False) (bo vk rfl rfl rfl rfl (h2) (bd (bd .nil)) (fun d hd => ?_)); obtain ⟨q2, rfl⟩ := hd; refine ko 3 [6, 5] 4 ?_
 refine' oa (yt := 15) (d := 14) 1 ?a1 ?b1 ?_
 case a1 =>
  intro hc hK
  refine go 1 ?_; exact hK [_] rfl rfl
 case b1 =>
  intro _ hK; refine go 1 ?_; exact hK [_] rfl
 refine go 4 ?_;refine ez ?_; exact ⟨_, rfl⟩
end Go.Proofs.YtndbnldjidciiaaGreatDoor
namespace Go.Proofs.YtndbnldjidciiaaGreatDoor
open Go Go.Vd Go.RowKit
attribute [local irreducible] bl br de aj bI cY
variable {g gl : Nat → List D}
variable {ps : List ByteArray}
theorem oQ (hL : ps.length ≤ 6) (k : Int) (s : ByteArray) (args : List aJ) (hl : gQ ps (.mk k s args)) :
 cD Tryz.prog gl 163 [(aJ.mk k s args).d] fun d => ∃ r : Bool, d = .v (.bool r) := by
 obtain ⟨x, hx, hfx, hx2⟩ := hl
 have hq1 := jI (gl := gl) x .zero (nn hL hx2 (fun p h => h.elim))
 rw [← hx] at hq1
 refine bD Tryz.func163 Tryz.ntmps163 ?_;refine gc 10 ?_;refine oc (T := fun _ => False) (bo vk rfl rfl rfl rfl (hq1) (bd (.cons (.Jm rfl (by repeat (first | exact .refl _ | exact .nil | refine .agg ?_ | refine .cons ?_ ?_))) .nil)) (fun d hd => ?_)); obtain ⟨r, rfl⟩ := hd
 refine go 4 ?_;refine ez ?_; exact ⟨_, rfl⟩
theorem ux (hL : ps.length ≤ 6) (k : Int) (s : ByteArray) (args : List aJ) (hl : gQ ps (.mk k s args)) :
 cD Tryz.prog gl 164 [(aJ.mk k s args).d] fun d => ∃ r : Bool, d = .v (.bool r) := by
 obtain ⟨x, hx, hfx, hx2⟩ := hl
 have hq1 := jI (gl := gl) (.succ .zero) x (nn hL (fun p h => h.elim) hx2)
 rw [← hx] at hq1
 refine bD Tryz.func164 Tryz.ntmps164 ?_;refine gc 9 ?_;refine oc (gR jD [.tmp 4] dB ?_);refine ko 5 [3, 1] 4 ?_;refine oc (T := fun _ => False) (bo vk rfl rfl rfl rfl (hq1) (.cons (.Jm rfl (by repeat (first | exact .refl _ | exact .nil | refine .agg ?_ | refine .sl ?_ | refine .cons ?_ ?_))) (bd .nil)) (fun d hd => ?_))
 obtain ⟨r, rfl⟩ := hd; refine go 4 ?_;refine ez ?_; exact ⟨_, rfl⟩
theorem sj (x : RD) (k n : Int) (s : ByteArray) (ls : List aJ) (args : List ae) (m away : Int) (hok : tX (.mk k n s ls args)) (hz : (ae.mk k n s ls args).size ≤ 1000000000) (hm : 0 ≤ m ∧ m ≤ 1000000000) (hx : 0 ≤ x.ad ∧ x.ad ≤ 1000000000) (hpl : x.pd.length ≤ 1000000000) (ha : 0 ≤ away ∧ away ≤ 1000000000000) :
 cD Tryz.prog gl 170 [(ae.mk k n s ls args).d, x.dec.d, .v (.int .i64 m), .v (.int .i64 away)] fun d => ∃ b : Bool, d = .v (.bool b) ∧ (b = true → ∃ n' ls' ar, (bt (.mk k n s ls args)).1 = .mk 2 n' x.sd ls' ar ∧ ((bt (.mk k n s ls args)).2.length : Int) = x.ad + m) := by
 have hsp := et (gl := gl) k n s ls args hok (by omega)
 have hss := eV _ (.mk k n s ls args) (Nat.le_refl _)
 rcases hS : bt (.mk k n s ls args) with ⟨⟨kh, mh, sh, lh, ah⟩, az⟩
 rw [hS] at hsp hss
 simp only at hss
 have hsl := bA az
 have hlh := bR lh
 have hasl := bf az
 have hpdl := bU x.pd
 have hlz : lh.length ≤ 1000000000 := (by have := pN lh; simp only [ae.size] at hss hz; omega)
 refine bD Tryz.func170 Tryz.ntmps170 ?_;refine gc 10 ?_;refine oc (cv vX rfl rfl (hsp) (bd .nil) ?_);refine ko 9 [10, 9, 5, 2, 3] 6 ?_
 refine' oo (yt := 27) (d := 22) 5 ?a1 ?b1 ?_
 case a1 =>
  intro hc hK
  refine go 5 ?_; exact hK [_, _, _, _, _] rfl rfl
 case b1 =>
  intro _ hK; refine go 5 ?_; exact hK [_, _, _, _, _] rfl
 refine go 1 ?_
 refine' oo (yt := 36) (d := 29) 7 ?a2 ?b2 ?_
 case a2 =>
  intro hc hK
  refine go 5 ?_;refine gy ?_;refine o1 (cw ?_);refine go 1 ?_; exact hK [_, _, _, _, _, _, _] rfl rfl
 case b2 =>
  intro _ hK; refine go 7 ?_; exact hK [_, _, _, _, _, _, _] rfl
 refine go 1 ?_
 refine' oo (yt := 45) (d := 38) 7 ?a3 ?b3 ?_
 case a3 =>
  intro hc hK
  refine go 7 ?_
  exact hK [_, _, _, _, _, _, _] rfl rfl
 case b3 =>
  intro _ hK; refine go 7 ?_; exact hK [_, _, _, _, _, _, _] rfl
 refine go 2 ?_;refine cj (fun h2 => ?_) (fun h2 => ?_)
 ·refine kc 0 [] 7 ?_;refine ez ?_; exact ⟨_, rfl, fun h => by cases h⟩
 refine kc 3 [10, 9, 5, 3] 6 ?_;refine lP (ι := Nat) (fun i => [(11, int i)]) [10, 9, 5, 3] (fun i => i ≤ lh.length) (fun i => lh.length - i) (0) rfl ?I7 ?M7 ?H7
 case I7 =>
  exact Nat.zero_le _
 case M7 =>
  exact mz
 case H7 =>
  rintro i hinv
  try dsimp only at hinv
  refine kc 0 [11, 10, 9, 5, 3] 10 ?_;refine cj (fun h5 => ?_) (fun h5 => ?_)
  ·refine kc 5 [11, 10, 9, 5, 3] 0 ?_; obtain ⟨k2, s2, a2, hget⟩ := cU (show i < lh.length by omega)
   refine gz [0, 1, 2] mixed ?_;refine A1 3 rfl (bV ee ei ⟨_, rfl, ?_⟩ (he := by exact (cZ hget)));refine ga [4, 5, 6, 7] ?_;refine KV 61 (fun hc => ?_) (fun hc => ?_)
   ·(try simp only [dh, Int.reduceEq, Int.reduceNe, Int.reduceLT, Int.reduceLE] at hc)
    refine A7 8 rfl ?_ (hlit := by exact (.inl rfl));refine A7 9 rfl ?_ (hlit := by exact (.inl rfl));refine A7 10 rfl ?_ (hlit := by exact (.inl rfl));refine A7 11 rfl ?_ (hlit := by exact (.inl rfl));refine A7 12 rfl ?_ (hlit := by exact (.inl rfl));refine A7 13 rfl ?_ (hlit := by exact (.inl rfl));refine A7 14 rfl ?_ (hlit := by exact (.inl rfl));refine A7 15 rfl ?_ (hlit := by exact (.inl rfl));refine A7 16 rfl ?_ (hlit := by exact (.inl rfl));refine A7 17 rfl ?_ (hlit := by exact (.inl rfl));refine A7 18 rfl ?_ (hlit := by exact (.inl rfl));refine A7 19 rfl ?_ (hlit := by exact (.inl rfl));refine A1 20 rfl (u5 ⟨_, rfl, ?_⟩);refine aQ ?_;refine ge 1 ?_;refine ct ?_;refine kc 0 [] 11 ?_;refine ez ?_; exact ⟨_, rfl, fun h => by cases h⟩
   (try simp only [dh, Int.reduceEq, Int.reduceNe, Int.reduceLT, Int.reduceLE] at hc); refine A6 8 rfl (Kb bM ⟨_, rfl, ?_⟩);refine A6 9 rfl (DC yz ⟨_, rfl, ?_⟩);refine A6 10 rfl (mv ⟨_, rfl, ?_⟩);refine A6 11 rfl (bV ee ei ⟨_, rfl, ?_⟩ (he := by exact (cZ hget)));refine A6 12 rfl (KR dB ⟨_, rfl, ?_⟩);refine A6 13 rfl (J9 AB ⟨_, rfl, ?_⟩);refine A6 14 rfl (Kb Df ⟨_, rfl, ?_⟩);refine A6 15 rfl (DC GH ⟨_, rfl, ?_⟩);refine A6 16 rfl (mv ⟨_, rfl, ?_⟩);refine A6 17 rfl (bV jW lF ⟨_, rfl, ?_⟩ (he := by exact (fX (show i < x.pd.length by omega))));refine A6 18 rfl (J9 AB ⟨_, rfl, ?_⟩);refine A6 19 rfl (K7 ⟨_, rfl, ?_⟩);refine A1 20 rfl (qG ⟨_, rfl, ?_⟩);refine aQ ?_;refine ge 1 ?_;refine cj (fun h7 => ?_) (fun h7 => ?_)
   ·refine kc 0 [] 11 ?_;refine ez ?_
    exact ⟨_, rfl, fun h => by cases h⟩
   refine kc 3 [11, 10, 9, 5, 3] 2 ?_;refine o1 (cw ?_);refine go 2 ?_;refine bi (i + 1) rfl ?_ mz
   exact ⟨by omega, by omega⟩
  refine kc 6 [10, 5, 3] 6 ?_;refine lP (ι := Nat) (fun i => [(12, int i)]) [10, 5, 3] (fun i => i ≤ az.length) (fun i => az.length - i) (0) rfl ?I8 ?M8 ?H8
  case I8 =>
   exact Nat.zero_le _
  case M8 =>
   exact mz
  case H8 =>
   rintro i hinv
   try dsimp only at hinv
   refine kc 0 [12, 10, 5, 3] 9 ?_;refine cJ (fun h10 => ?_) (fun h10 => ?_)
   ·refine kc 5 [] 6 ?_;refine ez ?_;refine ⟨_, rfl, fun _ => ?_⟩; exact ⟨mh, lh, ah, by rw [show kh = 2 by omega, show sh = x.sd by exact h2.1.1.2], by simp only; omega⟩
   refine kc 6 [12, 10, 5, 3] 0 ?_
   obtain ⟨k3, m3, s3, l3, a3, hget⟩ := bQ (show i < az.length by omega)
   have hg3 := bC hget
   have hhas := jw (gl := gl) x.sd _ k3 m3 s3 l3 a3 (Nat.le_refl _) (by omega)
   refine gc 6 ?_
   refine' oa (yt := 103) (d := 85) 18 ?a4 ?b4 ?_
   case a4 =>
    intro hc hK
    refine go 2 ?_;refine gy ?_;refine o1 (bV bE bK ?_ (he := by exact (bY hget)));refine go 4 ?_
    refine' oo (yt := 102) (d := 92) 10 ?a5 ?b5 ?_ (hg := .yes rfl rfl rfl rfl)
    case a5 =>
     intro hc hK
     refine go 2 ?_;refine gy ?_;refine o1 (bV bE bK ?_ (he := by exact (bY hget)));refine go 3 ?_;refine gy ?_;refine o1 (nT ?_);refine go 1 ?_;refine gy ?_;refine o1 (nT ?_);refine go 1 ?_; exact hK [_, _, _, _, _, _, _, _, _, _] rfl rfl
    case b5 =>
     intro _ hK; refine go 10 ?_; exact hK [_, _, _, _, _, _, _, _, _, _] rfl
    exact hK [_, _, _, _, _, _, _, _] rfl rfl
   case b4 =>
    intro _ hK; refine go 18 ?_
    exact hK [_, _, _, _, _, _, _, _, _, _, _, _, _, _, _, _, _, _] rfl
   refine go 2 ?_;refine cj (fun h12 => ?_) (fun h12 => ?_)
   ·refine kc 0 [] 12 ?_;refine ez ?_; exact ⟨_, rfl, fun h => by cases h⟩
   refine kc 3 [12, 10, 5, 3] 0 ?_;refine gz [0, 1] mixed ?_;refine A1 2 rfl (bV bE bK ⟨_, rfl, ?_⟩ (he := by exact (bY hget)));refine ga [3, 4, 5] ?_;refine A2 6 rfl (cv vj rfl rfl (hhas) (bd (an .nil)) ?_);refine ga [7] ?_;refine aQ ?_;refine ke 1 [13, 12, 10, 5, 3] 7 ?_
   refine' oa (yt := 117) (d := 116) 1 ?a6 ?b6 ?_
   case a6 =>
    intro hc hK
    refine go 1 ?_; exact hK [_] rfl rfl
   case b6 =>
    intro _ hK; refine go 1 ?_; exact hK [_] rfl
   refine go 2 ?_;refine cj (fun h15 => ?_) (fun h15 => ?_)
   ·refine kc 0 [] 11 ?_;refine ez ?_
    exact ⟨_, rfl, fun h => by cases h⟩
   refine kc 3 [12, 10, 5, 3] 2 ?_;refine o1 (cw ?_);refine go 2 ?_;refine bi (i + 1) rfl ?_ mz
   exact ⟨by omega, by omega⟩
end Go.Proofs.YtndbnldjidciiaaGreatDoor
namespace Go.Proofs.YtndbnldjidciiaaGreatDoor
open Go Go.Vd Go.RowKit
attribute [local irreducible] bl br de aj bI cY
variable {g gl : Nat → List D}
def pE (ds : List dp) : Ob := .cells [.own 1 15 (iV ds), .map 2] 98
def dR : Ob := .row 61 15
theorem zl : ey Tryz.prog gl 21 [] [] fun out ob' => out = .ret (.bZ 0 0) ∧ ob' = [pE [], dR, .cz fun _ => none] := by
 refine bS Tryz.func21 Tryz.ntmps21 0 ?_;refine gc 6 ?_;refine bq 61 15 rfl ?_;refine gc 1 ?_;refine oc (T := fun _ => False) (zb rfl rfl rfl (by simp only [List.length_cons, List.length_nil, Nat.reduceAdd]; rfl) rfl ?_);refine go 6 ?_;refine fR ?_;refine jS ⟨_, _, rfl, rfl, rfl⟩ [2, 0, 1] (.bZ 0 0) ([pE [], dR, .cz fun _ => none]) rfl rfl rfl ?_ rfl ?_ ?_
 ·repeat (first | exact cW | exact zX | refine tr ?_ | refine p6 ?_ | refine BU ?_ ?_ | refine an ?_ | refine .cons (.nil rfl) ?_)
 ·exact .refl _
 ·exact ⟨rfl, rfl⟩
theorem DX (ds : List dp) (x : RD) : iV (ds ++ [x.dec]) = iV ds ++ [[.v (.int .i64 x.kd), .v (.string x.sd), .sl 1 (strs x.pd), .v (.int .i64 x.k1), .v (.int .i64 x.n1), .v (.string x.s1), .sl 3 (bF x.l1), .sl 5 (ba x.a1), .v (.int .i64 x.k2), .v (.int .i64 x.n2), .v (.string x.s2), .sl 3 (bF x.l2), .sl 5 (ba x.a2), .v (.int .i64 x.ad), .sl 6 (gV x.cd)]] := by
 rw [Af]; rfl
theorem xg {d : dp} {c : ByteArray × ae} : ∀ {l : List (ByteArray × ae)} {i : Nat} {f : ByteArray → Option D}, oN d i (l ++ [c]) f = p9 (oN d i l f) c.1 (qJ 3 d d.ps c.2 ((i + l.length : Nat) : Int))
 | [], i, f => rfl
 | a :: r, i, f => by
  rw [List.cons_append, oN, xg, oN, List.length_cons, show i + 1 + r.length = i + (r.length + 1) by omega]
variable {f : ByteArray → Option D}
theorem D2 {d : dp} {l : List (ByteArray × ae)} {i : Nat} {c : ByteArray × ae} (h : l[i]? = some c) : oN d 0 (l.take (i + 1)) f = p9 (oN d 0 (l.take i) f) c.1 (qJ 3 d d.ps c.2 i) := by
 have hi := (List.getElem?_eq_some_iff.1 h).1
 rw [List.take_add_one, h]
 show oN d 0 (l.take i ++ [c]) f = _
 rw [xg, List.length_take, Nat.min_eq_left (by omega), Nat.zero_add]
variable {x : RD} {rp : List ByteArray} {t : ae}
theorem E1 (h : ¬ x.kd = 3) : uh f ⟨x.dec, rp, t⟩ = yh f x.dec := if_neg h
theorem E0 (h : x.kd = 3) : uh f ⟨x.dec, rp, t⟩ = p9 (oN x.dec 0 x.cd (yh f x.dec)) (x.sd ++ tk) (qJ 4 x.dec rp t 0) := if_pos h
set_option maxHeartbeats 1600000 in
theorem Dp (ds : List dp) (f : ByteArray → Option D) (x : RD) (hk : x.kd = 1 ∨ x.kd = 2 ∨ x.kd = 3) (hsd : x.sd.size ≤ 1000000) (hdl : ds.length ≤ 1000000) (hcl0 : x.cd.length ≤ 1000000) (rp : List ByteArray) (k n : Int) (s : ByteArray) (ls : List aJ) (args : List ae) :
 ey Tryz.prog gl 80 [pE ds, dR, .cz f] [.bZ 0 0, .d x.dec.d, .d (c6 rp), .d (ae.mk k n s ls args).d] fun out ob' => out = .ret (.d (.cb [])) ∧ ob' = [pE (ds ++ [x.dec]), dR, .cz (uh f ⟨x.dec, rp, .mk k n s ls args⟩)] := by
 have hdl2 := oM ds
 have hcl := gd x.cd
 have hwix : ([[D.v (.int .i64 0)], [.v (.int .i64 0)], [.v (.int .i64 1)], [.v (.int .i64 2)]] : List (List D))[(x.kd).toNat]? = some [.v (.int .i64 (x.kd - 1))] := by
  rcases hk with h | h | h <;> rw [h] <;> rfl
 refine bS Tryz.func80 Tryz.ntmps80 3 ?_;refine gc 7 ?_;refine gz [0, 1, 2, 3, 4, 5] mixed ?_;refine A2 6 rfl (gR Dh [.tmp 15] Df ?_);refine A2 7 rfl (nU Dh ?_);refine ga [8, 9] ?_;refine A2 10 rfl (eD JT ?_);refine aQ ?_;refine ke 2 [7, 5, 0, 2] 0 ?_
 rw [← DX ds x]
 refine yQ 3 rfl rfl rfl rfl rfl rfl ?_;refine gz [0, 1, 2, 3, 4, 5, 7, 8, 11, 12, 13, 14] mixed ?_;refine A2 6 rfl (gR J1 [.const (.int .i64 0), .const (.int .i64 0), .const (.int .i64 1), .const (.int .i64 2)] HJ ?_);refine A1 9 rfl (wU JP JY ⟨_, rfl, ?_⟩ (he := by exact (hwix)));refine ga [10, 15] ?_;refine A2 (T := fun _ => False) 16 rfl (xM Cm rfl rfl rfl rfl rfl (by simp only [List.length_cons, List.length_nil, Nat.reduceAdd]; rfl) rfl rfl rfl rfl rfl rfl ?_);refine A2 17 rfl (pV uA rfl rfl rfl rfl rfl rfl rfl rfl ?_);refine aQ ?_;refine ke 2 [7, 5, 0, 2] 7 ?_;refine cj (fun h3 => ?_) (fun h3 => ?_)
 ·refine gc 2 ?_;refine fR ?_;refine qF (l := []) rfl rfl (.cb []) (by exact .refl _) ([0, 1, 2]) ([pE (ds ++ [x.dec]), dR, .cz (yh f x.dec)]) rfl rfl rfl ?_ ?_
  ·repeat (first | exact cW | refine bh ?_ | refine cu ?_ | refine tr ?_)
  ·refine ⟨rfl, ?_⟩
   rw [E1 h3]
 refine kc 12 [43, 42, 41, 7, 5, 0, 2] 0 ?_;refine lp (ι := Nat) (fun i => [(43, int i)]) (fun i => [pE (ds ++ [x.dec]), dR, .cz (oN x.dec 0 (x.cd.take i) (yh f x.dec)), .dead, tO k n s ls args]) [42, 41, 7, 5, 0, 2] (fun i => i ≤ x.cd.length) (fun i => x.cd.length - i) (0) ([0, 1, 2, 3, 4]) rfl ?I1 ?M1 ?H1
 case I1 =>
  exact Nat.zero_le _
 case M1 =>
  refine mo ?_ (aH (aH (aH (aH (aH (aH (aH dF)))))))
  repeat (first | exact cW | refine bh ?_ | refine cu ?_ | refine tr ?_ | refine LH ?_)
 case H1 =>
  rintro i hinv
  try dsimp only at hinv
  refine kc 0 [43, 42, 41, 7, 5, 0, 2] 6 ?_;refine cJ (fun h5 => ?_) (fun h5 => ?_)
  ·refine kc 5 [7, 5, 0, 2] 0 ?_;refine gz [0, 1, 2, 3, 4, 5] mixed ?_;refine A1 6 rfl (pY ⟨_, rfl, ?_⟩ (hb := by (try simp only [ByteArray.size_append, ni, List.size_toArray, List.length_cons, List.length_nil]); omega));refine ga [7, 8, 9] ?_;refine A2 (T := fun _ => False) 10 rfl (xM Cm rfl rfl rfl rfl rfl (by simp only [List.length_cons, List.length_nil, Nat.reduceAdd]; rfl) rfl rfl rfl rfl rfl rfl ?_);refine A2 11 rfl (pV uA rfl rfl rfl rfl rfl rfl rfl rfl ?_);refine aQ ?_;refine fN ?_;refine qF (l := []) rfl rfl (.cb []) (by exact .refl _) ([0, 1, 2]) ([pE (ds ++ [x.dec]), dR, .cz (p9 (oN x.dec 0 (x.cd.take i) (yh f x.dec)) (x.sd ++ tk) (qJ 4 x.dec rp (.mk k n s ls args) 0))]) rfl rfl rfl ?_ ?_
   ·repeat (first | exact cW | refine bh ?_ | refine cu ?_ | refine tr ?_)
   ·refine ⟨rfl, ?_⟩
    rw [E0 (by omega), List.take_of_length_le (by omega)]
  refine gc 5 ?_
  obtain ⟨cN, cK, cM, cS, cL, cA, hget⟩ := kn (show i < x.cd.length by omega)
  have htk := D2 (d := x.dec) (f := yh f x.dec) hget
  refine gc 2 ?_;refine o1 (bV pG qc ?_ (he := by exact (gW hget)));refine ko 6 [8, 9, 43, 42, 41, 7, 5, 0, 2] 0 ?_;refine gz [0, 1, 2, 3, 4, 5, 6, 7, 8, 9, 10, 11] mixed ?_;refine A2 (T := fun _ => False) 12 rfl (xM Cm rfl rfl rfl rfl rfl (by simp only [List.length_cons, List.length_nil, Nat.reduceAdd]; rfl) rfl rfl rfl rfl rfl rfl ?_);refine A2 13 rfl (pV uA rfl rfl rfl rfl rfl rfl rfl rfl ?_);refine aQ ?_;refine ke 2 [43, 42, 41, 7, 5, 0, 2] 1 ?_;refine o1 (cw ?_);refine go 2 ?_;refine bk (i + 1) rfl ?_ ([0, 1, 2, 3, 4]) ?_
  ·exact ⟨by omega, by omega⟩
  ·refine mo ?_ (aH (aH (aH (aH (aH (aH (aH dF)))))))
   repeat (first | exact cW | refine bh ?_ | refine KH htk ?_ | refine cu ?_ | refine LH ?_)
end Go.Proofs.YtndbnldjidciiaaGreatDoor
namespace Go.Proofs.YtndbnldjidciiaaGreatDoor
open Go Go.Vd Go.RowKit
attribute [local irreducible] bl br de aj bI cY
variable {g gl : Nat → List D}
theorem yZ (ds : List dp) (f : ByteArray → Option D) (nm : ByteArray) (h : f nm = none) :
 ey Tryz.prog gl 26 [pE ds, dR, .cz f] [.bZ 0 0, .d (.v (.string nm))] fun out ob' => out = .ret (.d (.v (.bool false))) ∧ ob' = [pE ds, dR, .cz f] := by
 refine bS Tryz.func26 Tryz.ntmps26 3 ?_;refine gc 6 ?_
 have hg : (f nm).getD (.v (.pointer none)) = .v (.pointer none) := (by rw [h]; rfl)
 refine gc 6 ?_;refine oc (T := fun _ => False) (nu uA rfl rfl rfl rfl rfl rfl ?_)
 rw [hg]
 refine o1 (zP Cj rfl rfl ?_);refine go 4 ?_;refine qI [0, 1, 2] [pE ds, dR, .cz f] ?_
 ·exact ⟨rfl, rfl⟩
theorem yY (ds : List dp) (f : ByteArray → Option D) (nm : ByteArray) {l : List D} (h : f nm = some (.cp l)) :
 ey Tryz.prog gl 26 [pE ds, dR, .cz f] [.bZ 0 0, .d (.v (.string nm))] fun out ob' => out = .ret (.d (.v (.bool true))) ∧ ob' = [pE ds, dR, .cz f] := by
 refine bS Tryz.func26 Tryz.ntmps26 3 ?_;refine gc 6 ?_
 have hg : (f nm).getD (.v (.pointer none)) = .cp l := (by rw [h]; rfl)
 refine gc 6 ?_;refine oc (T := fun _ => False) (nu uA rfl rfl rfl rfl rfl rfl ?_)
 rw [hg]
 refine o1 (Bt Cj rfl rfl ?_);refine go 4 ?_;refine qI [0, 1, 2] [pE ds, dR, .cz f] ?_
 ·exact ⟨rfl, rfl⟩
theorem AW (ds : List dp) (f : ByteArray → Option D) (nm : ByteArray) (h : f nm = none) :
 ey Tryz.prog gl 24 [pE ds, dR, .cz f] [.bZ 0 0, .d (.v (.string nm))] fun out ob' => out = .ret (.d (.cb [c6 [], aI.d, .v (.bool false)])) ∧ ob' = [pE ds, dR, .cz f] := by
 refine bS Tryz.func24 Tryz.ntmps24 3 ?_;refine gc 8 ?_
 have hg : (f nm).getD (.v (.pointer none)) = .v (.pointer none) := (by rw [h]; rfl)
 refine gc 6 ?_;refine oc (T := fun _ => False) (nu uA rfl rfl rfl rfl rfl rfl ?_);refine ko 5 [7, 5] 0 ?_
 rw [hg]
 refine gc 2 ?_;refine o1 (u6 Cj ?_);refine go 2 ?_;refine ct ?_;refine gc 10 ?_;refine eo (.cb [c6 [], aI.d, .v (.bool false)]) [0, 1, 2] [pE ds, dR, .cz f] ?_
 ·exact ⟨rfl, rfl⟩
theorem AV (ds : List dp) (f : ByteArray → Option D) (nm : ByteArray) {w : Int} {d : dp} {ps : List ByteArray} {k n : Int} {s : ByteArray} {ls : List aJ} {args : List ae} {num : Int} (h : f nm = some (qJ w d ps (.mk k n s ls args) num)) :
 ey Tryz.prog gl 24 [pE ds, dR, .cz f] [.bZ 0 0, .d (.v (.string nm))] fun out ob' => out = .ret (.d (.cb [c6 ps, (ae.mk k n s ls args).d, .v (.bool true)])) ∧ ob' = [pE ds, dR, .cz f] := by
 refine bS Tryz.func24 Tryz.ntmps24 3 ?_;refine gc 8 ?_
 have hg : (f nm).getD (.v (.pointer none)) = .cp [.v (.int .i64 w), .cp d.cells, .sl 1 (strs ps), .v (.int .i64 k), .v (.int .i64 n), .v (.string s), .sl 3 (bF ls), .sl 5 (ba args), .v (.int .i64 num)] := (by rw [h]; rfl)
 refine gc 6 ?_;refine oc (T := fun _ => False) (nu uA rfl rfl rfl rfl rfl rfl ?_);refine ko 5 [7, 5] 0 ?_
 rw [hg]
 refine gc 2 ?_;refine o1 (DU Cj ?_);refine go 2 ?_;refine cf ?_;refine gc 3 ?_;refine gz [0, 1, 2, 3, 4, 5, 6, 7, 8] mixed ?_;refine A2 9 rfl (eD bM ?_);refine ga [10] ?_;refine aQ ?_;refine ge 2 ?_;refine eo (.cb [c6 ps, (ae.mk k n s ls args).d, .v (.bool true)]) [0, 1, 2] [pE ds, dR, .cz f] ?_
 ·exact ⟨rfl, rfl⟩
theorem Ah (ds : List dp) (hdl : ds.length ≤ 1000000) : cD Tryz.prog gl 48 [.sl 15 (iV ds)] (· = .sl 15 (iV ds)) := by
 have hdl2 := oM ds
 refine bD Tryz.func48 Tryz.ntmps48 ?_;refine gc 9 ?_;refine oc (T := fun _ => False) (E8 GB rfl rfl rfl rfl rfl (fun bn hbn => ?_));refine go 2 ?_;refine cj (fun h1 => ?_) (fun h1 => ?_)
 ·refine kc 0 [] 7 ?_;refine fR ?_;refine FI ⟨_, _, rfl, rfl, rfl⟩ rfl (.sl 15 []) (by exact .nil) ?_
  rw [hbn (by assumption)]
 refine gc 4 ?_;refine oc (T := fun _ => False) (GZ Dh rfl rfl rfl (by simp only [List.length_cons, List.length_nil, Nat.reduceAdd]; rfl) rfl ?_);refine go 1 ?_;refine oc (lj Dh rfl rfl rfl (.inl rfl) rfl rfl rfl (.inl rfl) (by decide) (by (simp only [maxLen, List.length_nil]; omega)) rfl rfl rfl ?_);refine go 4 ?_;refine ez ?_
 rw [List.nil_append]
theorem y0 (ds : List dp) (f : ByteArray → Option D) (hdl : ds.length ≤ 1000000) :
 ey Tryz.prog gl 28 [pE ds, dR, .cz f] [.bZ 0 0] fun out ob' => out = .ret (.d (.sl 15 (iV ds))) ∧ ob' = [pE ds, dR, .cz f] := by
 refine bS Tryz.func28 Tryz.ntmps28 3 ?_;refine gc 11 ?_;refine oc (cv Lp rfl rfl (Ah ds hdl) (bd .nil) ?_);refine go 4 ?_;refine qI [0, 1, 2] [pE ds, dR, .cz f] ?_
 ·exact ⟨rfl, rfl⟩
end Go.Proofs.YtndbnldjidciiaaGreatDoor
namespace Go.Proofs.YtndbnldjidciiaaGreatDoor
open Go Go.Vd Go.RowKit
attribute [local irreducible] bl br de aj bI cY
variable {g gl : Nat → List D}
theorem E4 (s : ByteArray) : cD Tryz.prog (zJ g) 34 [.v (.string s)] (· = .cb [(oe s).1.d, .agg [.v (.int .i64 (oe s).2.1), .v (.int .i64 (oe s).2.2)]]) := by
 refine bD Tryz.func34 Tryz.ntmps34 ?_;refine gc 14 ?_;refine cj (fun h1 => ?_) (fun h1 => ?_)
 ·refine kc 0 [3, 2] 10 ?_;refine ed (.cb [aI.d, .agg [.v (.int .i64 2), .v (.int .i64 0)]]) ?_
  unfold oe; rw [if_pos (by omega)]
 refine kc 11 [4, 3, 2] 0 ?_
 obtain ⟨k1, n1, s1, l1, a1, hX⟩ := ae.case (bH (s.size + 1) s ⟨0, none⟩).1
 have hs : s.size ≤ 1099511627776 := by omega
 have hle := dG (s := s) (s.size + 1) ⟨0, none⟩ (Nat.zero_le _)
 refine gc 2 ?_;refine oc (ay F3 rfl rfl rfl rfl (oV s hs (s.size + 1) ⟨0, none⟩ (Nat.zero_le _) (by simp)) [2] (bh .nil) rfl rfl rfl rfl (an .nil) (fun s ob' hq => ?_) (fun s ob' hq => ?_))
 rotate_left
 ·first | exact hq.elim | cases hq.1
 obtain ⟨hq1, rfl⟩ := hq; rw [hX] at hq1; cases hq1; refine ⟨_, _, _, _, _, rfl, rfl, rfl, rfl, rfl, ?_⟩;refine go 7 ?_;refine oc (ck Ln rfl rfl (DW s (bH (s.size + 1) s ⟨0, none⟩).2 hs hle.2) [2] rfl (bh .nil) (an .nil) ?_);refine ko 5 [6, 5, 3, 2] 7 ?_;refine cJ (fun h6 => ?_) (fun h6 => ?_)
 ·refine gc 3 ?_;refine gz [0, 1] mixed ?_;refine A2 2 rfl (eD bM ?_);refine A2 3 rfl (eD xu ?_);refine aQ ?_;refine ge 2 ?_;refine ed (.cb [(ae.mk k1 n1 s1 l1 a1).d, .agg [.v (.int .i64 (bg (ik s (bH (s.size + 1) s ⟨0, none⟩).2).f)), .v (.int .i64 (dJ (ik s (bH (s.size + 1) s ⟨0, none⟩).2).f))]]) ?_
  rw [y6 (by omega) h6, hX]
 refine kc 1 [6, 3, 2] 0 ?_;refine gz [0, 1] mixed ?_;refine A2 2 rfl (eD bM ?_);refine A2 3 rfl (eD xu ?_);refine aQ ?_;refine ge 3 ?_;refine ed (.cb [aI.d, .agg [.v (.int .i64 (bg (ik s (bH (s.size + 1) s ⟨0, none⟩).2).f)), .v (.int .i64 (dJ (ik s (bH (s.size + 1) s ⟨0, none⟩).2).f))]]) ?_
 rw [AZ (by omega) h6]
theorem BY : ∀ (n : Nat) (k m : Int) (s : ByteArray) (ls : List aJ) (args : List ae) (k2 m2 : Int) (s2 : ByteArray) (ls2 : List aJ) (args2 : List ae), (ae.mk k m s ls args).size ≤ n → (ae.mk k m s ls args).size ≤ 1099511627776 →
 cD Tryz.prog gl 40 [(ae.mk k m s ls args).d, (ae.mk k2 m2 s2 ls2 args2).d, .v (.bool false)] (· = .v (.bool (ae.same (.mk k m s ls args) (.mk k2 m2 s2 ls2 args2)))) := by
 intro n
 induction n with
 | zero => intro k m s ls args k2 m2 s2 ls2 args2 h; simp [ae.size] at h
 | succ n ih =>
  intro k m s ls args k2 m2 s2 ls2 args2 hn hb
  have hsz : ai args ≤ n := by simp [ae.size] at hn; omega
  have hlen := bf args
  have hlen2 := bf args2
  have hlb := v9 args
  have hlenL := bR ls
  have hlenL2 := bR ls2
  have hlbL := iA ls
  simp only [ae.size] at hb
  refine bD Tryz.func40 Tryz.ntmps40 ?_;refine gc 16 ?_
  refine' oo (yt := 21) (d := 16) 5 ?a1 ?b1 ?_
  case a1 =>
   intro hc hK
   refine go 5 ?_; exact hK [_, _, _, _, _] rfl rfl
  case b1 =>
   intro _ hK; refine go 5 ?_; exact hK [_, _, _, _, _] rfl
  refine go 1 ?_
  refine' oo (yt := 28) (d := 23) 5 ?a2 ?b2 ?_
  case a2 =>
   intro hc hK
   refine go 5 ?_; exact hK [_, _, _, _, _] rfl rfl
  case b2 =>
   intro _ hK; refine go 5 ?_; exact hK [_, _, _, _, _] rfl
  refine go 1 ?_
  refine' oo (yt := 37) (d := 30) 7 ?a3 ?b3 ?_
  case a3 =>
   intro hc hK
   refine go 7 ?_
   exact hK [_, _, _, _, _, _, _] rfl rfl
  case b3 =>
   intro _ hK; refine go 7 ?_; exact hK [_, _, _, _, _, _, _] rfl
  refine go 1 ?_
  refine' oo (yt := 46) (d := 39) 7 ?a4 ?b4 ?_
  case a4 =>
   intro hc hK
   refine go 7 ?_
   exact hK [_, _, _, _, _, _, _] rfl rfl
  case b4 =>
   intro _ hK; refine go 7 ?_; exact hK [_, _, _, _, _, _, _] rfl
  refine go 2 ?_;refine cj (fun h1 => ?_) (fun h1 => ?_)
  ·refine kc 0 [] 7 ?_;refine ez ?_
   rw [ae.iL]
   rcases h1 with (((h | h) | h) | h) | h
   ·simp [h]
   ·simp [h]
   ·simp [h]
   ·have : eE ls ls2 = false := by
     cases hs : eE ls ls2 with
     | false => rfl
     | true => exact absurd (by have := rf hs; omega) h
    simp [this]
   ·have : fS args args2 = false := by
     cases hs : fS args args2 with
     | false => rfl
     | true => exact absurd (by have := wy hs; omega) h
    simp [this]
  refine kc 3 [4, 3, 2] 6 ?_;refine lP (ι := Nat) (fun i => [(7, int i)]) [4, 3, 2] (fun i => i ≤ ls.length ∧ eE (ls.take i) (ls2.take i) = true) (fun i => ls.length - i) (0) rfl ?I6 ?M6 ?H6
  case I6 =>
   exact ⟨Nat.zero_le _, by simp [eE]⟩
  case M6 =>
   exact mz
  case H6 =>
   rintro i hinv
   try dsimp only at hinv
   refine kc 0 [7, 4, 3, 2] 10 ?_;refine cj (fun h4 => ?_) (fun h4 => ?_)
   ·refine kc 5 [7, 4, 3, 2] 0 ?_; obtain ⟨k', s', a', hget⟩ := cU (show i < ls.length by omega)
    obtain ⟨k2', s2', a2', hget2⟩ := cU (show i < ls2.length by omega)
    have hsz' := iT hget
    refine gz [0, 1, 2] mixed ?_;refine A1 3 rfl (bV ee ei ⟨_, rfl, ?_⟩ (he := by exact (cZ hget)));refine ga [4, 5, 6, 7] ?_;refine A1 8 rfl (bV ee ei ⟨_, rfl, ?_⟩ (he := by exact (cZ hget2)));refine ga [9] ?_;refine A2 10 rfl (cv F2 rfl rfl (qo _ k' s' a' k2' s2' a2' (Nat.le_refl _) (by omega)) (bd (bd .nil)) ?_);refine ga [11] ?_;refine aQ ?_;refine ke 2 [8, 7, 4, 3, 2] 5 ?_
    refine' oa (yt := 69) (d := 68) 1 ?a5 ?b5 ?_
    case a5 =>
     intro hc hK
     refine go 1 ?_; exact hK [_] rfl rfl
    case b5 =>
     intro _ hK; refine go 1 ?_; exact hK [_] rfl
    refine go 2 ?_;refine cf ?_;refine kc 2 [8, 7, 4, 3, 2] 6 ?_;refine cj (fun h9 => ?_) (fun h9 => ?_)
    ·refine kc 0 [] 11 ?_;refine ez ?_
     rw [ae.iL]; rw [n6 hget hget2 h9]; simp
    refine gc 5 ?_;refine o1 (cw ?_);refine go 2 ?_;refine bi (i + 1) rfl ?_ mz
    exact ⟨⟨by omega, by rw [ug hget hget2]; simp [hinv.2, h9]⟩, by omega⟩
   refine kc 7 [4, 3, 2] 0 ?_
   have hL := hinv.2
   rw [List.take_of_length_le (by omega), List.take_of_length_le (by omega)] at hL
   refine gc 5 ?_;refine lP (ι := Nat) (fun j => [(9, int j)]) [4, 3, 2] (fun j => j ≤ args.length ∧ fS (args.take j) (args2.take j) = true) (fun j => args.length - j) (0) rfl ?I7 ?M7 ?H7
   case I7 =>
    exact ⟨Nat.zero_le _, by simp [fS]⟩
   case M7 =>
    exact mz
   case H7 =>
    rintro j hinv
    try dsimp only at hinv
    refine kc 0 [9, 4, 3, 2] 10 ?_;refine cJ (fun h12 => ?_) (fun h12 => ?_)
    ·refine kc 5 [] 6 ?_;refine ez ?_
     rw [ae.iL]; have h9 := hinv.2; rw [List.take_of_length_le (by omega), List.take_of_length_le (by omega)] at h9; simp [h9, h1, hL]
    refine kc 5 [9, 4, 3, 2] 0 ?_
    obtain ⟨k', n', s', l', a', hget⟩ := bQ (show j < args.length by omega); obtain ⟨k2', n2', s2', l2', a2', hget2⟩ := bQ (show j < args2.length by omega)
    have hsz' := bC hget
    refine gz [0, 1, 2] mixed ?_;refine A1 3 rfl (bV bE bK ⟨_, rfl, ?_⟩ (he := by exact (bY hget)));refine ga [4, 5, 6, 7] ?_;refine A1 8 rfl (bV bE bK ⟨_, rfl, ?_⟩ (he := by exact (bY hget2)));refine ga [9, 10] ?_;refine A2 11 rfl (cv F5 rfl rfl (ih k' n' s' l' a' k2' n2' s2' l2' a2' (by omega) (by omega)) (bd (bd (an .nil))) ?_);refine ga [12] ?_;refine aQ ?_;refine ke 1 [10, 9, 4, 3, 2] 6 ?_;refine cj (fun h15 => ?_) (fun h15 => ?_)
    ·refine kc 0 [] 11 ?_;refine ez ?_
     rw [ae.iL]; rw [se hget hget2 h15]; simp
    refine gc 5 ?_;refine o1 (cw ?_);refine go 2 ?_;refine bi (j + 1) rfl ?_ ?_
    ·exact ⟨⟨by omega, by rw [AN hget hget2]; simp [hinv.2, h15]⟩, by omega⟩
    ·exact mz
theorem iM (k m : Int) (s : ByteArray) (ls : List aJ) (args : List ae) (k2 m2 : Int) (s2 : ByteArray) (ls2 : List aJ) (args2 : List ae) (hb : (ae.mk k m s ls args).size ≤ 1099511627776) :
 cD Tryz.prog gl 18 [(ae.mk k m s ls args).d, (ae.mk k2 m2 s2 ls2 args2).d] (· = .v (.bool (ae.same (.mk k m s ls args) (.mk k2 m2 s2 ls2 args2)))) := by
 refine bD Tryz.func18 Tryz.ntmps18 ?_;refine gc 11 ?_;refine oc (cv F5 rfl rfl (BY _ k m s ls args k2 m2 s2 ls2 args2 (Nat.le_refl _) hb) (bd (bd (an .nil))) ?_);refine go 4 ?_;refine ez ?_
 rfl
end Go.Proofs.YtndbnldjidciiaaGreatDoor
namespace Go.Proofs.YtndbnldjidciiaaGreatDoor
open Go Go.Vd Go.RowKit
attribute [local irreducible] bl br de aj bI cY
variable {g gl : Nat → List D}
theorem Dr {bs : List ae} {j : Nat} {a t : ae} (h : bs[j]? = some a) : pf (bs.drop j) t = .mk 5 0 .empty [] [a, pf (bs.drop (j + 1)) t] := by
 rw [drop_cons h]; rfl
theorem iW (x : RD) (m mot : Int) (bs : List ae) (k n : Int) (s : ByteArray) (ls : List aJ) (args : List ae) (fr : Nat) (hfr : fr ≤ bs.length) (h0 : 0 < bs.length) (hb : bs.length ≤ 1099511627776) :
 ey Tryz.prog gl 176 [eT x m bs.length mot, eC bs] [.bZ 0 0, .d (ae.mk k n s ls args).d, .d (.v (.int .i64 fr))] fun out ob' => out = .ret (.d (pf (bs.drop fr) (.mk k n s ls args)).d) ∧ ob' = [eT x m fr mot, eC (bs.take fr)] := by
 have hbl := bf bs
 obtain ⟨kR, mR, sR, lR, aR, hR⟩ := ae.case (pf (bs.drop fr) (.mk k n s ls args))
 rw [hR]
 refine bS Tryz.func176 Tryz.ntmps176 2 ?_;refine gc 13 ?_;refine o1 (gj bE rfl rfl ?_);refine o1 (nT ?_);refine ko 4 [7, 6, 4, 0, 2] 0 ?_;refine lp (ι := Nat × Int × Int × ByteArray × List aJ × List ae) (fun ⟨j, k', m', s', l', a'⟩ => [(7, int ((j : Int) - 1))]) (fun ⟨j, k', m', s', l', a'⟩ => [eT x m bs.length mot, eC bs, tO k' m' s' l' a', zO]) [6, 4, 0, 2] (fun ⟨j, k', m', s', l', a'⟩ => fr ≤ j ∧ j ≤ bs.length ∧ pf (bs.drop j) (.mk k n s ls args) = .mk k' m' s' l' a') (fun ⟨j, k', m', s', l', a'⟩ => j) ((bs.length, k, n, s, ls, args)) ([0, 1, 2, 3]) rfl ?I1 ?M1 ?H1
 case I1 =>
  exact ⟨hfr, Nat.le_refl _, by rw [List.drop_length]; rfl⟩
 case M1 =>
  exact mz
 case H1 =>
  rintro ⟨j, k', m', s', l', a'⟩ hinv
  try dsimp only at hinv
  obtain ⟨i1, i2, i3⟩ := hinv; refine kc 0 [7, 6, 4, 0, 2] 8 ?_;refine cJ (fun h2 => ?_) (fun h2 => ?_)
  ·refine kc 6 [6, 4, 0, 2] 0 ?_; obtain rfl : j = fr := (by omega)
   rw [i3] at hR
   cases hR; refine gc 7 ?_;refine oc (xL bE bK rfl rfl rfl rfl rfl rfl rfl rfl (by omega) (by omega) rfl rfl rfl ?_);refine ko 5 [6, 4] 7 ?_;refine fR ?_
   rw [mP]
   refine qF ⟨_, _, rfl, (fm rfl rfl bM rfl rfl rfl rfl), rfl⟩ rfl ((ae.mk kR mR sR lR aR).d) (by exact .refl _) ([0, 1]) ([eT x m j mot, eC (bs.take j)]) rfl rfl rfl ?_ ?_
   ·repeat (first | exact cW | refine bh ?_ | refine Eg ?_)
   ·exact ⟨rfl, rfl⟩
  refine gc 4 ?_; obtain ⟨jj, rfl⟩ : ∃ jj, j = jj + 1 := ⟨j - 1, by omega⟩
  obtain ⟨k2, m2, s2, l2, a2, hget⟩ := bQ (show jj < bs.length by omega)
  have hej : (ba bs)[(((jj + 1 : Nat) : Int) - 1).toNat]? = some [D.v (.int .i64 k2), .v (.int .i64 m2), .v (.string s2), .sl 3 (bF l2), .sl 5 (ba a2)] := by
   rw [show (((jj + 1 : Nat) : Int) - 1).toNat = ((jj : Nat) : Int).toNat by omega]; exact bY hget
  refine gz [0, 1, 2, 3, 4] mixed ?_;refine A1 5 rfl (pz bE bK rfl rfl rfl rfl rfl rfl (by omega) ⟨_, rfl, ?_⟩);refine ga [7] ?_;refine A2 (T := fun _ => False) 6 rfl (Ba bM rfl rfl rfl rfl rfl rfl rfl rfl rfl (hej) ?_);refine A2 8 rfl (cv Hv rfl rfl (qz k2 m2 s2 l2 a2 k' m' s' l' a') (an (bd .nil)) ?_);refine A2 9 rfl (eD bM ?_);refine aQ ?_;refine ke 2 [7, 6, 4, 0, 2] 2 ?_;refine o1 (nT ?_);refine go 2 ?_;refine bk ((jj, 5, 0, .empty, [], [.mk k2 m2 s2 l2 a2, .mk k' m' s' l' a'])) rfl ?_ ([0, 1, 2, 3]) ?_
  ·exact ⟨⟨by omega, by omega, by rw [Dr hget, i3]⟩, Nat.lt_succ_self jj⟩
  ·refine mo ?_ (eh rfl (by exact Fit.of_eq (by rw [show (((jj + 1 : Nat) : Int) - 1 - 1) = ((jj : Nat) : Int) - 1 by omega]; rfl)) (aH (aH (aH (aH dF)))))
   repeat (first | exact cW | refine bh ?_ | refine Eg ?_)
theorem yi (l : List Int) (n : Int) (hb : l.length ≤ 1099511627776) : cD Tryz.prog gl 180 [.sl 1 (ints l), .v (.int .i64 n)] (· = .sl 1 (ints (l ++ [n]))) := by
 have hlen := eP l
 refine bD Tryz.func180 Tryz.ntmps180 ?_;refine gc 14 ?_;refine oc (T := fun _ => False) (gL nY rfl rfl rfl rfl rfl rfl (by simp only [List.length_cons, List.length_nil, Nat.reduceAdd]; rfl) rfl rfl (by decide) (by first | decide | (simp only [maxLen, List.length_cons, List.length_nil, List.length_append, List.length_map]; omega) | omega) rfl rfl rfl ?_);refine ko 3 [5, 1] 4 ?_;refine oc (gR nY [.tmp 10] AE ?_);refine oc (nU nY ?_);refine go 4 ?_;refine ez ?_
 rw [← qC]
def jM (ps : List ByteArray) : List aJ := ps.map fun p => .mk 4 p []
theorem wZ : ∀ l : List D, jY l l
 | [] => .nil
 | a :: r => .cons (.refl a) (wZ r)
theorem nJ {e e' : List D} (h : jY e e') : ∀ l : List (List D), kN (l ++ [e]) (l ++ [e'])
 | [] => .cons h .nil
 | a :: r => .cons (wZ a) (nJ h r)
theorem E6 (ps : List ByteArray) (hb : ps.length ≤ 1099511627776) : cD Tryz.prog gl 181 [c6 ps] (· = .sl 3 (bF (jM ps))) := by
 have hlen := bU ps
 refine bD Tryz.func181 Tryz.ntmps181 ?_;refine kc 17 [4, 3, 0] 0 ?_;refine bq 121 3 rfl ?_;refine lp (ι := Nat) (fun i => [(4, int i), (3, .own 0 3 (bF (jM (ps.take i))))]) (fun i => [.row 121 3]) [0] (fun i => i ≤ ps.length) (fun i => ps.length - i) (0) ([0]) rfl ?I2 ?M2 ?H2
 case I2 =>
  exact Nat.zero_le _
 case M2 =>
  refine mo ?_ (aH (eh rfl (by exact Fit.nil rfl) (aH dF)))
  repeat (first | exact cW | refine p6 ?_)
 case H2 =>
  rintro i hinv
  try dsimp only at hinv
  refine kc 0 [4, 3, 0] 9 ?_;refine cJ (fun h3 => ?_) (fun h3 => ?_)
  ·refine kc 5 [3] 7 ?_;refine ez ?_
   rw [List.take_of_length_le (by omega)]
  refine kc 4 [4, 3, 0] 0 ?_
  have hnx : bF (jM (ps.take i)) ++ [[D.v (.int .i64 4), .v (.string (ps[i]'(by omega))), .sl 3 []]] = bF (jM (ps.take (i + 1))) := (by
   rw [List.take_add_one, List.getElem?_eq_getElem (show i < ps.length by omega)]
   simp only [jM, List.map_append, Option.toList_some, List.map_cons, List.map_nil, bF, aJ.cells, qy])
  have hfo : ∀ ob, Fit ob (SV.own 0 3 (bF (jM (ps.take i)) ++ [[D.v (.int .i64 4), .v (.string (ps[i]'(by omega))), .v (.slice none 0 0)]])) (SV.own 0 3 (bF (jM (ps.take (i + 1))))) := fun ob => by rw [← hnx]; exact Fit.own (nJ (.cons (.refl _) (.cons (.refl _) (.cons .nil .nil))) _)
  have hll := bR (jM (ps.take i))
  have hol : (jM (ps.take i)).length = i := (by simp [jM]; omega)
  refine gc 4 ?_;refine o1 (bV jW lF ?_ (he := by exact (fX (by omega))));refine go 2 ?_;refine oc (gR jD [.tmp 16] dB ?_);refine oc (nU jD ?_);refine ko 4 [3, 4, 0] 2 ?_;refine o1 (cw ?_);refine go 2 ?_;refine bk (i + 1) rfl ?_ ([0]) ?_
  ·exact ⟨by omega, by omega⟩
  ·refine mo ?_ (aH (eh rfl (by exact hfo _) (aH dF)))
   repeat (first | exact cW | refine cu ?_)
def vK (nm : ByteArray) (ps : List ByteArray) : ae := .mk 2 0 nm (jM ps) []
theorem iP (x : RD) (m mot : Int) (bs : List ae) (nm : ByteArray) (hp : x.pd.length ≤ 1099511627776) :
 ey Tryz.prog gl 174 [eT x m bs.length mot, eC bs] [.bZ 0 0, .d (.v (.string nm))] fun out ob' => out = .ret (.d (vK nm x.pd).d) ∧ ob' = [eT x m bs.length mot, eC bs] := by
 refine bS Tryz.func174 Tryz.ntmps174 2 ?_;refine gc 13 ?_;refine oc (cv Ku rfl rfl (E6 x.pd hp) (an .nil) ?_);refine go 5 ?_;refine eo ((vK nm x.pd).d) [0, 1] [eT x m bs.length mot, eC bs] ?_
 ·exact ⟨rfl, rfl⟩
theorem Dc {n : Int} {pl : List Int} {i : Nat} (h : i < pl.length) (f : ae) : bN f (vars n (pl.take (i + 1))) = .mk 3 0 .empty [] [bN f (vars n (pl.take i)), vr (n - 1 - pl[i])] := by
 rw [List.take_add_one, List.getElem?_eq_getElem h]
 simp only [vars, List.map_append, Option.toList_some, List.map_cons, List.map_nil, nL]
theorem fK (x : RD) (m mot : Int) (bs : List ae) (k n : Int) (s : ByteArray) (ls : List aJ) (args : List ae) (pl : List Int) (hp : ∀ p ∈ pl, 0 ≤ p ∧ p < bs.length) (hb : bs.length ≤ 1099511627776) (hl : pl.length ≤ 1099511627776) :
 ey Tryz.prog gl 173 [eT x m bs.length mot, eC bs] [.bZ 0 0, .d (ae.mk k n s ls args).d, .d (.sl 1 (ints pl))] fun out ob' => out = .ret (.d (bN (.mk k n s ls args) (vars bs.length pl)).d) ∧ ob' = [eT x m bs.length mot, eC bs] := by
 have hil := eP pl
 obtain ⟨kR, mR, sR, lR, aR, hR⟩ := ae.case (bN (.mk k n s ls args) (vars bs.length pl))
 rw [hR]
 refine bS Tryz.func173 Tryz.ntmps173 2 ?_;refine kc 13 [7, 6, 4, 0, 2] 0 ?_;refine lp (ι := Nat × Int × Int × ByteArray × List aJ × List ae) (fun ⟨i, k', m', s', l', a'⟩ => [(7, int i)]) (fun ⟨i, k', m', s', l', a'⟩ => [eT x m bs.length mot, eC bs, tO k' m' s' l' a', zO]) [6, 4, 0, 2] (fun ⟨i, k', m', s', l', a'⟩ => i ≤ pl.length ∧ bN (.mk k n s ls args) (vars bs.length (pl.take i)) = .mk k' m' s' l' a') (fun ⟨i, k', m', s', l', a'⟩ => pl.length - i) ((0, k, n, s, ls, args)) ([0, 1, 2, 3]) rfl ?I3 ?M3 ?H3
 case I3 =>
  exact ⟨Nat.zero_le _, rfl⟩
 case M3 =>
  exact mz
 case H3 =>
  rintro ⟨i, k', m', s', l', a'⟩ hinv
  try dsimp only at hinv
  obtain ⟨i1, i2⟩ := hinv; refine kc 0 [7, 6, 4, 0, 2] 9 ?_;refine cJ (fun h2 => ?_) (fun h2 => ?_)
  ·refine kc 6 [6, 4] 0 ?_
   rw [List.take_of_length_le (by omega)] at i2
   rw [i2] at hR
   cases hR; refine gc 6 ?_;refine eo ((ae.mk kR mR sR lR aR).d) [0, 1] [eT x m bs.length mot, eC bs] ?_
   ·exact ⟨rfl, rfl⟩
  refine kc 4 [7, 6, 4, 0, 2] 0 ?_
  have hpi := hp _ (List.getElem_mem (show i < pl.length by omega))
  have hat := kH (gl := gl) x m mot bs (pl[i]'(by omega)) hb (by omega)
  have hap := cR (gl := gl) k' m' s' l' a' 0 (bs.length - 1 - pl[i]'(by omega)) .empty [] []
  refine gz [0, 1, 2, 3] mixed ?_;refine A1 4 rfl (bV iQ jh ⟨_, rfl, ?_⟩ (he := by exact (oD (by omega))));refine ga [5] ?_;refine A2 6 rfl (ck td rfl rfl (hat) [0, 1] rfl (bh (.cons rfl .buf .nil)) (an (an .nil)) ?_);refine A2 7 rfl (cv nK rfl rfl (hap) (bd (an .nil)) ?_);refine A2 8 rfl (eD bM ?_);refine aQ ?_;refine ke 2 [7, 6, 4, 0, 2] 2 ?_;refine o1 (cw ?_);refine go 2 ?_;refine bk (i + 1, 3, 0, .empty, [], [.mk k' m' s' l' a', vr (bs.length - 1 - pl[i]'(by omega))]) rfl ?_ [0, 1, 2, 3] mz
  exact ⟨⟨by omega, by rw [Dc (by omega), i2]⟩, show pl.length - (i + 1) < pl.length - i by omega⟩
theorem nz {sg : Sg} {ps : List ByteArray} (x : RD) (m mot : Int) (bs : List ae) (k n : Int) (s : ByteArray) (ls : List aJ) (args : List ae) (pl : List Int) (hp : ∀ p ∈ pl, 0 ≤ p ∧ p < bs.length) (hb : bs.length ≤ 1000000000) (hl : pl.length ≤ 1000000000) (hw : Wt sg ps (.mk k n s ls args) pl.length) (hz : (ae.mk k n s ls args).size ≤ 1000000000) :
 ey Tryz.prog gl 179 [eT x m bs.length mot, eC bs] [.bZ 0 0, .d (ae.mk k n s ls args).d, .d (.sl 1 (ints pl))] fun out ob' => out = .ret (.d (xO bs.length pl (.mk k n s ls args)).d) ∧ ob' = [eT x m bs.length mot, eC bs] := by
 have hil := eP pl
 obtain ⟨kR, mR, sR, lR, aR, hR⟩ := ae.case (xO bs.length pl (.mk k n s ls args))
 have hR2 := hR
 unfold xO at hR2
 rw [hR]
 refine bS Tryz.func179 Tryz.ntmps179 2 ?_;refine gc 11 ?_;refine o1 (nT ?_);refine ko 4 [7, 6, 4, 0, 2] 0 ?_;refine lp (ι := Nat × Int × Int × ByteArray × List aJ × List ae) (fun ⟨j, k', m', s', l', a'⟩ => [(7, int ((j : Int) - 1))]) (fun ⟨j, k', m', s', l', a'⟩ => [eT x m bs.length mot, eC bs, tO k' m' s' l' a', zO]) [6, 4, 0, 2] (fun ⟨j, k', m', s', l', a'⟩ => j ≤ pl.length ∧ gS (vars bs.length pl) j (.mk k' m' s' l' a') = .mk kR mR sR lR aR ∧ Wt sg ps (.mk k' m' s' l' a') (bs.length + j) ∧ (ae.mk k' m' s' l' a').size ≤ (ae.mk k n s ls args).size) (fun ⟨j, k', m', s', l', a'⟩ => j) ((pl.length, k, n, s, ls, args)) ([0, 1, 2, 3]) rfl ?I4 ?M4 ?H4
 case I4 =>
  exact ⟨Nat.le_refl _, hR2, hw.up (by omega), Nat.le_refl _⟩
 case M4 =>
  refine mo ?_ (eh rfl (by exact Fit.of_eq (by rw [hil]; rfl)) (aH (aH (aH (aH dF)))))
  repeat (first | exact cW | refine bh ?_ | refine Eg ?_)
 case H4 =>
  rintro ⟨j, k', m', s', l', a'⟩ hinv
  try dsimp only at hinv
  obtain ⟨i1, i2, i3, i4⟩ := hinv; refine kc 0 [7, 6, 4, 0, 2] 7 ?_;refine cJ (fun h2 => ?_) (fun h2 => ?_)
  ·refine kc 6 [6, 4] 0 ?_; obtain rfl : j = 0 := (by omega)
   rw [gS] at i2
   cases i2; refine gc 6 ?_;refine eo ((ae.mk kR mR sR lR aR).d) [0, 1] [eT x m bs.length mot, eC bs] ?_
   ·exact ⟨rfl, rfl⟩
  refine gc 4 ?_; obtain ⟨jj, rfl⟩ : ∃ jj, j = jj + 1 := ⟨j - 1, by omega⟩
  have hpi := hp _ (List.getElem_mem (show jj < pl.length by omega))
  have hat := kH (gl := gl) x m mot bs (pl[jj]'(by omega)) (by omega) (by omega)
  have hli := gi (gl := gl) (n0 := ((jj + 1 : Nat) : Int) - 1) (B := 4398046511104) (by omega) (by omega) 1 0 (bs.length - 1 - pl[jj]'(by omega)) .empty [] [] 0 (Nat.le_refl _) ⟨fun l hl => (by cases hl), trivial, .inl ⟨rfl, ⟨by omega, by omega⟩, rfl, rfl, rfl⟩⟩ (Int.le_refl _) (by simp only [ae.size, aS, ai]; omega)
  have hlv := xS ((bs.length : Int) - 1 - pl[jj]'(by omega)) (((jj + 1 : Nat) : Int) - 1) (by omega)
  rw [fk] at hlv
  unfold vr at hlv
  rw [hlv] at hli
  obtain ⟨k3, m3, s3, l3, a3, hX⟩ := ae.case (dK (.mk k' m' s' l' a') (vr ((bs.length : Int) - 1 - pl[jj]'(by omega) + (((jj + 1 : Nat) : Int) - 1))))
  have hsu := oz (gl := gl) (B := 4398046511104) (by omega) 0 ((bs.length : Int) - 1 - pl[jj]'(by omega) + (((jj + 1 : Nat) : Int) - 1)) .empty [] [] ⟨fun l hl => (by cases hl), trivial, .inl ⟨rfl, ⟨by omega, by omega⟩, rfl, rfl, rfl⟩⟩ (by simp only [ae.size, aS, ai]; omega) k' m' s' l' a' (i3.sh (by omega)) (by omega)
  unfold vr at hX
  rw [hX] at hsu
  refine gz [0, 1, 2, 3] mixed ?_;refine A1 4 rfl (bV iQ jh ⟨_, rfl, ?_⟩ (he := by rw [show (((jj + 1 : Nat) : Int) - 1).toNat = ((jj : Nat) : Int).toNat by omega]; exact oD (by omega)));refine ga [5, 7] ?_;refine A2 6 rfl (ck td rfl rfl (hat) [0, 1] rfl (bh (.cons rfl .buf .nil)) (an (an .nil)) ?_);refine A2 8 rfl (cv Am rfl rfl (hli) (an (an (an .nil))) ?_);refine A2 9 rfl (cv Jt rfl rfl (hsu) (bd (an .nil)) ?_);refine A2 10 rfl (eD bM ?_);refine aQ ?_;refine ke 2 [7, 6, 4, 0, 2] 2 ?_;refine o1 (nT ?_);refine go 2 ?_;refine bk ((jj, k3, m3, s3, l3, a3)) rfl ?_ ([0, 1, 2, 3]) ?_
  ·refine ⟨⟨by omega, ?_, ?_, ?_⟩, Nat.lt_succ_self jj⟩
   ·rw [← hX, ← i2, gS, yw (by omega), xS _ _ (by omega), show (((jj + 1 : Nat) : Int) - 1) = (jj : Int) by omega]; rfl
   ·rw [← hX]
    exact Wt.sub (by omega) (by rw [show (bs.length : Int) + jj + 1 = bs.length + ((jj + 1 : Nat) : Int) by omega]; exact i3) (Wt.var (by omega) (by omega))
   ·rw [← hX]
    refine Nat.le_trans ?_ i4; exact nj (v := vr _) (by simp [vr, ae.size, aS, ai]) _ 0
  ·refine mo ?_ (eh rfl (by exact Fit.of_eq (by rw [show (((jj + 1 : Nat) : Int) - 1 - 1) = ((jj : Nat) : Int) - 1 by omega]; rfl)) (aH (aH (aH (aH dF)))))
   repeat (first | exact cW | refine bh ?_ | refine Eg ?_)
end Go.Proofs.YtndbnldjidciiaaGreatDoor
namespace Go.Proofs.YtndbnldjidciiaaGreatDoor
open Go Go.Vd Go.RowKit
attribute [local irreducible] bl br de aj bI cY
variable {g gl : Nat → List D}
def jq (pl : List Int) (n : Nat) : Prop := ∀ p ∈ pl, 0 ≤ p ∧ p < n
variable {pl : List Int} {n : Nat}
theorem jq.up {m : Nat} (h : jq pl n) (hm : n ≤ m) : jq pl m := fun p hp => ⟨(h p hp).1, by have := (h p hp).2; omega⟩
theorem jq.snoc {p : Int} (h : jq pl n) (hp : 0 ≤ p ∧ p < n) : jq (pl ++ [p]) n := by
 intro q hq
 rcases List.mem_append.1 hq with hq | hq
 ·exact h q hq
 ·simp only [List.mem_singleton] at hq; subst hq; exact hp
theorem jq.take {pl : List Int} {n : Nat} (h : jq pl n) (i : Nat) : jq (pl.take i) n := fun p hp => h p (List.mem_of_mem_take hp)
theorem jq.drop {pl : List Int} {n : Nat} (h : jq pl n) (i : Nat) : jq (pl.drop i) n := fun p hp => h p (List.mem_of_mem_drop hp)
def JG (sg : Sg) (ps : List ByteArray) (x : RD) (m mot : Int) (bs : List ae) (t : ae) (pl : List Int) (n : Nat) (out : Out) (ob' : List Ob) : Prop :=
 ∃ (u : ae) (ql : List Int) (ys : List ae), out = .ret (.d (.cb [u.d, .sl 1 (ints ql)])) ∧ ob' = [eT x m ys.length mot, eC ys] ∧ jq ql ys.length ∧ yp sg ps ys ∧ Wt sg ps u ql.length ∧ (∃ pl', ql = pl ++ pl' ∧ pl'.length = n) ∧ ∃ xs, ys = bs ++ xs ∧ xs.length = n ∧ ai xs + n + u.size ≤ t.size ∧ bu u + n = bu t
variable {sg : Sg} {ps : List ByteArray}
theorem jU (x : RD) (m mot : Int) (bs : List ae) (k n : Int) (s : ByteArray) (ls : List aJ) (args : List ae) (pl : List Int) (N : Nat) (hp : jq pl bs.length) (hT : yp sg ps bs) (hb : bs.length + N ≤ 1000000000) (hl : pl.length + N ≤ 1000000000) (hw : Wt sg ps (.mk k n s ls args) pl.length) (hz : (ae.mk k n s ls args).size ≤ 1000000000) (hN : N ≤ bu (.mk k n s ls args)) :
 ey Tryz.prog gl 172 [eT x m bs.length mot, eC bs] [.bZ 0 0, .d (ae.mk k n s ls args).d, .d (.sl 1 (ints pl)), .d (.v (.int .i64 N))] (JG sg ps x m mot bs (.mk k n s ls args) pl N) := by
 refine bS Tryz.func172 Tryz.ntmps172 2 ?_;refine kc 14 [10, 8, 5, 0, 2, 3] 0 ?_;refine lp (ι := Nat × (Int × Int × ByteArray × List aJ × List ae) × List Int × List ae) (fun ⟨i, ⟨k', m', s', l', a'⟩, ql, ys⟩ => [(10, int i), (2, .d (.sl 1 (ints ql)))]) (fun ⟨i, ⟨k', m', s', l', a'⟩, ql, ys⟩ => [eT x m ys.length mot, eC ys, tO k' m' s' l' a', zO]) [8, 5, 0, 3] (fun ⟨i, ⟨k', m', s', l', a'⟩, ql, ys⟩ => i ≤ N ∧ jq ql ys.length ∧ yp sg ps ys ∧ Wt sg ps (.mk k' m' s' l' a') ql.length ∧ (∃ pl', ql = pl ++ pl' ∧ pl'.length = i) ∧ (∃ xs, ys = bs ++ xs ∧ xs.length = i ∧ ai xs + i + (ae.mk k' m' s' l' a').size ≤ (ae.mk k n s ls args).size) ∧ bu (.mk k' m' s' l' a') + i = bu (.mk k n s ls args)) (fun ⟨i, ⟨k', m', s', l', a'⟩, ql, ys⟩ => N - i) ((0, ⟨k, n, s, ls, args⟩, pl, bs)) ([0, 1, 2, 3]) rfl ?I1 ?M1 ?H1
 case I1 =>
  exact ⟨Nat.zero_le _, hp, hT, hw, ⟨[], by simp⟩, ⟨[], by simp [ai]⟩, rfl⟩
 case M1 =>
  exact mz
 case H1 =>
  rintro ⟨i, ⟨k', m', s', l', a'⟩, ql, ys⟩ hinv
  try dsimp only at hinv
  obtain ⟨i1, i2, i3, i4, ⟨pl', i5, i6⟩, ⟨xs, i7, i8, i9⟩, i10⟩ := hinv; refine kc 0 [10, 2, 8, 5, 0, 3] 8 ?_;refine cJ (fun h2 => ?_) (fun h2 => ?_)
  ·refine kc 5 [2, 8, 5] 9 ?_;refine eo (.cb [(ae.mk k' m' s' l' a').d, .sl 1 (ints ql)]) [0, 1] [eT x m ys.length mot, eC ys] ?_
   ·obtain rfl : i = N := (by omega)
    exact ⟨_, ql, ys, rfl, rfl, i2, i3, i4, ⟨pl', i5, i6⟩, xs, i7, i8, i9, i10⟩
  refine gc 5 ?_
  have hyl : ys.length = bs.length + i := (by rw [i7, List.length_append, i8])
  have hql : ql.length = pl.length + i := (by rw [i5, List.length_append, i6])
  obtain ⟨rfl, ⟨k1, m1, s1, l1, a1⟩, ⟨k2, m2, s2, l2, a2⟩, rfl, hpis⟩ := jJ (show 0 < bu (.mk k' m' s' l' a') by omega); obtain ⟨_, _, hab, _, _, _, hWA, hWB⟩ := i4.two (.inr (.inr rfl)); cases hab
  rw [if_neg (by decide)] at hWB
  have hzA : (ae.mk k1 m1 s1 l1 a1).size ≤ 1000000000 := (by simp only [ae.size, aS, ai] at i9 hz ⊢; omega)
  have hM := tB (n := (ys.length : Int)) (by omega) i2 hWA
  have hmv := nz (gl := gl) x m mot ys k1 m1 s1 l1 a1 ql i2 (by omega) (by omega) hWA hzA
  obtain ⟨kM, mM, sM, lM, aM, hMe⟩ := ae.case (xO ys.length ql (.mk k1 m1 s1 l1 a1))
  rw [hMe] at hM hmv
  refine gc 4 ?_;refine o1 (bV bE bK ?_ (he := by exact (rfl)));refine go 2 ?_;refine oc (ck C1 rfl rfl (hmv) [0, 1] rfl (bh (.cons rfl .buf .nil)) (an (bd (an .nil))) ?_);refine ko 4 [11, 10, 2, 8, 5, 0, 3] 7 ?_;refine o1 (gj bE rfl rfl ?_);refine oc (cv Kv rfl rfl (yi ql ys.length (by omega)) (an (an .nil)) ?_);refine ko 3 [2, 11, 10, 8, 5, 0, 3] 4 ?_;refine oc (ck qO rfl rfl (gG x m mot ys kM mM sM lM aM (by omega)) [0, 1] rfl (bh (.cons rfl .buf .nil)) (an (bd .nil)) ?_);refine ko 2 [2, 10, 8, 5, 0, 3] 3 ?_;refine o1 (bV bE bK ?_ (he := by exact (rfl)));refine ko 5 [2, 10, 8, 5, 0, 3] 2 ?_;refine o1 (cw ?_);refine go 2 ?_;refine bk (i + 1, ⟨k2, m2, s2, l2, a2⟩, ql ++ [(ys.length : Int)], ys ++ [.mk kM mM sM lM aM]) rfl ?_ [0, 1, 2, 3] mz
  ·refine ⟨⟨by omega, ?_, ?_, ?_, ⟨pl' ++ [(ys.length : Int)], ?_, ?_⟩, ⟨xs ++ [.mk kM mM sM lM aM], ?_, ?_, ?_⟩, by omega⟩, show N - (i + 1) < N - i by omega⟩
   ·exact (i2.up (by simp)).snoc ⟨by omega, by simp; omega⟩
   ·exact i3.app hM.1
   ·rw [List.length_append]; exact hWB.up (by simp)
   ·rw [i5, List.append_assoc]
   ·rw [List.length_append, i6]; rfl
   ·rw [i7, List.append_assoc]
   ·rw [List.length_append, i8]; rfl
   ·rw [c7]
    have h9 := hM.2
    simp only [ae.size, aS, ai] at i9 h9 ⊢; omega
theorem uV (l : List Int) (i : Nat) : (ints l).drop ((i : Nat) : Int).toNat = ints (l.drop i) := by simp [ints, List.map_drop]
theorem nD (l : List Int) (i : Nat) : (ints l).take ((i : Nat) : Int).toNat = ints (l.take i) := by simp [ints, List.map_take]
theorem jV (a b : ae) : (ae.mk 3 0 .empty [] [a, b]).size = 1 + a.size + b.size := by simp only [ae.size, aS, ai]; omega
theorem rb (t : ae) : 1 ≤ t.size := by obtain ⟨k, m, s, ls, args⟩ := t; simp only [ae.size]; omega
theorem Ci (n : Int) : (vr n).size = 1 := rfl
def Gn (sg : Sg) (ps : List ByteArray) (x : RD) (m mot : Int) (bs : List ae) (B : Nat) (out : Out) (ob' : List Ob) : Prop :=
 ∃ (h : ae), out = .ret (.d h.d) ∧ ob' = [eT x m bs.length mot, eC bs] ∧ Wt sg ps h bs.length ∧ h.size ≤ B
set_option maxHeartbeats 800000 in
theorem me (x : RD) (m : Int) (mot p : Nat) (hx : x.ad = p) (bs : List ae) (k n : Int) (s : ByteArray) (ls : List aJ) (args : List ae) (pl : List Int) (p0 : Int) (hp : jq pl bs.length) (hp0 : 0 ≤ p0 ∧ p0 < bs.length) (hmot : mot < bs.length) (hT : yp sg ps bs) (hb : bs.length + 10000000 ≤ 1000000000) (hl : pl.length + 10000000 ≤ 1000000000) (hw : Wt sg ps (.mk k n s ls args) pl.length) (hz : (ae.mk k n s ls args).size ≤ 10000000) :
 ey Tryz.prog gl 182 [eT x m bs.length mot, eC bs] [.bZ 0 0, .d (ae.mk k n s ls args).d, .d (.sl 1 (ints pl)), .d (.v (.int .i64 p0))] (Gn sg ps x m mot bs (3 * (ae.mk k n s ls args).size + 3)) := by
 have hpl := dX _ (.mk k n s ls args) (Nat.le_refl _)
 have hpi := gJ (gl := gl) (B := 4398046511104) k n s ls args (hw.sh (by omega)) (by omega)
 have hbo := jU (gl := gl) x m mot bs k n s ls args pl (bu (.mk k n s ls args)) hp hT (by omega) (by omega) hw (by omega) (Nat.le_refl _)
 have hil := eP pl
 refine bS Tryz.func182 Tryz.ntmps182 2 ?_;refine gc 12 ?_;refine o1 (gj bE rfl rfl ?_);refine ko 3 [9, 8, 5, 0, 2, 3] 3 ?_;refine oc (cv pC rfl rfl (hpi) (bd .nil) ?_);refine go 9 ?_;refine oc (ay xk rfl rfl rfl rfl (hbo) [0, 1] (bh (.cons rfl .buf .nil)) rfl rfl rfl rfl (an (bd (an (an .nil)))) (fun s ob' hq => ?_) (fun s ob' hq => ?_))
 rotate_left
 ·obtain ⟨_, _, _, hq1, _⟩ := hq; cases hq1
 obtain ⟨⟨ku, mu, su, lu, au⟩, ql, ys, hq1, rfl, g1, g2, g3, ⟨pl', g4, g5⟩, xs, g6, g7, g8, _⟩ := hq; cases hq1
 have hyl : ys.length = bs.length + bu (.mk k n s ls args) := by rw [g6, List.length_append, g7]
 have hql : ql.length = pl.length + bu (.mk k n s ls args) := by rw [g4, List.length_append, g5]
 have hqi := eP ql
 obtain ⟨w1, w2, w3, w4⟩ := Wt.spine _ (Nat.le_refl _) g3
 have hsp := et (gl := gl) ku mu su lu au w1 (by omega)
 have hss := eV _ (ae.mk ku mu su lu au) (Nat.le_refl _)
 obtain ⟨kh, mh, sh', lh, ah, hH⟩ := ae.case (bt (.mk ku mu su lu au)).1
 rw [hH] at hsp
 generalize hAs : (bt (.mk ku mu su lu au)).2 = as' at hsp hss w3
 have hal := bf as'
 have hal2 := bA as'
 refine ⟨_, _, _, _, _, rfl, rfl, rfl, rfl, rfl, ?_⟩;refine ko 8 [12, 11, 9, 8, 0, 2, 3] 3 ?_;refine oc (cv vX rfl rfl (hsp) (bd .nil) ?_);refine ko 8 [14, 12, 9, 8, 0, 2, 3] 7 ?_;refine oc (ck td rfl rfl (kH x m mot ys mot (by omega) (by omega)) [0, 1] rfl (bh (.cons rfl .buf .nil)) (an (an .nil)) ?_);refine ko 16 [16, 15, 14, 12, 9, 8, 0, 2, 3] 0 ?_;refine lp (ι := Nat × (Int × Int × ByteArray × List aJ × List ae)) (fun ⟨i, ⟨k', m', s', l', a'⟩⟩ => [(16, int i)]) (fun ⟨i, ⟨k', m', s', l', a'⟩⟩ => [eT x m ys.length mot, eC ys, tO k n s ls args, zO, tO ku mu su lu au, tO kh mh sh' lh ah, tO k' m' s' l' a']) [15, 14, 12, 9, 8, 0, 2, 3] (fun ⟨i, ⟨k', m', s', l', a'⟩⟩ => Wt sg ps (.mk k' m' s' l' a') ys.length ∧ (ae.mk k' m' s' l' a').size ≤ 1 + 2 * ai (as'.take i)) (fun ⟨i, ⟨k', m', s', l', a'⟩⟩ => as'.length - i) ((p, ⟨0, ys.length - 1 - mot, .empty, [], []⟩)) ([0, 1, 2, 3, 4, 5, 6]) rfl ?I2 ?M2 ?H2
 case I2 =>
  exact ⟨Wt.var (by omega) (by omega), by show 1 ≤ _; omega⟩
 case M2 =>
  refine mo ?_ (eh rfl (by exact Fit.of_eq (by rw [hx]; rfl)) (aH (aH (aH (aH (aH (aH (aH (aH dF)))))))))
  repeat (first | exact cW | refine bh ?_ | refine Eg ?_)
 case H2 =>
  rintro ⟨i, ⟨k', m', s', l', a'⟩⟩ hinv
  try dsimp only at hinv
  obtain ⟨i1, i2⟩ := hinv; refine kc 0 [16, 15, 14, 12, 9, 8, 0, 2, 3] 9 ?_;refine cj (fun h7 => ?_) (fun h7 => ?_)
  ·refine kc 4 [16, 15, 14, 12, 9, 8, 0, 2, 3] 0 ?_; obtain ⟨k2, m2, s2, l2, a2, hget⟩ := bQ (show i < as'.length by omega)
   have hWA := w3 _ (List.mem_of_getElem? hget)
   have hgz := bC hget
   have hM := tB (n := (ys.length : Int)) (by omega) g1 hWA
   have hmv := nz (gl := gl) x m mot ys k2 m2 s2 l2 a2 ql g1 (by omega) (by omega) hWA (by omega)
   obtain ⟨kM, mM, sM, lM, aM, hMe⟩ := ae.case (xO ys.length ql (.mk k2 m2 s2 l2 a2))
   rw [hMe] at hM hmv
   have hap := cR (gl := gl) k' m' s' l' a' kM mM sM lM aM
   refine gz [0, 1, 2, 3] mixed ?_;refine A1 4 rfl (bV bE bK ⟨_, rfl, ?_⟩ (he := by exact (bY hget)));refine ga [5, 6] ?_;refine A2 7 rfl (ck C1 rfl rfl (hmv) [0, 1] rfl (bh (.cons rfl .buf .nil)) (an (bd (an .nil))) ?_);refine A2 8 rfl (cv nK rfl rfl (hap) (bd (an .nil)) ?_);refine A2 9 rfl (eD bM ?_);refine aQ ?_;refine ke 2 [16, 15, 14, 12, 9, 8, 0, 2, 3] 2 ?_;refine o1 (cw ?_);refine go 2 ?_;refine bk (i + 1, ⟨3, 0, .empty, [], [.mk k' m' s' l' a', .mk kM mM sM lM aM]⟩) rfl ?_ [0, 1, 2, 3, 4, 5, 6] mz
   ·refine ⟨⟨Wt.app i1 hM.1, ?_⟩, show as'.length - (i + 1) < as'.length - i by omega⟩
    have h9 := hM.2
    rw [jV, gE hget]; have := rb (.mk k2 m2 s2 l2 a2); omega
  refine kc 6 [15, 12, 9, 8, 0, 2, 3] 0 ?_
  have hdl : (ql.drop pl.length).length = bu (.mk k n s ls args) := (by rw [List.length_drop]; omega)
  have hpd := g1.drop pl.length
  have happ := fK (gl := gl) x m mot ys 0 (ys.length - 1 - p0) .empty [] [] (ql.drop pl.length) hpd (by omega) (by omega)
  have hvw : Wt sg ps (vr ((ys.length : Int) - 1 - p0)) ys.length := Wt.var (by omega) (by omega)
  have haw := Wt.apply hvw (oS (sg := sg) (ps := ps) hpd)
  have haz := cI (vr ((ys.length : Int) - 1 - p0)) (vars ys.length (ql.drop pl.length))
  rw [jC, ly, Ci, hdl] at haz
  unfold vr at haw haz
  obtain ⟨kA, mA, sA, lA, aA, hA⟩ := ae.case (bN (.mk 0 (ys.length - 1 - p0) .empty [] []) (vars ys.length (ql.drop pl.length)))
  rw [hA] at happ haw haz
  have hap2 := cR (gl := gl) k' m' s' l' a' kA mA sA lA aA
  have hcl := iW (gl := gl) x m mot ys 3 0 .empty [] [.mk k' m' s' l' a', .mk kA mA sA lA aA] bs.length (by omega) (by omega) (by omega)
  have hcw := g2.vH (n := bs.length) (by omega) (Wt.app i1 haw)
  have hcz := lN (ys.drop bs.length) (.mk 3 0 .empty [] [.mk k' m' s' l' a', .mk kA mA sA lA aA])
  have hst := ja as' i
  have htk : ys.take bs.length = bs := (by rw [g6, List.take_left])
  have hdr : ys.drop bs.length = xs := (by rw [g6, List.drop_left])
  rw [hdr] at hcl hcw hcz
  rw [htk] at hcl
  rw [jV] at hcz
  obtain ⟨kB, mB, sB, lB, aB, hB⟩ := ae.case (pf xs (.mk 3 0 .empty [] [.mk k' m' s' l' a', .mk kA mA sA lA aA]))
  rw [hB] at hcl hcw hcz
  refine gz [0, 1, 2, 3, 5, 6, 7] mixed ?_;refine A1 8 rfl (u0 iQ jh rfl rfl rfl rfl rfl rfl (by omega) ((show (ints ql).drop ((ints pl).length : Int).toNat = ints (ql.drop pl.length) by rw [hil]; exact uV ql pl.length)) ⟨_, rfl, ?_⟩);refine A2 4 rfl (ck td rfl rfl (kH x m mot ys p0 (by omega) (by omega)) [0, 1] rfl (bh (.cons rfl .buf .nil)) (an (an .nil)) ?_);refine A2 9 rfl (ck te rfl rfl (happ) [0, 1] rfl (bh (.cons rfl .buf .nil)) (an (an (an .nil))) ?_);refine A2 10 rfl (cv nK rfl rfl (hap2) (bd (an .nil)) ?_);refine A2 11 rfl (eD bM ?_);refine aQ ?_;refine ke 1 [15, 9, 8, 0] 5 ?_;refine oc (ck vi rfl rfl (hcl) [0, 1] rfl (bh (.cons rfl .buf .nil)) (an (bd (an .nil))) ?_);refine go 4 ?_;refine eo ((ae.mk kB mB sB lB aB).d) [0, 1] [eT x m bs.length mot, eC bs] ?_
  ·exact ⟨_, rfl, rfl, hcw, by omega⟩
end Go.Proofs.YtndbnldjidciiaaGreatDoor
namespace Go.Proofs.YtndbnldjidciiaaGreatDoor
open Go Go.Vd Go.RowKit
attribute [local irreducible] bl br de aj bI cY
variable {g gl : Nat → List D}
def ES (i : Nat) : List Int := (List.range i).map fun (j : Nat) => (j : Int)
theorem Cs (i : Nat) : (ES i).length = i := by simp [ES]
theorem ER (i : Nat) : ES i ++ [(i : Int)] = ES (i + 1) := by simp [ES, List.range_succ]
variable {n : Nat}
theorem IA {i : Nat} (h : i ≤ n) : jq (ES i) n := by
 intro p hp
 obtain ⟨j, hj, rfl⟩ := List.mem_map.1 hp
 have := List.mem_range.1 hj
 exact ⟨by omega, by omega⟩
theorem FQ {B : Int} : ∀ (n : Nat) {t : ae}, n ≤ bu t → iU B t → iU B (eU n t) := by
 intro n
 induction n with
 | zero => intro t _ h; exact h
 | succ n ih =>
  intro t hn h
  obtain ⟨k, m, s, ls, args, rfl⟩ := ae.case t
  obtain ⟨rfl, a, b, rfl, h2⟩ := jJ (Nat.lt_of_lt_of_le (Nat.succ_pos n) hn)
  exact ih (by omega) h.2.1.2.1
theorem GV {t : ae} (hn : n ≤ bu t) : bu (eU n t) = bu t - n := by
 induction n generalizing t with
 | zero => rfl
 | succ n ih =>
  obtain ⟨k, m, s, ls, args, rfl⟩ := ae.case t
  obtain ⟨rfl, a, b, rfl, h2⟩ := jJ (Nat.lt_of_lt_of_le (Nat.succ_pos n) hn)
  show bu (eU n b) = _
  rw [ih (by omega)]; omega
theorem FP (n : Nat) (t : ae) : (eU n t).size ≤ t.size := by have := dE n t; omega
def Gv (nm : ByteArray) (k m : Int) (s : ByteArray) (ls : List aJ) (args : List ae) : Ob := .cells [.d (.v (.string nm)), .d (.v (.int .i64 k)), .d (.v (.int .i64 m)), .d (.v (.string s)), .d (.sl 3 (bF ls)), .d (.sl 5 (ba args))] 65
variable {sg : Sg} {ps : List ByteArray}
theorem xK {pd : List ByteArray} {nm : ByteArray} {c : Int} (hs : sg nm = some pd.length) (hp : ∀ p ∈ pd, p ∈ ps ∧ p ≠ .empty) : Wt sg ps (vK nm pd) c := by
 refine ⟨fun l hl => ?_, trivial, .inr (.inr (.inl ⟨rfl, rfl, by simp [jM, hs], rfl⟩))⟩
 obtain ⟨p, h1, rfl⟩ := List.mem_map.1 hl
 exact ⟨.param p, rfl, ⟨by decide, by decide, fun _ => (hp p h1).2, trivial⟩, fun q hq => by have h9 : q = p := hq; rw [h9]; exact (hp p h1).1⟩
theorem ri (nm : ByteArray) (pd : List ByteArray) : (vK nm pd).size = 1 + pd.length := by
 have h : ∀ l : List ByteArray, aS (jM l) = l.length := fun l => by
  induction l with
  | nil => rfl
  | cons a r ih => show aS (.mk 4 a [] :: jM r) = _; simp only [aS, ih, aJ.size, List.length_cons]; omega
 show 1 + aS (jM pd) + ai [] = _
 rw [h]; simp only [ai]; omega
set_option maxHeartbeats 1600000 in
theorem Bf (x : RD) (m : Int) (mot p : Nat) (hx : x.ad = p) (bs : List ae) (nm : ByteArray) (k n : Int) (s : ByteArray) (ls : List aJ) (args : List ae) (hpb : p ≤ bs.length) (hmot : mot < bs.length) (hT : yp sg ps bs) (hb : bs.length + 20000000 ≤ 1000000000) (hw : Wt sg ps (.mk k n s ls args) 0) (hz : (ae.mk k n s ls args).size ≤ 1000000) (hpp : p ≤ bu (.mk k n s ls args)) (hsg : sg nm = some x.pd.length) (hpd : ∀ q ∈ x.pd, q ∈ ps ∧ q ≠ .empty) (hpl : x.pd.length ≤ 6) :
 ey Tryz.prog gl 177 [eT x m bs.length mot, eC bs] [.bZ 0 0, .d (.agg (.v (.string nm) :: (ae.mk k n s ls args).cells))] (Gn sg ps x m mot bs (12 * (ae.mk k n s ls args).size + 12)) := by
 have hpz := dX _ (.mk k n s ls args) (Nat.le_refl _)
 have hsh := hw.sh (B := 4398046511104) (by omega)
 have hen := qK (gl := gl) p k n s ls args hsh hpp (by omega)
 have hWe := (hw.vH p hpp).1
 have hpe := GV hpp
 have hze := FP p (.mk k n s ls args)
 have hshe := FQ p hpp hsh
 obtain ⟨k0, n0, s0, l0, a0, hE⟩ := ae.case (eU p (.mk k n s ls args))
 rw [hE] at hen hWe hpe hze hshe
 have hpi := gJ (gl := gl) k0 n0 s0 l0 a0 hshe (by omega)
 have hrl := Cs p
 have hbo := jU (gl := gl) (sg := sg) (ps := ps) x m mot bs k0 n0 s0 l0 a0 (ES p) (bu (.mk k0 n0 s0 l0 a0)) (IA hpb) hT (by omega) (by omega) (by rw [hrl]; exact hWe.up (by omega)) (by omega) (Nat.le_refl _)
 generalize hN : bu (.mk k0 n0 s0 l0 a0) = N at hpi hbo hpe
 refine bS Tryz.func177 Tryz.ntmps177 2 ?_;refine gc 12 ?_;refine o1 (gj bE rfl rfl ?_);refine ko 3 [5, 4, 3, 0] 12 ?_;refine bq 3 1 rfl ?_;refine lp (ι := Nat) (fun i => [(7, int i), (6, .own 4 1 (ints (ES i)))]) (fun i => [eT x m bs.length mot, eC bs, Gv nm k n s ls args, zO, .row 3 1]) [5, 4, 3, 0] (fun i => i ≤ p) (fun i => p - i) (0) ([0, 1, 2, 3, 4]) rfl ?I1 ?M1 ?H1
 case I1 =>
  exact Nat.zero_le _
 case M1 =>
  refine mo ?_ (aH (eh rfl (by (show Fit _ _ (SV.own 4 1 []); exact Fit.nil rfl)) (aH (aH (aH (aH dF))))))
  repeat (first | exact cW | refine bh ?_ | refine Eg ?_ | refine p6 ?_)
 case H1 =>
  rintro i hinv
  try dsimp only at hinv
  refine kc 0 [7, 6, 5, 4, 3, 0] 12 ?_;refine cj (fun h4 => ?_) (fun h4 => ?_)
  ·refine kc 4 [7, 6, 5, 4, 3, 0] 0 ?_
   have hnx : ints (ES i) ++ [[D.v (.int .i64 i)]] = ints (ES (i + 1)) := (by rw [qC, ER])
   have hil := eP (ES i)
   have hri := Cs i
   refine gc 3 ?_;refine oc (gR nY [.tmp 34] AE ?_);refine oc (nU nY ?_);refine ko 4 [6, 7, 5, 4, 3, 0] 2 ?_;refine o1 (cw ?_);refine go 2 ?_
   rw [hnx]
   refine bk (i + 1) rfl ?_ [0, 1, 2, 3, 4] mz
   exact ⟨by omega, by omega⟩
  refine kc 6 [6, 5, 4, 3, 0] 0 ?_
  obtain rfl : i = p := (by omega)
  rw [← hx] at hen
  refine gz [0, 1, 2, 3, 4, 5, 6] mixed ?_;refine dj (rs := [7, 8]) (by kernel_rfl) rfl ⟨?_, ?_, trivial⟩
  ·skip
   refine A4 7 rfl (cv An rfl rfl (hen) (bd (an .nil)) ?_);refine A2 8 rfl (tE bM ?_);refine A2 9 rfl (eD bM ?_);refine aQ ?_;refine ke 1 [8, 6, 5, 4, 3, 0] 3 ?_;refine oc (cv pC rfl rfl (hpi) (bd .nil) ?_);refine go 9 ?_;refine oc (ay xk rfl rfl rfl rfl (hbo) [0, 1] (bh (.cons rfl .buf .nil)) rfl rfl rfl rfl (an (bd (bd (an .nil)))) (fun s ob' hq => ?_) (fun s ob' hq => ?_))
   rotate_left
   ·obtain ⟨_, _, _, hq1, _⟩ := hq; cases hq1
   obtain ⟨⟨ku, mu, su, lu, au⟩, ql, ys, hq1, rfl, g1, g2, g3, ⟨pl', g4, g5⟩, xs, g6, g7, g8, _⟩ := hq; cases hq1
   have hyl : ys.length = bs.length + N := by rw [g6, List.length_append, g7]
   have hql : ql.length = i + N := by rw [g4, List.length_append, g5, hrl]
   have hqi := eP ql
   obtain ⟨w1, w2, w3, w4⟩ := Wt.spine _ (Nat.le_refl _) g3
   have hsp := et (gl := gl) ku mu su lu au w1 (by omega)
   have hss := eV _ (ae.mk ku mu su lu au) (Nat.le_refl _)
   obtain ⟨kh, mh, sh', lh, ah, hH⟩ := ae.case (bt (.mk ku mu su lu au)).1
   rw [hH] at hsp
   generalize hAs : (bt (.mk ku mu su lu au)).2 = as' at hsp hss w3
   have hal := bf as'
   have hal2 := bA as'
   refine ⟨_, _, _, _, _, rfl, rfl, rfl, rfl, rfl, ?_⟩;refine ko 9 [11, 10, 9, 8, 5, 4, 3, 0] 6 ?_;refine lp (ι := Nat × (Int × Int × ByteArray × List aJ × List ae) × List ae) (fun ⟨j, ⟨k', m', s', l', a'⟩, zs⟩ => [(12, int j)]) (fun ⟨j, ⟨k', m', s', l', a'⟩, zs⟩ => [eT x m zs.length mot, eC zs, Gv nm k n s ls args, zO, .row 3 1, tO k' m' s' l' a', tO ku mu su lu au]) [11, 10, 9, 8, 5, 4, 3, 0] (fun ⟨j, ⟨k', m', s', l', a'⟩, zs⟩ => j ≤ N ∧ yp sg ps zs ∧ Wt sg ps (.mk k' m' s' l' a') (i + j) ∧ N - j ≤ bu (.mk k' m' s' l' a') ∧ (∃ hs, zs = ys ++ hs ∧ hs.length ≤ j ∧ ai hs + hs.length + 4 * (ae.mk k' m' s' l' a').size ≤ 4 * (ae.mk k0 n0 s0 l0 a0).size)) (fun ⟨j, ⟨k', m', s', l', a'⟩, zs⟩ => N - j) ((0, ⟨k0, n0, s0, l0, a0⟩, ys)) ([0, 1, 2, 3, 4, 5, 6]) rfl ?I2 ?M2 ?H2
   case I2 =>
    exact ⟨Nat.zero_le _, g2, by simpa using hWe, by rw [hN]; exact Nat.sub_le _ _, ⟨[], by simp, by simp, by simp [ai]⟩⟩
   case M2 =>
    exact mz
   case H2 =>
    rintro ⟨j, ⟨k', m', s', l', a'⟩, zs⟩ hinv
    try dsimp only at hinv
    obtain ⟨i1, i2, i3, i4, ⟨hs, i5, i6, i7⟩⟩ := hinv; refine kc 0 [12, 11, 10, 9, 8, 5, 4, 3, 0] 8 ?_;refine cJ (fun h11 => ?_) (fun h11 => ?_)
    ·refine kc 6 [11, 10, 5, 4, 3, 0] 0 ?_
     have hzl : zs.length = ys.length + hs.length := (by rw [i5, List.length_append])
     refine gc 2 ?_;refine oc (cv vX rfl rfl (hsp) (bd .nil) ?_);refine ko 8 [16, 11, 5, 4, 3, 0] 7 ?_;refine oc (ck td rfl rfl (kH x m mot zs mot (by omega) (by omega)) [0, 1] rfl (bh (.cons rfl .buf .nil)) (an (an .nil)) ?_);refine ko 16 [18, 17, 16, 11, 5, 4, 3, 0] 0 ?_;refine lp (ι := Nat × (Int × Int × ByteArray × List aJ × List ae)) (fun ⟨q, ⟨k3, m3, s3, l3, a3⟩⟩ => [(18, int q)]) (fun ⟨q, ⟨k3, m3, s3, l3, a3⟩⟩ => [eT x m zs.length mot, eC zs, Gv nm k n s ls args, zO, .row 3 1, tO k' m' s' l' a', tO ku mu su lu au, tO kh mh sh' lh ah, tO k3 m3 s3 l3 a3]) [17, 16, 11, 5, 4, 3, 0] (fun ⟨q, ⟨k3, m3, s3, l3, a3⟩⟩ => Wt sg ps (.mk k3 m3 s3 l3 a3) zs.length ∧ (ae.mk k3 m3 s3 l3 a3).size ≤ 1 + 2 * ai (as'.take q)) (fun ⟨q, ⟨k3, m3, s3, l3, a3⟩⟩ => as'.length - q) ((i, ⟨0, zs.length - 1 - mot, .empty, [], []⟩)) ([0, 1, 2, 3, 4, 5, 6, 7, 8]) rfl ?I3 ?M3 ?H3
     case I3 =>
      exact ⟨Wt.var (by omega) (by omega), by show 1 ≤ _; omega⟩
     case M3 =>
      refine mo ?_ (eh rfl (by exact Fit.of_eq (by rw [hx]; rfl)) (aH (aH (aH (aH (aH (aH (aH dF))))))))
      repeat (first | exact cW | refine bh ?_ | refine cu ?_ | refine Eg ?_)
     case H3 =>
      rintro ⟨q, ⟨k3, m3, s3, l3, a3⟩⟩ hinv
      try dsimp only at hinv
      obtain ⟨e1, e2⟩ := hinv; refine kc 0 [18, 17, 16, 11, 5, 4, 3, 0] 9 ?_;refine cj (fun h21 => ?_) (fun h21 => ?_)
      ·refine kc 4 [18, 17, 16, 11, 5, 4, 3, 0] 0 ?_; obtain ⟨k5, m5, s5, l5, a5, hget⟩ := bQ (show q < as'.length by omega)
       have hWA := w3 _ (List.mem_of_getElem? hget)
       have hgz := bC hget
       have g1' : jq ql zs.length := g1.up (by omega)
       have hM := tB (n := (zs.length : Int)) (by omega) g1' hWA
       have hmv := nz (gl := gl) x m mot zs k5 m5 s5 l5 a5 ql g1' (by omega) (by omega) hWA (by omega)
       obtain ⟨kM, mM, sM, lM, aM, hMe⟩ := ae.case (xO zs.length ql (.mk k5 m5 s5 l5 a5))
       rw [hMe] at hM hmv
       have hap := cR (gl := gl) k3 m3 s3 l3 a3 kM mM sM lM aM
       refine gz [0, 1, 2, 3] mixed ?_;refine A1 4 rfl (bV bE bK ⟨_, rfl, ?_⟩ (he := by exact (bY hget)));refine ga [5, 6] ?_;refine A2 7 rfl (ck C1 rfl rfl (hmv) [0, 1] rfl (bh (.cons rfl .buf .nil)) (an (bd (an .nil))) ?_);refine A2 8 rfl (cv nK rfl rfl (hap) (bd (an .nil)) ?_);refine A2 9 rfl (eD bM ?_);refine aQ ?_;refine ke 2 [18, 17, 16, 11, 5, 4, 3, 0] 2 ?_;refine o1 (cw ?_);refine go 2 ?_;refine bk (q + 1, ⟨3, 0, .empty, [], [.mk k3 m3 s3 l3 a3, .mk kM mM sM lM aM]⟩) rfl ?_ [0, 1, 2, 3, 4, 5, 6, 7, 8] mz
       ·refine ⟨⟨Wt.app e1 hM.1, ?_⟩, show as'.length - (q + 1) < as'.length - q by omega⟩
        have h9 := hM.2
        rw [jV, gE hget]; have := rb (.mk k5 m5 s5 l5 a5); omega
      refine kc 6 [17, 11, 5, 4, 3, 0] 0 ?_
      have g1' : jq ql zs.length := g1.up (by omega)
      have happ := fK (gl := gl) x m mot zs 2 0 nm (jM x.pd) [] ql g1' (by omega) (by omega)
      have hcw0 := xK (ps := ps) (c := (zs.length : Int)) hsg hpd
      have haw := Wt.apply hcw0 (oS (sg := sg) (ps := ps) g1')
      have haz := cI (vK nm x.pd) (vars zs.length ql)
      rw [jC, ly, ri] at haz
      unfold vK at haw haz
      obtain ⟨kA, mA, sA, lA, aA, hA⟩ := ae.case (bN (.mk 2 0 nm (jM x.pd) []) (vars zs.length ql))
      rw [hA] at happ haw haz
      have hap2 := cR (gl := gl) k3 m3 s3 l3 a3 kA mA sA lA aA
      have hcl := iW (gl := gl) x m mot zs 3 0 .empty [] [.mk k3 m3 s3 l3 a3, .mk kA mA sA lA aA] bs.length (by omega) (by omega) (by omega)
      have hcw := i2.vH (n := bs.length) (by omega) (Wt.app e1 haw)
      have hcz := lN (zs.drop bs.length) (.mk 3 0 .empty [] [.mk k3 m3 s3 l3 a3, .mk kA mA sA lA aA])
      have hst := ja as' q
      have htk : zs.take bs.length = bs := (by rw [i5, g6, List.append_assoc, List.take_left])
      have hdr : zs.drop bs.length = xs ++ hs := (by rw [i5, g6, List.append_assoc, List.drop_left])
      rw [hdr] at hcl hcw hcz
      rw [htk] at hcl
      rw [jV, c7, List.length_append] at hcz
      obtain ⟨kB, mB, sB, lB, aB, hB⟩ := ae.case (pf (xs ++ hs) (.mk 3 0 .empty [] [.mk k3 m3 s3 l3 a3, .mk kA mA sA lA aA]))
      rw [hB] at hcl hcw hcz
      refine gz [0, 1, 2, 3, 4, 6] mixed ?_;refine A2 5 rfl (ck C2 rfl rfl (iP x m mot zs nm (by omega)) [0, 1] rfl (bh (.cons rfl .buf .nil)) (an (an .nil)) ?_);refine A2 7 rfl (ck te rfl rfl (happ) [0, 1] rfl (bh (.cons rfl .buf .nil)) (an (an (an .nil))) ?_);refine A2 8 rfl (cv nK rfl rfl (hap2) (bd (an .nil)) ?_);refine A2 9 rfl (eD bM ?_);refine aQ ?_;refine ke 1 [17, 5, 4, 0] 5 ?_;refine oc (ck vi rfl rfl (hcl) [0, 1] rfl (bh (.cons rfl .buf .nil)) (an (bd (an .nil))) ?_);refine go 4 ?_;refine eo ((ae.mk kB mB sB lB aB).d) [0, 1] [eT x m bs.length mot, eC bs] ?_
      ·exact ⟨_, rfl, rfl, hcw, by omega⟩
    refine gc 5 ?_
    have hzl : zs.length = ys.length + hs.length := (by rw [i5, List.length_append])
    obtain ⟨rfl, ⟨k1, m1, s1, l1, a1⟩, ⟨k2, m2, s2, l2, a2⟩, rfl, hpis⟩ := jJ (show 0 < bu (.mk k' m' s' l' a') by omega); obtain ⟨_, _, hab, _, _, _, hWA, hWB⟩ := i3.two (.inr (.inr rfl)); cases hab
    rw [if_neg (by decide)] at hWB
    have hzz : 1 + (ae.mk k1 m1 s1 l1 a1).size + (ae.mk k2 m2 s2 l2 a2).size = (ae.mk 5 m' s' l' [.mk k1 m1 s1 l1 a1, .mk k2 m2 s2 l2 a2]).size - aS l' := (by simp only [ae.size, ai]; omega)
    have hl0 : l' = [] := (by
     rcases i3.2.2 with h | h | h | h | h
     ·omega
     ·omega
     ·omega
     ·exact h.2.2.2.1
     ·omega)
    subst hl0
    simp only [aS, Nat.sub_zero] at hzz
    have hha := jw (gl := gl) x.sd _ k1 m1 s1 l1 a1 (Nat.le_refl _) (by omega)
    refine gc 3 ?_;refine o1 (bV bE bK ?_ (he := by exact (rfl)));refine ko 6 [13, 12, 11, 10, 9, 8, 5, 4, 3, 0] 0 ?_;refine gz [0, 1, 2, 3, 4, 5] mixed ?_;refine A2 6 rfl (cv vj rfl rfl (hha) (bd (an .nil)) ?_);refine ga [7] ?_;refine aQ ?_;refine ke 7 [71, 13, 12, 11, 10, 9, 8, 5, 4, 3, 0] 0 ?_;refine xo (ι := List ae) (fun zs2 => []) (fun zs2 => [eT x m zs2.length mot, eC zs2, Gv nm k n s ls args, zO, .row 3 1, tO 5 m' s' [] [.mk k1 m1 s1 l1 a1, .mk k2 m2 s2 l2 a2], tO ku mu su lu au, tO k1 m1 s1 l1 a1]) [12, 11, 10, 9, 8, 5, 4, 3, 0] (fun zs2 => yp sg ps zs2 ∧ ∃ hs2, zs2 = ys ++ hs2 ∧ hs2.length ≤ j + 1 ∧ ai hs2 + hs2.length + 4 * (ae.mk k2 m2 s2 l2 a2).size ≤ 4 * (ae.mk k0 n0 s0 l0 a0).size) rfl ?A4 ?B4
    case A4 =>
     refine cJ (fun h15 => ?_) (fun h15 => ?_)
     ·refine gc 1 ?_;refine bk (zs) rfl ?_ [0, 1, 2, 3, 4, 5, 6, 7] mz
      exact ⟨i2, hs, i5, by omega, by omega⟩
     have hqj : (ql[i + j]'(by omega)) ∈ ql := List.getElem_mem _
     have hpz2 := g1 _ hqj
     have htl : (ql.take (i + j)).length = i + j := (by rw [List.length_take]; omega)
     have hyp := me (gl := gl) x m mot i hx zs k1 m1 s1 l1 a1 (ql.take (i + j)) (ql[i + j]'(by omega)) ((g1.up (by omega)).take _) ⟨hpz2.1, by omega⟩ (by omega) i2 (by omega) (by omega) (by rw [htl]; exact hWA) (by omega)
     refine gz [0, 1, 2, 3, 4, 5, 6, 7, 9, 12, 13, 14, 15, 16, 18] mixed ?_;refine dj (rs := [8, 17]) (by kernel_rfl) rfl ⟨?_, ?_, trivial⟩
     ·skip
      refine A4 (T := fun _ => False) 8 rfl (ot rfl rfl (DC AE ?_));refine A1 10 rfl (cw ⟨_, rfl, ?_⟩);refine A1 11 rfl (gT iQ jh rfl rfl rfl rfl rfl rfl (by omega) ((show (ints ql).take (x.ad + (j : Int)).toNat = ints (ql.take (i + j)) by rw [hx]; exact nD ql (i + j))) ⟨_, rfl, ?_⟩);refine A2 (T := fun _ => False) 17 rfl (ot rfl rfl (DC AE ?_));refine A1 19 rfl (cw ⟨_, rfl, ?_⟩);refine A1 20 rfl (bV iQ jh ⟨_, rfl, ?_⟩ (he := by exact ((show (ints ql)[(x.ad + (j : Int)).toNat]? = some [D.v (.int .i64 (ql[i + j]'(by omega)))] by rw [hx]; exact oD (by omega)))));refine ga [21] ?_;refine A2 22 rfl (ay C0 rfl rfl rfl rfl (hyp) [0, 1] (bh (.cons rfl .buf .nil)) rfl rfl rfl rfl (an (bd (an (an .nil)))) (fun s ob' hq => ?_) (fun s ob' hq => ?_))
      rotate_left
      ·obtain ⟨_, hq1, _⟩ := hq; cases hq1
      obtain ⟨⟨kY, mY, sY, lY, aY⟩, hq1, rfl, hq4, hq5⟩ := hq; cases hq1; refine ⟨_, _, _, _, _, rfl, rfl, rfl, rfl, rfl, ?_⟩;refine A2 23 rfl (ck qO rfl rfl (gG x m mot zs kY mY sY lY aY (by omega)) [0, 1] rfl (bh (.cons rfl .buf .nil)) (an (an .nil)) ?_);refine aQ ?_;refine bk (zs ++ [.mk kY mY sY lY aY]) rfl ?_ [0, 1, 2, 3, 4, 5, 6, 7] mz
      exact ⟨i2.app hq4, hs ++ [.mk kY mY sY lY aY], by rw [i5, List.append_assoc], by rw [List.length_append]; simp only [List.length_cons, List.length_nil]; omega, by rw [c7, List.length_append]; simp only [ai, List.length_cons, List.length_nil]; omega⟩
     ·skip
      refine A4 (T := fun _ => False) 17 rfl (ot rfl rfl (DC AE ?_));refine A1 19 rfl (cw ⟨_, rfl, ?_⟩);refine A1 20 rfl (bV iQ jh ⟨_, rfl, ?_⟩ (he := by exact ((show (ints ql)[(x.ad + (j : Int)).toNat]? = some [D.v (.int .i64 (ql[i + j]'(by omega)))] by rw [hx]; exact oD (by omega)))));refine ga [21] ?_;refine A2 (T := fun _ => False) 8 rfl (ot rfl rfl (DC AE ?_));refine A1 10 rfl (cw ⟨_, rfl, ?_⟩);refine A1 11 rfl (gT iQ jh rfl rfl rfl rfl rfl rfl (by omega) ((show (ints ql).take (x.ad + (j : Int)).toNat = ints (ql.take (i + j)) by rw [hx]; exact nD ql (i + j))) ⟨_, rfl, ?_⟩);refine A2 22 rfl (ay C0 rfl rfl rfl rfl (hyp) [0, 1] (bh (.cons rfl .buf .nil)) rfl rfl rfl rfl (an (bd (an (an .nil)))) (fun s ob' hq => ?_) (fun s ob' hq => ?_))
      rotate_left
      ·obtain ⟨_, hq1, _⟩ := hq; cases hq1
      obtain ⟨⟨kY, mY, sY, lY, aY⟩, hq1, rfl, hq4, hq5⟩ := hq; cases hq1; refine ⟨_, _, _, _, _, rfl, rfl, rfl, rfl, rfl, ?_⟩;refine A2 23 rfl (ck qO rfl rfl (gG x m mot zs kY mY sY lY aY (by omega)) [0, 1] rfl (bh (.cons rfl .buf .nil)) (an (an .nil)) ?_);refine aQ ?_;refine bk (zs ++ [.mk kY mY sY lY aY]) rfl ?_ [0, 1, 2, 3, 4, 5, 6, 7] mz
      exact ⟨i2.app hq4, hs ++ [.mk kY mY sY lY aY], by rw [i5, List.append_assoc], by rw [List.length_append]; simp only [List.length_cons, List.length_nil]; omega, by rw [c7, List.length_append]; simp only [ai, List.length_cons, List.length_nil]; omega⟩
    case B4 =>
     rintro zs2 hcut
     try dsimp only at hcut
     refine kc 0 [12, 11, 10, 9, 8, 5, 4, 3, 0] 3 ?_;refine o1 (bV bE bK ?_ (he := by exact (rfl)));refine ko 5 [12, 11, 10, 9, 8, 5, 4, 3, 0] 2 ?_;refine o1 (cw ?_);refine go 2 ?_;refine bk (j + 1, ⟨k2, m2, s2, l2, a2⟩, zs2) rfl ?_ [0, 1, 2, 3, 4, 5, 6] mz
     exact ⟨⟨by omega, hcut.1, (by rw [show (i : Int) + ((j + 1 : Nat) : Int) = i + j + 1 by omega]; exact hWB), by omega, hcut.2⟩, show N - (j + 1) < N - j by omega⟩
  ·skip
   refine A4 8 rfl (tE bM ?_);refine A2 7 rfl (cv An rfl rfl (hen) (bd (an .nil)) ?_);refine A2 9 rfl (eD bM ?_);refine aQ ?_;refine ke 1 [8, 6, 5, 4, 3, 0] 3 ?_;refine oc (cv pC rfl rfl (hpi) (bd .nil) ?_);refine go 9 ?_;refine oc (ay xk rfl rfl rfl rfl (hbo) [0, 1] (bh (.cons rfl .buf .nil)) rfl rfl rfl rfl (an (bd (bd (an .nil)))) (fun s ob' hq => ?_) (fun s ob' hq => ?_))
   rotate_left
   ·obtain ⟨_, _, _, hq1, _⟩ := hq; cases hq1
   obtain ⟨⟨ku, mu, su, lu, au⟩, ql, ys, hq1, rfl, g1, g2, g3, ⟨pl', g4, g5⟩, xs, g6, g7, g8, _⟩ := hq; cases hq1
   have hyl : ys.length = bs.length + N := by rw [g6, List.length_append, g7]
   have hql : ql.length = i + N := by rw [g4, List.length_append, g5, hrl]
   have hqi := eP ql
   obtain ⟨w1, w2, w3, w4⟩ := Wt.spine _ (Nat.le_refl _) g3
   have hsp := et (gl := gl) ku mu su lu au w1 (by omega)
   have hss := eV _ (ae.mk ku mu su lu au) (Nat.le_refl _)
   obtain ⟨kh, mh, sh', lh, ah, hH⟩ := ae.case (bt (.mk ku mu su lu au)).1
   rw [hH] at hsp
   generalize hAs : (bt (.mk ku mu su lu au)).2 = as' at hsp hss w3
   have hal := bf as'
   have hal2 := bA as'
   refine ⟨_, _, _, _, _, rfl, rfl, rfl, rfl, rfl, ?_⟩;refine ko 9 [11, 10, 9, 8, 5, 4, 3, 0] 6 ?_;refine lp (ι := Nat × (Int × Int × ByteArray × List aJ × List ae) × List ae) (fun ⟨j, ⟨k', m', s', l', a'⟩, zs⟩ => [(12, int j)]) (fun ⟨j, ⟨k', m', s', l', a'⟩, zs⟩ => [eT x m zs.length mot, eC zs, Gv nm k n s ls args, zO, .row 3 1, tO k' m' s' l' a', tO ku mu su lu au]) [11, 10, 9, 8, 5, 4, 3, 0] (fun ⟨j, ⟨k', m', s', l', a'⟩, zs⟩ => j ≤ N ∧ yp sg ps zs ∧ Wt sg ps (.mk k' m' s' l' a') (i + j) ∧ N - j ≤ bu (.mk k' m' s' l' a') ∧ (∃ hs, zs = ys ++ hs ∧ hs.length ≤ j ∧ ai hs + hs.length + 4 * (ae.mk k' m' s' l' a').size ≤ 4 * (ae.mk k0 n0 s0 l0 a0).size)) (fun ⟨j, ⟨k', m', s', l', a'⟩, zs⟩ => N - j) ((0, ⟨k0, n0, s0, l0, a0⟩, ys)) ([0, 1, 2, 3, 4, 5, 6]) rfl ?I5 ?M5 ?H5
   case I5 =>
    exact ⟨Nat.zero_le _, g2, by simpa using hWe, by rw [hN]; exact Nat.sub_le _ _, ⟨[], by simp, by simp, by simp [ai]⟩⟩
   case M5 =>
    exact mz
   case H5 =>
    rintro ⟨j, ⟨k', m', s', l', a'⟩, zs⟩ hinv
    try dsimp only at hinv
    obtain ⟨i1, i2, i3, i4, ⟨hs, i5, i6, i7⟩⟩ := hinv; refine kc 0 [12, 11, 10, 9, 8, 5, 4, 3, 0] 8 ?_;refine cJ (fun h11 => ?_) (fun h11 => ?_)
    ·refine kc 6 [11, 10, 5, 4, 3, 0] 0 ?_
     have hzl : zs.length = ys.length + hs.length := (by rw [i5, List.length_append])
     refine gc 2 ?_;refine oc (cv vX rfl rfl (hsp) (bd .nil) ?_);refine ko 8 [16, 11, 5, 4, 3, 0] 7 ?_;refine oc (ck td rfl rfl (kH x m mot zs mot (by omega) (by omega)) [0, 1] rfl (bh (.cons rfl .buf .nil)) (an (an .nil)) ?_);refine ko 16 [18, 17, 16, 11, 5, 4, 3, 0] 0 ?_;refine lp (ι := Nat × (Int × Int × ByteArray × List aJ × List ae)) (fun ⟨q, ⟨k3, m3, s3, l3, a3⟩⟩ => [(18, int q)]) (fun ⟨q, ⟨k3, m3, s3, l3, a3⟩⟩ => [eT x m zs.length mot, eC zs, Gv nm k n s ls args, zO, .row 3 1, tO k' m' s' l' a', tO ku mu su lu au, tO kh mh sh' lh ah, tO k3 m3 s3 l3 a3]) [17, 16, 11, 5, 4, 3, 0] (fun ⟨q, ⟨k3, m3, s3, l3, a3⟩⟩ => Wt sg ps (.mk k3 m3 s3 l3 a3) zs.length ∧ (ae.mk k3 m3 s3 l3 a3).size ≤ 1 + 2 * ai (as'.take q)) (fun ⟨q, ⟨k3, m3, s3, l3, a3⟩⟩ => as'.length - q) ((i, ⟨0, zs.length - 1 - mot, .empty, [], []⟩)) ([0, 1, 2, 3, 4, 5, 6, 7, 8]) rfl ?I6 ?M6 ?H6
     case I6 =>
      exact ⟨Wt.var (by omega) (by omega), by show 1 ≤ _; omega⟩
     case M6 =>
      refine mo ?_ (eh rfl (by exact Fit.of_eq (by rw [hx]; rfl)) (aH (aH (aH (aH (aH (aH (aH dF))))))))
      repeat (first | exact cW | refine bh ?_ | refine cu ?_ | refine Eg ?_)
     case H6 =>
      rintro ⟨q, ⟨k3, m3, s3, l3, a3⟩⟩ hinv
      try dsimp only at hinv
      obtain ⟨e1, e2⟩ := hinv; refine kc 0 [18, 17, 16, 11, 5, 4, 3, 0] 9 ?_;refine cj (fun h21 => ?_) (fun h21 => ?_)
      ·refine kc 4 [18, 17, 16, 11, 5, 4, 3, 0] 0 ?_; obtain ⟨k5, m5, s5, l5, a5, hget⟩ := bQ (show q < as'.length by omega)
       have hWA := w3 _ (List.mem_of_getElem? hget)
       have hgz := bC hget
       have g1' : jq ql zs.length := g1.up (by omega)
       have hM := tB (n := (zs.length : Int)) (by omega) g1' hWA
       have hmv := nz (gl := gl) x m mot zs k5 m5 s5 l5 a5 ql g1' (by omega) (by omega) hWA (by omega)
       obtain ⟨kM, mM, sM, lM, aM, hMe⟩ := ae.case (xO zs.length ql (.mk k5 m5 s5 l5 a5))
       rw [hMe] at hM hmv
       have hap := cR (gl := gl) k3 m3 s3 l3 a3 kM mM sM lM aM
       refine gz [0, 1, 2, 3] mixed ?_;refine A1 4 rfl (bV bE bK ⟨_, rfl, ?_⟩ (he := by exact (bY hget)));refine ga [5, 6] ?_;refine A2 7 rfl (ck C1 rfl rfl (hmv) [0, 1] rfl (bh (.cons rfl .buf .nil)) (an (bd (an .nil))) ?_);refine A2 8 rfl (cv nK rfl rfl (hap) (bd (an .nil)) ?_);refine A2 9 rfl (eD bM ?_);refine aQ ?_;refine ke 2 [18, 17, 16, 11, 5, 4, 3, 0] 2 ?_;refine o1 (cw ?_);refine go 2 ?_;refine bk (q + 1, ⟨3, 0, .empty, [], [.mk k3 m3 s3 l3 a3, .mk kM mM sM lM aM]⟩) rfl ?_ [0, 1, 2, 3, 4, 5, 6, 7, 8] mz
       ·refine ⟨⟨Wt.app e1 hM.1, ?_⟩, show as'.length - (q + 1) < as'.length - q by omega⟩
        have h9 := hM.2
        rw [jV, gE hget]; have := rb (.mk k5 m5 s5 l5 a5); omega
      refine kc 6 [17, 11, 5, 4, 3, 0] 0 ?_
      have g1' : jq ql zs.length := g1.up (by omega)
      have happ := fK (gl := gl) x m mot zs 2 0 nm (jM x.pd) [] ql g1' (by omega) (by omega)
      have hcw0 := xK (ps := ps) (c := (zs.length : Int)) hsg hpd
      have haw := Wt.apply hcw0 (oS (sg := sg) (ps := ps) g1')
      have haz := cI (vK nm x.pd) (vars zs.length ql)
      rw [jC, ly, ri] at haz
      unfold vK at haw haz
      obtain ⟨kA, mA, sA, lA, aA, hA⟩ := ae.case (bN (.mk 2 0 nm (jM x.pd) []) (vars zs.length ql))
      rw [hA] at happ haw haz
      have hap2 := cR (gl := gl) k3 m3 s3 l3 a3 kA mA sA lA aA
      have hcl := iW (gl := gl) x m mot zs 3 0 .empty [] [.mk k3 m3 s3 l3 a3, .mk kA mA sA lA aA] bs.length (by omega) (by omega) (by omega)
      have hcw := i2.vH (n := bs.length) (by omega) (Wt.app e1 haw)
      have hcz := lN (zs.drop bs.length) (.mk 3 0 .empty [] [.mk k3 m3 s3 l3 a3, .mk kA mA sA lA aA])
      have hst := ja as' q
      have htk : zs.take bs.length = bs := (by rw [i5, g6, List.append_assoc, List.take_left])
      have hdr : zs.drop bs.length = xs ++ hs := (by rw [i5, g6, List.append_assoc, List.drop_left])
      rw [hdr] at hcl hcw hcz
      rw [htk] at hcl
      rw [jV, c7, List.length_append] at hcz
      obtain ⟨kB, mB, sB, lB, aB, hB⟩ := ae.case (pf (xs ++ hs) (.mk 3 0 .empty [] [.mk k3 m3 s3 l3 a3, .mk kA mA sA lA aA]))
      rw [hB] at hcl hcw hcz
      refine gz [0, 1, 2, 3, 4, 6] mixed ?_;refine A2 5 rfl (ck C2 rfl rfl (iP x m mot zs nm (by omega)) [0, 1] rfl (bh (.cons rfl .buf .nil)) (an (an .nil)) ?_);refine A2 7 rfl (ck te rfl rfl (happ) [0, 1] rfl (bh (.cons rfl .buf .nil)) (an (an (an .nil))) ?_);refine A2 8 rfl (cv nK rfl rfl (hap2) (bd (an .nil)) ?_);refine A2 9 rfl (eD bM ?_);refine aQ ?_;refine ke 1 [17, 5, 4, 0] 5 ?_;refine oc (ck vi rfl rfl (hcl) [0, 1] rfl (bh (.cons rfl .buf .nil)) (an (bd (an .nil))) ?_);refine go 4 ?_;refine eo ((ae.mk kB mB sB lB aB).d) [0, 1] [eT x m bs.length mot, eC bs] ?_
      ·exact ⟨_, rfl, rfl, hcw, by omega⟩
    refine gc 5 ?_
    have hzl : zs.length = ys.length + hs.length := (by rw [i5, List.length_append])
    obtain ⟨rfl, ⟨k1, m1, s1, l1, a1⟩, ⟨k2, m2, s2, l2, a2⟩, rfl, hpis⟩ := jJ (show 0 < bu (.mk k' m' s' l' a') by omega); obtain ⟨_, _, hab, _, _, _, hWA, hWB⟩ := i3.two (.inr (.inr rfl)); cases hab
    rw [if_neg (by decide)] at hWB
    have hzz : 1 + (ae.mk k1 m1 s1 l1 a1).size + (ae.mk k2 m2 s2 l2 a2).size = (ae.mk 5 m' s' l' [.mk k1 m1 s1 l1 a1, .mk k2 m2 s2 l2 a2]).size - aS l' := (by simp only [ae.size, ai]; omega)
    have hl0 : l' = [] := (by
     rcases i3.2.2 with h | h | h | h | h
     ·omega
     ·omega
     ·omega
     ·exact h.2.2.2.1
     ·omega)
    subst hl0
    simp only [aS, Nat.sub_zero] at hzz
    have hha := jw (gl := gl) x.sd _ k1 m1 s1 l1 a1 (Nat.le_refl _) (by omega)
    refine gc 3 ?_;refine o1 (bV bE bK ?_ (he := by exact (rfl)));refine ko 6 [13, 12, 11, 10, 9, 8, 5, 4, 3, 0] 0 ?_;refine gz [0, 1, 2, 3, 4, 5] mixed ?_;refine A2 6 rfl (cv vj rfl rfl (hha) (bd (an .nil)) ?_);refine ga [7] ?_;refine aQ ?_;refine ke 7 [71, 13, 12, 11, 10, 9, 8, 5, 4, 3, 0] 0 ?_;refine xo (ι := List ae) (fun zs2 => []) (fun zs2 => [eT x m zs2.length mot, eC zs2, Gv nm k n s ls args, zO, .row 3 1, tO 5 m' s' [] [.mk k1 m1 s1 l1 a1, .mk k2 m2 s2 l2 a2], tO ku mu su lu au, tO k1 m1 s1 l1 a1]) [12, 11, 10, 9, 8, 5, 4, 3, 0] (fun zs2 => yp sg ps zs2 ∧ ∃ hs2, zs2 = ys ++ hs2 ∧ hs2.length ≤ j + 1 ∧ ai hs2 + hs2.length + 4 * (ae.mk k2 m2 s2 l2 a2).size ≤ 4 * (ae.mk k0 n0 s0 l0 a0).size) rfl ?A7 ?B7
    case A7 =>
     refine cJ (fun h15 => ?_) (fun h15 => ?_)
     ·refine gc 1 ?_;refine bk (zs) rfl ?_ [0, 1, 2, 3, 4, 5, 6, 7] mz
      exact ⟨i2, hs, i5, by omega, by omega⟩
     have hqj : (ql[i + j]'(by omega)) ∈ ql := List.getElem_mem _
     have hpz2 := g1 _ hqj
     have htl : (ql.take (i + j)).length = i + j := (by rw [List.length_take]; omega)
     have hyp := me (gl := gl) x m mot i hx zs k1 m1 s1 l1 a1 (ql.take (i + j)) (ql[i + j]'(by omega)) ((g1.up (by omega)).take _) ⟨hpz2.1, by omega⟩ (by omega) i2 (by omega) (by omega) (by rw [htl]; exact hWA) (by omega)
     refine gz [0, 1, 2, 3, 4, 5, 6, 7, 9, 12, 13, 14, 15, 16, 18] mixed ?_;refine dj (rs := [8, 17]) (by kernel_rfl) rfl ⟨?_, ?_, trivial⟩
     ·skip
      refine A4 (T := fun _ => False) 8 rfl (ot rfl rfl (DC AE ?_));refine A1 10 rfl (cw ⟨_, rfl, ?_⟩);refine A1 11 rfl (gT iQ jh rfl rfl rfl rfl rfl rfl (by omega) ((show (ints ql).take (x.ad + (j : Int)).toNat = ints (ql.take (i + j)) by rw [hx]; exact nD ql (i + j))) ⟨_, rfl, ?_⟩);refine A2 (T := fun _ => False) 17 rfl (ot rfl rfl (DC AE ?_));refine A1 19 rfl (cw ⟨_, rfl, ?_⟩);refine A1 20 rfl (bV iQ jh ⟨_, rfl, ?_⟩ (he := by exact ((show (ints ql)[(x.ad + (j : Int)).toNat]? = some [D.v (.int .i64 (ql[i + j]'(by omega)))] by rw [hx]; exact oD (by omega)))));refine ga [21] ?_;refine A2 22 rfl (ay C0 rfl rfl rfl rfl (hyp) [0, 1] (bh (.cons rfl .buf .nil)) rfl rfl rfl rfl (an (bd (an (an .nil)))) (fun s ob' hq => ?_) (fun s ob' hq => ?_))
      rotate_left
      ·obtain ⟨_, hq1, _⟩ := hq; cases hq1
      obtain ⟨⟨kY, mY, sY, lY, aY⟩, hq1, rfl, hq4, hq5⟩ := hq; cases hq1; refine ⟨_, _, _, _, _, rfl, rfl, rfl, rfl, rfl, ?_⟩;refine A2 23 rfl (ck qO rfl rfl (gG x m mot zs kY mY sY lY aY (by omega)) [0, 1] rfl (bh (.cons rfl .buf .nil)) (an (an .nil)) ?_);refine aQ ?_;refine bk (zs ++ [.mk kY mY sY lY aY]) rfl ?_ [0, 1, 2, 3, 4, 5, 6, 7] mz
      exact ⟨i2.app hq4, hs ++ [.mk kY mY sY lY aY], by rw [i5, List.append_assoc], by rw [List.length_append]; simp only [List.length_cons, List.length_nil]; omega, by rw [c7, List.length_append]; simp only [ai, List.length_cons, List.length_nil]; omega⟩
     ·skip
      refine A4 (T := fun _ => False) 17 rfl (ot rfl rfl (DC AE ?_));refine A1 19 rfl (cw ⟨_, rfl, ?_⟩);refine A1 20 rfl (bV iQ jh ⟨_, rfl, ?_⟩ (he := by exact ((show (ints ql)[(x.ad + (j : Int)).toNat]? = some [D.v (.int .i64 (ql[i + j]'(by omega)))] by rw [hx]; exact oD (by omega)))));refine ga [21] ?_;refine A2 (T := fun _ => False) 8 rfl (ot rfl rfl (DC AE ?_));refine A1 10 rfl (cw ⟨_, rfl, ?_⟩);refine A1 11 rfl (gT iQ jh rfl rfl rfl rfl rfl rfl (by omega) ((show (ints ql).take (x.ad + (j : Int)).toNat = ints (ql.take (i + j)) by rw [hx]; exact nD ql (i + j))) ⟨_, rfl, ?_⟩);refine A2 22 rfl (ay C0 rfl rfl rfl rfl (hyp) [0, 1] (bh (.cons rfl .buf .nil)) rfl rfl rfl rfl (an (bd (an (an .nil)))) (fun s ob' hq => ?_) (fun s ob' hq => ?_))
      rotate_left
      ·obtain ⟨_, hq1, _⟩ := hq; cases hq1
      obtain ⟨⟨kY, mY, sY, lY, aY⟩, hq1, rfl, hq4, hq5⟩ := hq; cases hq1; refine ⟨_, _, _, _, _, rfl, rfl, rfl, rfl, rfl, ?_⟩;refine A2 23 rfl (ck qO rfl rfl (gG x m mot zs kY mY sY lY aY (by omega)) [0, 1] rfl (bh (.cons rfl .buf .nil)) (an (an .nil)) ?_);refine aQ ?_;refine bk (zs ++ [.mk kY mY sY lY aY]) rfl ?_ [0, 1, 2, 3, 4, 5, 6, 7] mz
      exact ⟨i2.app hq4, hs ++ [.mk kY mY sY lY aY], by rw [i5, List.append_assoc], by rw [List.length_append]; simp only [List.length_cons, List.length_nil]; omega, by rw [c7, List.length_append]; simp only [ai, List.length_cons, List.length_nil]; omega⟩
    case B7 =>
     rintro zs2 hcut
     try dsimp only at hcut
     refine kc 0 [12, 11, 10, 9, 8, 5, 4, 3, 0] 3 ?_;refine o1 (bV bE bK ?_ (he := by exact (rfl)));refine ko 5 [12, 11, 10, 9, 8, 5, 4, 3, 0] 2 ?_;refine o1 (cw ?_);refine go 2 ?_;refine bk (j + 1, ⟨k2, m2, s2, l2, a2⟩, zs2) rfl ?_ [0, 1, 2, 3, 4, 5, 6] mz
     exact ⟨⟨by omega, hcut.1, (by rw [show (i : Int) + ((j + 1 : Nat) : Int) = i + j + 1 by omega]; exact hWB), by omega, hcut.2⟩, show N - (j + 1) < N - j by omega⟩
end Go.Proofs.YtndbnldjidciiaaGreatDoor
namespace Go.Proofs.YtndbnldjidciiaaGreatDoor
open Go Go.Vd Go.RowKit
attribute [local irreducible] bl br de aj bI cY
variable {g gl : Nat → List D}
def IE (j : Nat) (x : RD) (m : Int) (n : Nat) (mot : Int) : Ob := .cells [.d (.v (.int .i64 x.kd)), .d (.v (.string x.sd)), .d (.sl 1 (strs x.pd)), .d (.v (.int .i64 x.k1)), .d (.v (.int .i64 x.n1)), .d (.v (.string x.s1)), .d (.sl 3 (bF x.l1)), .d (.sl 5 (ba x.a1)), .d (.v (.int .i64 x.k2)), .d (.v (.int .i64 x.n2)), .d (.v (.string x.s2)), .d (.sl 3 (bF x.l2)), .d (.sl 5 (ba x.a2)), .d (.v (.int .i64 x.ad)), .d (.sl 6 (gV x.cd)), .d (.v (.int .i64 m)), .arr j n, .d (.v (.int .i64 mot))] 232
variable {sg : Sg} {ps : List ByteArray} {ql : List Int}
theorem HM {pd : List ByteArray} {sd : ByteArray} {n : Nat} (hP : jq ql n) (hsg : sg sd = some pd.length) (hpd : ∀ q ∈ pd, q ∈ ps ∧ q ≠ .empty) :
 ∃ k m s ls args, bN (.mk 2 0 sd (jM pd) []) (vars n ql) = .mk k m s ls args ∧ Wt sg ps (.mk k m s ls args) n ∧ (ae.mk k m s ls args).size = 1 + pd.length + 2 * ql.length := by
 have haw := Wt.apply (xK (ps := ps) (c := (n : Int)) hsg hpd) (oS (sg := sg) (ps := ps) hP)
 have haz := cI (vK sd pd) (vars n ql)
 rw [jC, ly, ri] at haz
 unfold vK at haw haz
 obtain ⟨k, m, s, ls, args, h⟩ := ae.case (bN (.mk 2 0 sd (jM pd) []) (vars n ql))
 rw [h] at haw haz
 exact ⟨k, m, s, ls, args, h, haw, by omega⟩
theorem J2 {ys : List ae} (hT : yp sg ps ys) {mot : Nat} (hm : mot < ys.length) (hP : jq ql ys.length) :
 ∃ k m s ls args k2 m2 s2 ls2 args2, bN (.mk 0 ((ys.length : Int) - 1 - mot) .empty [] []) (vars ys.length ql) = .mk k m s ls args ∧ pf ys (.mk 3 0 .empty [] [.mk k m s ls args, .mk 0 0 .empty [] []]) = .mk k2 m2 s2 ls2 args2 ∧ Wt sg ps (.mk k2 m2 s2 ls2 args2) 0 ∧ (ae.mk k2 m2 s2 ls2 args2).size = ai ys + ys.length + 3 + 2 * ql.length := by
 have hvw : Wt sg ps (vr ((ys.length : Int) - 1 - mot)) ys.length := Wt.var (by omega) (by omega)
 have haw := Wt.apply hvw (oS (sg := sg) (ps := ps) hP)
 have haz := cI (vr ((ys.length : Int) - 1 - mot)) (vars ys.length ql)
 rw [jC, ly, Ci] at haz
 unfold vr at haw haz
 obtain ⟨k, m, s, ls, args, h⟩ := ae.case (bN (.mk 0 ((ys.length : Int) - 1 - mot) .empty [] []) (vars ys.length ql))
 rw [h] at haw haz
 have hw5 := Wt.app haw (Wt.var (sg := sg) (ps := ps) (n := 0) (c := (ys.length : Int)) (Int.le_refl _) (by omega))
 have hcw := hT.vH (n := 0) (Nat.zero_le _) hw5
 have hcz := lN (ys.drop 0) (.mk 3 0 .empty [] [.mk k m s ls args, .mk 0 0 .empty [] []])
 rw [List.drop_zero] at hcw hcz
 rw [jV, show (ae.mk 0 0 .empty [] []).size = 1 from rfl] at hcz
 obtain ⟨k2, m2, s2, ls2, args2, h2⟩ := ae.case (pf ys (.mk 3 0 .empty [] [.mk k m s ls args, .mk 0 0 .empty [] []]))
 rw [h2] at hcw hcz
 exact ⟨k, m, s, ls, args, k2, m2, s2, ls2, args2, h, h2, hcw, by omega⟩
variable {Y3 Q3 p C m Y : Nat}
theorem ID {Z P S : Nat} (h1 : Y3 = p + 1 + C + m) (h2 : Q3 = p + m) (h3 : C ≤ Z) (h4 : Z ≤ 2000000) (h5 : P = p + m) (h6 : P < S + 1) (h7 : S ≤ 1000000) (h8 : Y = p) : Y3 ≤ 100000000 ∧ Q3 ≤ 100000000 ∧ Y < Y3 := by omega
variable {L : Nat}
theorem IC (h : Y3 ≤ 100000000 ∧ Y < Y3) (h2 : L = Y3 + 1) : L ≤ 1000000000 ∧ Y < L ∧ Y3 ≤ L ∧ 0 < L := by omega
theorem EV (h : L ≤ 1000000000 ∧ Y < L ∧ Y3 ≤ L ∧ 0 < L) : 0 ≤ (Y : Int) ∧ (Y : Int) ≤ 1099511627776 := by omega
theorem IB {Dz Sy Ly Sys M Sks Sxs3 B PD Sxs2 A X2 Q2 N W U T V : Nat} (h1 : Dz = Sy + Ly + 3 + 2 * (Q3 - p)) (h2 : Sy = Sys + M + Sks + Sxs3 + B) (h3 : B = 1 + PD + 2 * Q3) (h4 : M = Sxs2 + (A + 0) + (X2 + (0 + 1)) + (1 + L)) (h5 : A = 1 + PD + 2 * Q2) (h6 : Sks ≤ 12 * C + 12 * N) (h7 : N ≤ C) (h8 : C ≤ 2000000) (h9 : Sxs3 + m + W ≤ U) (h10 : Sys + Y + U ≤ T) (h11 : Sxs2 + m + V ≤ U) (h12 : L ≤ 1000) (h13 : T ≤ 1000000) (h14 : PD ≤ 6) (h15 : Ly = Y3 + 1) (h16 : Y3 = p + 1 + N + m) (h17 : Q3 = p + m) (h18 : Q2 = p + m) (h19 : X2 = m) (h20 : Y = p) : Dz ≤ 1000000000 := by omega
set_option maxHeartbeats 4000000 in
theorem px (x : RD) (p m : Nat) (hx : x.ad = p) (kL : Int) (sL : ByteArray) (aL : List aJ) (hlv : gQ ps (.mk kL sL aL)) (hlz : (aJ.mk kL sL aL).size ≤ 1000)
 (hw : Wt sg ps (.mk x.k1 x.n1 x.s1 x.l1 x.a1) 0) (hz : (ae.mk x.k1 x.n1 x.s1 x.l1 x.a1).size ≤ 1000000) (hpm : bu (.mk x.k1 x.n1 x.s1 x.l1 x.a1) = p + m)
 (hcs : ∀ c ∈ x.cd, Wt sg ps c.2 0 ∧ p ≤ bu c.2 ∧ sg c.1 = some x.pd.length ∧ c.2.size ≤ 1000000) (hcz : Aj x.cd ≤ 2000000) (hsg : sg x.sd = some x.pd.length) (hpd : ∀ q ∈ x.pd, q ∈ ps ∧ q ≠ .empty) (hpl : x.pd.length ≤ 6) :
 cD Tryz.prog gl 167 [x.dec.d, .v (.int .i64 m), (aJ.mk kL sL aL).d] fun dd => ∃ t : ae, dd = t.d ∧ Wt sg ps t 0 ∧ t.size ≤ 1000000000 := by
 have hpz := dX _ (.mk x.k1 x.n1 x.s1 x.l1 x.a1) (Nat.le_refl _)
 have hcl0 := Hp x.cd
 have hcl := gd x.cd
 have hbo := jU (gl := gl) (sg := sg) (ps := ps) x m 0 [] x.k1 x.n1 x.s1 x.l1 x.a1 [] p (fun q hq => by cases hq) (fun i y hy => by simp at hy) (by simp; omega) (by simp; omega) hw (by omega) (by omega)
 rw [← hx] at hbo
 simp only [List.length_nil] at hbo
 refine bD Tryz.func167 Tryz.ntmps167 ?_;refine kc 17 [7, 6, 5, 3, 1] 0 ?_;refine bq 39 5 rfl ?_;refine gc 6 ?_;refine oc (ay xk rfl rfl rfl rfl (hbo) [3, 4] (.cons rfl (.cells rfl (by repeat (first | exact zX | refine an ?_ | refine .cons (.J5 rfl) ?_))) (.cons rfl .J6 .nil)) rfl rfl rfl rfl (an (bd (JL (an .nil)))) (fun s ob' hq => ?_) (fun s ob' hq => ?_))
 rotate_left
 ·obtain ⟨_, _, _, hq1, _⟩ := hq; cases hq1
 obtain ⟨⟨ku, mu, su, lu, au⟩, ql, ys, hq1, rfl, g1, g2, g3, ⟨pl', g4, g5⟩, xs, g6, g7, g8, g9⟩ := hq; cases hq1
 rw [List.nil_append] at g4 g6
 subst g4 g6
 have hbo2 := jU (gl := gl) (sg := sg) (ps := ps) x m 0 ys ku mu su lu au ql m g1 g2 (by omega) (by omega) g3 (by omega) (by omega)
 refine ⟨_, _, _, _, _, rfl, rfl, rfl, rfl, rfl, ?_⟩;refine ko 8 [9, 8, 7, 6, 5, 3, 1] 6 ?_;refine oc (ay xk rfl rfl rfl rfl (hbo2) [3, 4] (bh (.cons rfl .buf .nil)) rfl rfl rfl rfl (an (bd (an (an .nil)))) (fun s ob' hq => ?_) (fun s ob' hq => ?_))
 rotate_left
 ·obtain ⟨_, _, _, hq1, _⟩ := hq; cases hq1
 obtain ⟨⟨kv, mv', sv, lv, av⟩, ql2, ys2, hq1, rfl, e1, e2, e3, ⟨pl2, e4, e5⟩, xs2, e6, e7, e8, e9⟩ := hq; cases hq1
 have hy2 : ys2.length = p + m := by rw [e6, List.length_append, g7, e7]
 have hq2 : ql2.length = p + m := by rw [e4, List.length_append, g5, e5]
 have happ := fK (gl := gl) x m 0 ys2 2 0 x.sd (jM x.pd) [] ql2 e1 (by omega) (by omega)
 obtain ⟨kA, mA, sA, lA, aA, hA, haw, haz⟩ := HM (ps := ps) e1 hsg hpd
 rw [hA] at happ
 refine ⟨_, _, _, _, _, rfl, rfl, rfl, rfl, rfl, ?_⟩;refine ko 8 [11, 9, 8, 7, 6, 5, 3, 1] 6 ?_;refine oc (ck C2 rfl rfl (iP x m 0 ys2 x.sd (by omega)) [3, 4] rfl (bh (.cons rfl .buf .nil)) (an (an .nil)) ?_);refine go 1 ?_;refine oc (ck te rfl rfl (happ) [3, 4] rfl (bh (.cons rfl .buf .nil)) (an (an (an .nil))) ?_);refine ko 5 [12, 9, 8, 7, 6, 5, 3, 1] 0 ?_
 have hT3 := e2.app haw
 have hy3 : (ys2 ++ [ae.mk kA mA sA lA aA]).length = p + m + 1 := (by rw [List.length_append, hy2]; rfl)
 have hcl1 := iW (gl := gl) x m 0 (ys2 ++ [ae.mk kA mA sA lA aA]) 1 0 .empty [.mk kL sL aL] [] ys.length (by omega) (by omega) (by omega)
 have hcw1 := hT3.vH (n := ys.length) (t := .mk 1 0 .empty [.mk kL sL aL] []) (by omega) (Wt.sort hlv)
 have hcz1 := lN ((ys2 ++ [ae.mk kA mA sA lA aA]).drop ys.length) (.mk 1 0 .empty [.mk kL sL aL] [])
 have htk1 : (ys2 ++ [ae.mk kA mA sA lA aA]).take ys.length = ys := (by rw [e6, List.append_assoc, List.take_left])
 have hdr1 : (ys2 ++ [ae.mk kA mA sA lA aA]).drop ys.length = xs2 ++ [.mk kA mA sA lA aA] := (by rw [e6, List.append_assoc, List.drop_left])
 rw [hdr1] at hcl1 hcw1 hcz1
 rw [htk1] at hcl1
 rw [c7, List.length_append] at hcz1
 obtain ⟨kM, mM, sM, lM, aM, hM⟩ := ae.case (pf (xs2 ++ [.mk kA mA sA lA aA]) (.mk 1 0 .empty [.mk kL sL aL] []))
 rw [hM] at hcl1 hcw1 hcz1
 have hyl : ys.length = p := g7
 rw [show ((ys.length : Nat) : Int) = x.ad by rw [hx, hyl]] at hcl1
 have hzs : (ae.mk 1 0 .empty [aJ.mk kL sL aL] []).size = 1 + (aJ.mk kL sL aL).size := (by simp only [ae.size, aS, ai]; omega)
 rw [hzs] at hcz1
 simp only [ai, List.length_cons, List.length_nil] at hcz1
 refine gc 3 ?_;refine oc (ck qO rfl rfl (gG x m 0 ys2 kA mA sA lA aA (by omega)) [3, 4] rfl (bh (.cons rfl .buf .nil)) (an (bd .nil)) ?_);refine ko 3 [9, 8, 7, 6, 5, 3, 1] 0 ?_;refine xo (ι := Unit) (fun _ => [(13, .bZ 8 0)]) (fun _ => [rG x, lO kL sL aL, zO, IE 4 x m ys.length 0, eC ys, tO ku mu su lu au, tO kv mv' sv lv av, tO kA mA sA lA aA, tO kM mM sM lM aM]) [9, 8, 7, 6, 3, 1] (fun _ => True) rfl ?A1 ?B1
 case A1 =>
  refine gz [0, 1, 3, 4] mixed ?_;refine dj (rs := [2, 6]) (by kernel_rfl) rfl ⟨?_, ?_, trivial⟩
  ·skip
   refine A4 2 rfl (cv Eb rfl rfl (iE kL sL aL) (bd .nil) ?_);refine dj (rs := [5, 6]) (by kernel_rfl) rfl ⟨?_, ?_, trivial⟩
   ·skip
    refine A4 5 rfl (ck vi rfl rfl (hcl1) [3, 4] rfl (bh (.cons rfl .buf .nil)) (an (an (an .nil))) ?_);refine A2 6 rfl (tE bM ?_);refine A2 7 rfl (eD bM ?_);refine aQ ?_;refine bk () rfl ?_ [0, 1, 2, 3, 4, 5, 6, 7, 8] mz
    trivial
   ·skip
    refine A4 6 rfl (tE bM ?_);refine A2 5 rfl (ck vi rfl rfl (hcl1) [3, 4] rfl (bh (.cons rfl .buf .nil)) (an (an (an .nil))) ?_);refine A2 7 rfl (eD bM ?_);refine aQ ?_;refine bk () rfl ?_ [0, 1, 2, 3, 4, 5, 6, 7, 8] mz
    trivial
  ·skip
   refine A4 6 rfl (tE bM ?_);refine A2 2 rfl (cv Eb rfl rfl (iE kL sL aL) (bd .nil) ?_);refine A2 5 rfl (ck vi rfl rfl (hcl1) [3, 4] rfl (bh (.cons rfl .buf .nil)) (an (an (an .nil))) ?_);refine A2 7 rfl (eD bM ?_);refine aQ ?_;refine bk () rfl ?_ [0, 1, 2, 3, 4, 5, 6, 7, 8] mz
   trivial
 case B1 =>
  rintro _ hcut
  try dsimp only at hcut
  refine kc 0 [13, 9, 8, 7, 6, 3, 1] 7 ?_;refine o1 (gj bE rfl rfl ?_);refine ko 6 [13, 9, 8, 7, 6, 3, 1] 0 ?_
  have hMw : Wt sg ps (.mk kM mM sM lM aM) ys.length := hcw1
  refine gc 3 ?_;refine oc (ck qO rfl rfl (gG x m ys.length ys kM mM sM lM aM (by omega)) [3, 4] rfl (bh (.cons rfl .buf .nil)) (an (bd .nil)) ?_);refine ko 3 [9, 8, 7, 6, 3, 1] 6 ?_;refine lp (ι := Nat × List ae) (fun ⟨i, zs⟩ => [(14, int i)]) (fun ⟨i, zs⟩ => [rG x, lO kL sL aL, zO, IE 4 x m zs.length ys.length, eC zs, tO ku mu su lu au, tO kv mv' sv lv av, tO kA mA sA lA aA, tO kM mM sM lM aM]) [9, 8, 7, 6, 3, 1] (fun ⟨i, zs⟩ => i ≤ x.cd.length ∧ yp sg ps zs ∧ ∃ ks, zs = (ys ++ [.mk kM mM sM lM aM]) ++ ks ∧ ks.length = i ∧ ai ks ≤ 12 * Aj (x.cd.take i) + 12 * i) (fun ⟨i, zs⟩ => x.cd.length - i) ((0, ys ++ [.mk kM mM sM lM aM])) ([0, 1, 2, 3, 4, 5, 6, 7, 8]) rfl ?I2 ?M2 ?H2
  case I2 =>
   exact ⟨Nat.zero_le _, g2.app hMw, [], by simp, rfl, by simp [ai]⟩
  case M2 =>
   exact mz
  case H2 =>
   rintro ⟨i, zs⟩ hinv
   try dsimp only at hinv
   obtain ⟨i1, i2, ks, i3, i4, i5⟩ := hinv; refine kc 0 [14, 9, 8, 7, 6, 3, 1] 10 ?_;refine cj (fun h10 => ?_) (fun h10 => ?_)
   ·refine kc 5 [14, 9, 8, 7, 6, 3, 1] 0 ?_; obtain ⟨cN, cK, cM, cS, cL, cA, hget⟩ := kn (show i < x.cd.length by omega)
    have hcm := List.mem_of_getElem? hget
    obtain ⟨c1, c2, c3, hczm⟩ := hcs _ hcm
    have hzl : zs.length = p + 1 + i := (by rw [i3, List.length_append, List.length_append, hyl, i4]; rfl)
    have hmi := Bf (gl := gl) (sg := sg) (ps := ps) x m ys.length p hx zs cN cK cM cS cL cA (by omega) (by omega) i2 (by omega) c1 (by simp only at hczm; omega) c2 c3 hpd hpl
    refine gc 5 ?_;refine o1 (bV pG qc ?_ (he := by exact (gW hget)));refine go 1 ?_;refine oc (ay Kw rfl rfl rfl rfl (hmi) [3, 4] (bh (.cons rfl .buf .nil)) rfl rfl rfl rfl (an (bd .nil)) (fun s ob' hq => ?_) (fun s ob' hq => ?_))
    rotate_left
    ·obtain ⟨_, hq1, _⟩ := hq; cases hq1
    obtain ⟨⟨kY, mY, sY, lY, aY⟩, hq1, rfl, hq4, hq5⟩ := hq; cases hq1; refine ⟨_, _, _, _, _, rfl, rfl, rfl, rfl, rfl, ?_⟩;refine ko 4 [15, 14, 9, 8, 7, 6, 3, 1] 3 ?_;refine oc (ck qO rfl rfl (gG x m ys.length zs kY mY sY lY aY (by omega)) [3, 4] rfl (bh (.cons rfl .buf .nil)) (an (bd .nil)) ?_);refine ko 3 [14, 9, 8, 7, 6, 3, 1] 2 ?_;refine o1 (cw ?_);refine go 2 ?_;refine bk (i + 1, zs ++ [.mk kY mY sY lY aY]) rfl ?_ [0, 1, 2, 3, 4, 5, 6, 7, 8] mz
    ·refine ⟨⟨by omega, i2.app hq4, ks ++ [.mk kY mY sY lY aY], by rw [i3, List.append_assoc], by rw [List.length_append, i4]; rfl, ?_⟩, show x.cd.length - (i + 1) < x.cd.length - i by omega⟩
     rw [c7, FY hget]
     simp only [ai]; omega
   refine kc 6 [9, 8, 7, 6, 3, 1] 0 ?_
   obtain rfl : i = x.cd.length := (by omega)
   rw [List.take_length] at i5
   have hzl : zs.length = p + 1 + x.cd.length := (by rw [i3, List.length_append, List.length_append, hyl, i4]; rfl)
   have hbo3 := jU (gl := gl) (sg := sg) (ps := ps) x m ys.length zs ku mu su lu au ql m (g1.up (by omega)) i2 (by omega) (by omega) g3 (by omega) (by omega)
   refine gc 5 ?_;refine oc (ay xk rfl rfl rfl rfl (hbo3) [3, 4] (bh (.cons rfl .buf .nil)) rfl rfl rfl rfl (an (bd (an (an .nil)))) (fun s ob' hq => ?_) (fun s ob' hq => ?_))
   rotate_left
   ·obtain ⟨_, _, _, hq1, _⟩ := hq; cases hq1
   obtain ⟨⟨kw, mw, sw, lw, aw⟩, ql3, ys3, hq1, rfl, f1, f2, f3, ⟨pl3, f4, f5⟩, xs3, f6, f7, f8, f9⟩ := hq; cases hq1
   have hy4 : ys3.length = p + 1 + x.cd.length + m := by rw [f6, List.length_append, hzl, f7]
   have hq3 : ql3.length = p + m := by rw [f4, List.length_append, g5, f5]
   have hb3 : ys3.length ≤ 100000000 ∧ ql3.length ≤ 100000000 ∧ ys.length < ys3.length := ID hy4 hq3 hcl0 hcz hpm hpz hz hyl
   have happ3 := fK (gl := gl) x m ys.length ys3 2 0 x.sd (jM x.pd) [] ql3 f1 (Nat.le_trans hb3.1 (by decide)) (Nat.le_trans hb3.2.1 (by decide))
   obtain ⟨kB, mB, sB, lB, aB, hB, haw3, haz3⟩ := HM (ps := ps) f1 hsg hpd
   rw [hB] at happ3
   have hT5 := f2.app haw3
   have hy5 : (ys3 ++ [ae.mk kB mB sB lB aB]).length = ys3.length + 1 := by rw [List.length_append]; rfl
   have hb4 : (ys3 ++ [ae.mk kB mB sB lB aB]).length ≤ 1000000000 ∧ ys.length < (ys3 ++ [ae.mk kB mB sB lB aB]).length ∧ ys3.length ≤ (ys3 ++ [ae.mk kB mB sB lB aB]).length ∧ 0 < (ys3 ++ [ae.mk kB mB sB lB aB]).length := IC ⟨hb3.1, hb3.2.2⟩ hy5
   have f1' : jq ql3 (ys3 ++ [ae.mk kB mB sB lB aB]).length := f1.up hb4.2.2.1
   have hil := eP ql3
   have happ4 := fK (gl := gl) x m ys.length (ys3 ++ [ae.mk kB mB sB lB aB]) 0 ((ys3 ++ [ae.mk kB mB sB lB aB]).length - 1 - ys.length) .empty [] [] (ql3.drop p) (f1'.drop p) (Nat.le_trans hb4.1 (by decide)) (by rw [List.length_drop]; exact Nat.le_trans (Nat.sub_le _ _) (Nat.le_trans hb3.2.1 (by decide)))
   obtain ⟨kC, mC, sC, lC, aC, kD, mD, sD, lD, aD, hC, hD, hcw5, hcz5⟩ := J2 hT5 hb4.2.1 (f1'.drop p)
   rw [hC] at happ4
   have hap5 := cR (gl := gl) kC mC sC lC aC 0 0 .empty [] []
   have hcl5 := iW (gl := gl) x m ys.length (ys3 ++ [ae.mk kB mB sB lB aB]) 3 0 .empty [] [.mk kC mC sC lC aC, .mk 0 0 .empty [] []] 0 (Nat.zero_le _) hb4.2.2.2 (Nat.le_trans hb4.1 (by decide))
   rw [List.drop_zero, hD] at hcl5
   have hsz5 : ai (ys3 ++ [ae.mk kB mB sB lB aB]) = ai ys + (ae.mk kM mM sM lM aM).size + ai ks + ai xs3 + (ae.mk kB mB sB lB aB).size := by
    rw [f6, i3]
    simp only [c7, ai, Nat.add_zero, Nat.add_assoc]
   have hfin : (ae.mk kD mD sD lD aD).size ≤ 1000000000 := by
    rw [List.length_drop] at hcz5
    exact IB hcz5 hsz5 haz3 hcz1 haz i5 hcl0 hcz f8 g8 e8 hlz hz hpl hy5 hy4 hq3 hq2 e7 rfl
   refine ⟨_, _, _, _, _, rfl, rfl, rfl, rfl, rfl, ?_⟩;refine ko 6 [11, 7, 6, 3] 7 ?_;refine oc (ck C2 rfl rfl (iP x m ys.length ys3 x.sd (Nat.le_trans hpl (by decide))) [3, 4] rfl (bh (.cons rfl .buf .nil)) (an (an .nil)) ?_);refine go 1 ?_;refine oc (ck te rfl rfl (happ3) [3, 4] rfl (bh (.cons rfl .buf .nil)) (an (an (an .nil))) ?_);refine oc (ck qO rfl rfl (gG x m ys.length ys3 kB mB sB lB aB (Nat.le_trans hb3.1 (by decide))) [3, 4] rfl (bh (.cons rfl .buf .nil)) (an (an .nil)) ?_);refine ko 3 [11, 7, 6, 3] 0 ?_;refine xo (ι := Unit) (fun _ => [(16, .bZ 9 0)]) (fun _ => [rG x, lO kL sL aL, zO, IE 4 x m (ys3 ++ [ae.mk kB mB sB lB aB]).length ys.length, eC (ys3 ++ [ae.mk kB mB sB lB aB]), tO ku mu su lu au, tO kv mv' sv lv av, tO kA mA sA lA aA, tO kM mM sM lM aM, tO kC mC sC lC aC]) [7, 6] (fun _ => True) rfl ?A3 ?B3
   case A3 =>
    refine gz [0, 1, 2, 3, 4, 5, 7, 8, 9] mixed ?_;refine A1 10 rfl (u0 iQ jh rfl rfl rfl rfl rfl rfl (by omega) ((show (ints ql3).drop (x.ad).toNat = ints (ql3.drop p) by rw [hx]; exact uV ql3 p)) ⟨_, rfl, ?_⟩);refine dj (rs := [6, 12]) (by kernel_rfl) rfl ⟨?_, ?_, trivial⟩
    ·skip
     refine A4 6 rfl (ck td rfl rfl (kH x m ys.length (ys3 ++ [ae.mk kB mB sB lB aB]) ys.length (Nat.le_trans hb4.1 (by decide)) (EV hb4)) [3, 4] rfl (bh (.cons rfl .buf .nil)) (an (an .nil)) ?_);refine dj (rs := [11, 12]) (by kernel_rfl) rfl ⟨?_, ?_, trivial⟩
     ·skip
      refine A4 11 rfl (ck te rfl rfl (happ4) [3, 4] rfl (bh (.cons rfl .buf .nil)) (an (an (an .nil))) ?_);refine A2 12 rfl (tE bM ?_);refine A2 13 rfl (eD bM ?_);refine aQ ?_;refine bk () rfl ?_ [0, 1, 2, 3, 4, 5, 6, 7, 8, 9] mz
      trivial
     ·skip
      refine A4 12 rfl (tE bM ?_);refine A2 11 rfl (ck te rfl rfl (happ4) [3, 4] rfl (bh (.cons rfl .buf .nil)) (an (an (an .nil))) ?_);refine A2 13 rfl (eD bM ?_);refine aQ ?_;refine bk () rfl ?_ [0, 1, 2, 3, 4, 5, 6, 7, 8, 9] mz
      trivial
    ·skip
     refine A4 12 rfl (tE bM ?_);refine A2 6 rfl (ck td rfl rfl (kH x m ys.length (ys3 ++ [ae.mk kB mB sB lB aB]) ys.length (Nat.le_trans hb4.1 (by decide)) (EV hb4)) [3, 4] rfl (bh (.cons rfl .buf .nil)) (an (an .nil)) ?_);refine A2 11 rfl (ck te rfl rfl (happ4) [3, 4] rfl (bh (.cons rfl .buf .nil)) (an (an (an .nil))) ?_);refine A2 13 rfl (eD bM ?_);refine aQ ?_;refine bk () rfl ?_ [0, 1, 2, 3, 4, 5, 6, 7, 8, 9] mz
     trivial
   case B3 =>
    rintro _ hcut
    try dsimp only at hcut
    refine kc 0 [16, 7, 6] 1 ?_;refine gz [0] mixed ?_;refine A2 1 rfl (cv Hu rfl rfl (o4 0) (an .nil) ?_);refine A2 2 rfl (cv nK rfl rfl (hap5) (bd (an .nil)) ?_);refine A2 3 rfl (eD bM ?_);refine aQ ?_;refine ge 5 ?_;refine oc (ck vi rfl rfl (hcl5) [3, 4] rfl (bh (.cons rfl .buf .nil)) (an (bd (an .nil))) ?_);refine go 4 ?_;refine ed ((ae.mk kD mD sD lD aD).d) ?_; exact ⟨_, rfl, hcw5, hfin⟩
end Go.Proofs.YtndbnldjidciiaaGreatDoor
namespace Go.Proofs.YtndbnldjidciiaaGreatDoor
open Go Go.Vd Go.RowKit
attribute [local irreducible] bl br de aj bI cY
variable {g gl : Nat → List D}
mutual
def tS : ae → Prop
 | .mk _ _ _ ls args => ls.length ≤ 1000000 ∧ args.length ≤ 1000000 ∧ (∀ l ∈ ls, G4 l) ∧ KN args
def KN : List ae → Prop
 | [] => True
 | t :: r => tS t ∧ KN r
end
theorem Cn : ∀ {l : List ae} {i : Nat} {t : ae}, KN l → l[i]? = some t → tS t
 | a :: r, 0, t, h, hi => by cases hi; exact h.1
 | a :: r, i + 1, t, h, hi => Cn (l := r) (i := i) h.2 (by simpa using hi)
mutual
theorem Wt.tS {sg : Sg} {ps : List ByteArray} (hs : ∀ s n, sg s = some n → n ≤ 1000000) : ∀ {t : ae} {c : Int}, Wt sg ps t c → tS t
 | .mk k m s ls args, c, h => by
  have h2 := h.2.2
  refine ⟨?_, ?_, fun l hl => ?_, fQ.tS hs h.2.1⟩
  ·rcases h2 with h2 | h2 | h2 | h2 | h2
   ·rw [h2.2.2.2.1]; simp
   ·rw [h2.2.2.2.1]; omega
   ·exact hs _ _ h2.2.2.1
   ·rw [h2.2.2.2.1]; simp
   ·rw [h2.2.2.2.1]; simp
  ·rcases h2 with h2 | h2 | h2 | h2 | h2
   ·rw [h2.2.2.2.2]; omega
   ·rw [h2.2.2.2.2]; omega
   ·rw [h2.2.2.2]; omega
   ·rw [h2.2.2.2.2]; omega
   ·rw [h2.2.2.2.2]; omega
  ·obtain ⟨x, rfl, _⟩ := h.1 l hl
   exact iK x
theorem fQ.tS {sg : Sg} {ps : List ByteArray} (hs : ∀ s n, sg s = some n → n ≤ 1000000) : ∀ {l : List ae} {b : Bool} {c : Int}, fQ sg ps b l c → KN l
 | [], _, _, _ => trivial
 | t :: r, b, c, h => ⟨Wt.tS hs h.1, fQ.tS hs h.2⟩
end
theorem y4 : ∀ (n : Nat) (k m : Int) (s : ByteArray) (ls : List aJ) (args : List ae) (most : Int), (ae.mk k m s ls args).size ≤ n → tS (.mk k m s ls args) → 0 ≤ most → most ≤ 1099511627776 →
 cD Tryz.prog gl 102 [(ae.mk k m s ls args).d, .v (.int .i64 most)] fun d => ∃ r : Int, d = .v (.int .i64 r) ∧ 1 ≤ r ∧ r ≤ most + 1 ∧ (r ≤ most → r = (ae.mk k m s ls args).size) := by
 intro n
 induction n with
 | zero => intro k m s ls args most h; simp [ae.size] at h
 | succ n ih =>
  intro k m s ls args most hsz hb hm0 hm1
  simp only [ae.size] at hsz
  obtain ⟨hb1, hb2, hb3, hb4⟩ := hb
  have hal := bf args
  have hll := bR ls
  refine bD Tryz.func102 Tryz.ntmps102 ?_;refine kc 18 [6, 5, 2, 1] 0 ?_;refine lP (ι := Nat × Int) (fun ⟨i, c⟩ => [(6, int i), (5, int c)]) [2, 1] (fun ⟨i, c⟩ => i ≤ ls.length ∧ 1 ≤ c ∧ c ≤ most + 1 ∧ (c ≤ most → c = 1 + aS (ls.take i))) (fun ⟨i, c⟩ => ls.length - i) ((0, 1)) rfl ?I9 ?M9 ?H9
  case I9 =>
   exact ⟨Nat.zero_le _, by omega, by omega, fun _ => by simp [aS]⟩
  case M9 =>
   exact mz
  case H9 =>
   rintro ⟨i, c⟩ hinv
   try dsimp only at hinv
   refine kc 0 [6, 5, 2, 1] 9 ?_
   refine' oa (yt := 18) (d := 15) 3 ?a1 ?b1 ?_
   case a1 =>
    intro hc hK
    refine go 3 ?_; exact hK [_, _, _] rfl rfl
   case b1 =>
    intro _ hK; refine go 3 ?_; exact hK [_, _, _] rfl
   refine go 2 ?_;refine cj (fun h3 => ?_) (fun h3 => ?_)
   ·refine kc 5 [6, 5, 2, 1] 0 ?_; obtain ⟨k', s', a', hget⟩ := cU (show i < ls.length by omega)
    have hg1 := dN hget
    refine gc 4 ?_;refine o1 (bV ee ei ?_ (he := by exact (cZ hget)));refine go 3 ?_;refine o1 (nT ?_);refine oc (T := fun _ => False) (bo Ao rfl rfl rfl rfl (rr _ k' s' a' (most - c) (Nat.le_refl _) (hb3 _ (List.mem_of_getElem? hget)) (by omega) (by omega)) (bd (an .nil)) (fun d hd => ?_))
    obtain ⟨r, rfl, hr1, hr2, hr3⟩ := hd; refine ko 3 [7, 6, 5, 2, 1] 3 ?_;refine o1 (cw ?_);refine ko 4 [5, 6, 2, 1] 2 ?_;refine o1 (cw ?_);refine go 2 ?_;refine bi (i + 1, c + r) rfl ?_ mz
    exact ⟨⟨by omega, by omega, by omega, fun h => by rw [fC hget]; omega⟩, show ls.length - (i + 1) < ls.length - i by omega⟩
   refine kc 7 [5, 2, 1] 0 ?_
   have hc2 : c ≤ most + 1 := hinv.2.2.1
   have hc3 : c ≤ most → c = 1 + aS ls := (fun h => by
    have h4 : i = ls.length := by omega
    rw [hinv.2.2.2 h, h4, List.take_length])
   have hc1 := hinv.2.1
   refine gc 5 ?_;refine lP (ι := Nat × Int) (fun ⟨j, e⟩ => [(8, int j), (5, int e)]) [2, 1] (fun ⟨j, e⟩ => j ≤ args.length ∧ 1 ≤ e ∧ e ≤ most + 1 ∧ (e ≤ most → e = 1 + aS ls + ai (args.take j))) (fun ⟨j, e⟩ => args.length - j) ((0, c)) rfl ?I10 ?M10 ?H10
   case I10 =>
    exact ⟨Nat.zero_le _, hc1, hc2, fun h => by simp [ai]; exact hc3 h⟩
   case M10 =>
    exact mz
   case H10 =>
    rintro ⟨j, e⟩ hinv
    try dsimp only at hinv
    refine kc 0 [8, 5, 2, 1] 9 ?_
    refine' oa (yt := 42) (d := 39) 3 ?a2 ?b2 ?_
    case a2 =>
     intro hc hK
     refine go 3 ?_; exact hK [_, _, _] rfl rfl
    case b2 =>
     intro _ hK; refine go 3 ?_; exact hK [_, _, _] rfl
    refine go 2 ?_;refine cJ (fun h8 => ?_) (fun h8 => ?_)
    ·refine kc 5 [5] 2 ?_
     have hend : e ≤ most → j = args.length := (fun h => by omega)
     refine go 5 ?_;refine ez ?_; exact ⟨e, rfl, hinv.2.1, hinv.2.2.1, fun h => by rw [hinv.2.2.2 h, hend h, List.take_length]; simp only [ae.size]; omega⟩
    refine kc 5 [8, 5, 2, 1] 0 ?_
    obtain ⟨k2, m2, s2, l2, a2, hget⟩ := bQ (show j < args.length by omega)
    have hg1 := bC hget
    refine gc 4 ?_;refine o1 (bV bE bK ?_ (he := by exact (bY hget)));refine go 3 ?_;refine o1 (nT ?_);refine oc (T := fun _ => False) (bo tf rfl rfl rfl rfl (ih k2 m2 s2 l2 a2 (most - e) (by omega) (Cn hb4 hget) (by omega) (by omega)) (bd (an .nil)) (fun d hd => ?_)); obtain ⟨r, rfl, hr1, hr2, hr3⟩ := hd; refine ko 3 [9, 8, 5, 2, 1] 3 ?_;refine o1 (cw ?_);refine ko 4 [5, 8, 2, 1] 2 ?_;refine o1 (cw ?_);refine go 2 ?_;refine bi (j + 1, e + r) rfl ?_ mz
    exact ⟨⟨by omega, by omega, by omega, fun h => by rw [j0 hget]; omega⟩, show args.length - (j + 1) < args.length - j by omega⟩
theorem zA (k m : Int) (s : ByteArray) (ls : List aJ) (args : List ae) (k2 m2 : Int) (s2 : ByteArray) (ls2 : List aJ) (args2 : List ae) (hs1 : tS (.mk k m s ls args)) (hz : 20000 < (ae.mk k m s ls args).size) :
 cD Tryz.prog gl 106 [(ae.mk k m s ls args).d, (ae.mk k2 m2 s2 ls2 args2).d] fun d => ∃ b : Bool, d = .v (.bool b) ∧ b = true := by
 refine bD Tryz.func106 Tryz.ntmps106 ?_;refine gc 10 ?_;refine oc (T := fun _ => False) (bo tf rfl rfl rfl rfl (y4 _ k m s ls args 20000 (Nat.le_refl _) hs1 (by omega) (by omega)) (bd (an .nil)) (fun d hd => ?_)); obtain ⟨r, rfl, hr1, hr2, hr3⟩ := hd; refine ko 4 [5, 3, 2] 6 ?_;refine cJ (fun h2 => ?_) (fun h2 => ?_)
 ·omega
 refine kc 0 [] 7 ?_;refine ez ?_
 exact ⟨true, rfl, rfl⟩
theorem BG (es : List cq) (w : Bool) (k m : Int) (s : ByteArray) (ls : List aJ) (args : List ae) (k2 m2 : Int) (s2 : ByteArray) (ls2 : List aJ) (args2 : List ae) (hs1 : tS (.mk k m s ls args)) (hz : 20000 < (ae.mk k m s ls args).size) :
 ey Tryz.prog gl 64 [aP es w, aN] [.bZ 0 0, .d (ae.mk k m s ls args).d, .d (ae.mk k2 m2 s2 ls2 args2).d] fun out ob' => out = .ret (.d ib.d) ∧ ob' = [aP es true, aN] := by
 refine bS Tryz.func64 Tryz.ntmps64 2 ?_;refine gc 11 ?_;refine oc (T := fun _ => False) (bo Ih rfl rfl rfl rfl (zA k m s ls args k2 m2 s2 ls2 args2 hs1 hz) (bd (bd .nil)) (fun d hd => ?_)); obtain ⟨bm, rfl, hbm⟩ := hd; refine ko 4 [7, 6, 5, 4, 0] 4 ?_
 refine' oo (yt := 16) (d := 12) 4 ?a3 ?b3 ?_
 case a3 =>
  intro hc hK
  refine go 4 ?_
  exact hK [_, _, _, _] rfl rfl
 case b3 =>
  intro _ hK; refine go 4 ?_; exact hK [_, _, _, _] rfl
 refine go 2 ?_;refine cJ (fun h2 => ?_) (fun h2 => ?_)
 ·exfalso; (exfalso; rw [hbm] at h2; simp at h2)
 refine kc 8 [6] 3 ?_;refine oc (gR jD [.tmp 21] dB ?_);refine go 6 ?_;refine eo (ib.d) [0, 1] [aP es true, aN] ?_
 ·exact ⟨rfl, rfl⟩
theorem BF (es : List cq) (w : Bool) {B B' : Int} (hB : B ≤ 1125899906842624) (hB' : B' ≤ 1125899906842624) (k m : Int) (s : ByteArray) (ls : List aJ) (args : List ae) (k2 m2 : Int) (s2 : ByteArray) (ls2 : List aJ) (args2 : List ae) (hs1 : tS (.mk k m s ls args)) (hs2 : (ae.mk k2 m2 s2 ls2 args2).size ≤ 1099511627776) (hsh1 : (ae.mk k m s ls args).size ≤ 20000 → iU B (.mk k m s ls args)) (hsh2 : iU B' (.mk k2 m2 s2 ls2 args2)) :
 ey Tryz.prog gl 64 [aP es w, aN] [.bZ 0 0, .d (ae.mk k m s ls args).d, .d (ae.mk k2 m2 s2 ls2 args2).d] fun out ob' => ∃ (u : ae) (w' : Bool), out = .ret (.d u.d) ∧ ob' = [aP es w', aN] ∧
  ((w' = false ∧ w = false ∧ u = dK (.mk k m s ls args) (.mk k2 m2 s2 ls2 args2) ∧ u.size ≤ 20000) ∨ (w' = true ∧ u = ib)) := by
 by_cases h : (ae.mk k m s ls args).size ≤ 20000
 ·exact mH es w hB hB' k m s ls args k2 m2 s2 ls2 args2 (by omega) hs2 (hsh1 h) hsh2
 ·refine (BG es w k m s ls args k2 m2 s2 ls2 args2 hs1 (by omega)).mono fun o b hh => ?_
  exact ⟨ib, true, hh.1, hh.2, .inr ⟨rfl, rfl⟩⟩
variable {sg : Sg} {ps : List ByteArray}
theorem Aq (hL : ps.length ≤ 6) (hs : ∀ s n, sg s = some n → n ≤ 1000000) : ∀ (n : Nat) (k m : Int) (s : ByteArray) (ls : List aJ) (args : List ae) (k2 m2 : Int) (s2 : ByteArray) (ls2 : List aJ) (args2 : List ae) (c c2 : Int), (ae.mk k m s ls args).size ≤ n →
 Wt sg ps (.mk k m s ls args) c → Wt sg ps (.mk k2 m2 s2 ls2 args2) c2 →
 cD Tryz.prog gl 40 [(ae.mk k m s ls args).d, (ae.mk k2 m2 s2 ls2 args2).d, .v (.bool true)] fun d => ∃ b : Bool, d = .v (.bool b) := by
 intro n
 induction n with
 | zero => intro k m s ls args k2 m2 s2 ls2 args2 c c2 h; simp [ae.size] at h
 | succ n ih =>
  intro k m s ls args k2 m2 s2 ls2 args2 c c2 hn hw hw2
  have hlen := bf args
  have hlen2 := bf args2
  have hlenL := bR ls
  have hlenL2 := bR ls2
  obtain ⟨hb1, hb2, _, _⟩ := hw.tS hs
  simp only [ae.size] at hn
  refine bD Tryz.func40 Tryz.ntmps40 ?_;refine gc 16 ?_
  refine' oo (yt := 21) (d := 16) 5 ?a4 ?b4 ?_
  case a4 =>
   intro hc hK
   refine go 5 ?_; exact hK [_, _, _, _, _] rfl rfl
  case b4 =>
   intro _ hK; refine go 5 ?_; exact hK [_, _, _, _, _] rfl
  refine go 1 ?_
  refine' oo (yt := 28) (d := 23) 5 ?a5 ?b5 ?_
  case a5 =>
   intro hc hK
   refine go 5 ?_; exact hK [_, _, _, _, _] rfl rfl
  case b5 =>
   intro _ hK; refine go 5 ?_; exact hK [_, _, _, _, _] rfl
  refine go 1 ?_
  refine' oo (yt := 37) (d := 30) 7 ?a6 ?b6 ?_
  case a6 =>
   intro hc hK
   refine go 7 ?_
   exact hK [_, _, _, _, _, _, _] rfl rfl
  case b6 =>
   intro _ hK; refine go 7 ?_; exact hK [_, _, _, _, _, _, _] rfl
  refine go 1 ?_
  refine' oo (yt := 46) (d := 39) 7 ?a7 ?b7 ?_
  case a7 =>
   intro hc hK
   refine go 7 ?_
   exact hK [_, _, _, _, _, _, _] rfl rfl
  case b7 =>
   intro _ hK; refine go 7 ?_; exact hK [_, _, _, _, _, _, _] rfl
  refine go 2 ?_;refine cj (fun h1 => ?_) (fun h1 => ?_)
  ·refine kc 0 [] 7 ?_;refine ez ?_; exact ⟨_, rfl⟩
  refine kc 3 [4, 3, 2] 6 ?_;refine lP (ι := Nat) (fun i => [(7, int i)]) [4, 3, 2] (fun i => i ≤ ls.length) (fun i => ls.length - i) (0) rfl ?I11 ?M11 ?H11
  case I11 =>
   exact Nat.zero_le _
  case M11 =>
   exact mz
  case H11 =>
   rintro i hinv
   try dsimp only at hinv
   refine kc 0 [7, 4, 3, 2] 10 ?_;refine cJ (fun h4 => ?_) (fun h4 => ?_)
   ·refine kc 6 [4, 3, 2] 6 ?_;refine lP (ι := Nat) (fun j => [(9, int j)]) [4, 3, 2] (fun j => j ≤ args.length) (fun j => args.length - j) (0) rfl ?I12 ?M12 ?H12
    case I12 =>
     exact Nat.zero_le _
    case M12 =>
     exact mz
    case H12 =>
     rintro j hinv
     try dsimp only at hinv
     refine kc 0 [9, 4, 3, 2] 10 ?_;refine cJ (fun h12 => ?_) (fun h12 => ?_)
     ·refine kc 5 [] 6 ?_;refine ez ?_
      exact ⟨_, rfl⟩
     refine kc 5 [9, 4, 3, 2] 0 ?_
     obtain ⟨k', n', s', l', a', hget⟩ := bQ (show j < args.length by omega); obtain ⟨k2', n2', s2', l2', a2', hget2⟩ := bQ (show j < args2.length by omega)
     have hsz' := bC hget
     refine gz [0, 1, 2] mixed ?_;refine A1 3 rfl (bV bE bK ⟨_, rfl, ?_⟩ (he := by exact (bY hget)));refine ga [4, 5, 6, 7] ?_;refine A1 8 rfl (bV bE bK ⟨_, rfl, ?_⟩ (he := by exact (bY hget2)));refine ga [9, 10] ?_;refine A2 (T := fun _ => False) 11 rfl (bo F5 rfl rfl rfl rfl (ih k' n' s' l' a' k2' n2' s2' l2' a2' _ _ (by omega) (fQ.get hw.2.1 hget) (fQ.get hw2.2.1 hget2)) (bd (bd (an .nil))) (fun d hd => ?_)); obtain ⟨r2, rfl⟩ := hd
     refine ga [12] ?_;refine aQ ?_;refine ke 1 [10, 9, 4, 3, 2] 6 ?_;refine cj (fun h15 => ?_) (fun h15 => ?_)
     ·refine kc 0 [] 11 ?_;refine ez ?_; exact ⟨_, rfl⟩
     refine gc 5 ?_;refine o1 (cw ?_);refine go 2 ?_;refine bi (j + 1) rfl ?_ mz
     exact ⟨by omega, by omega⟩
   refine kc 5 [7, 4, 3, 2] 0 ?_
   obtain ⟨k', s', a', hget⟩ := cU (show i < ls.length by omega); obtain ⟨k2', s2', a2', hget2⟩ := cU (show i < ls2.length by omega); obtain ⟨x, hx, fx, ix⟩ := hw.1 _ (List.mem_of_getElem? hget)
   obtain ⟨y, hy, fy, iy⟩ := hw2.1 _ (List.mem_of_getElem? hget2)
   have hrs := yT (gl := gl) x y (nn hL ix iy) (nn hL iy ix)
   have hxS := iK x
   have hyS := iK y
   rw [← hx, ← hy] at hrs
   rw [← hx] at hxS
   rw [← hy] at hyS
   have hss := vE (gl := gl) _ k' s' a' k2' s2' a2' (Nat.le_refl _) hxS hyS
   refine gz [0, 1, 2] mixed ?_;refine A1 3 rfl (bV ee ei ⟨_, rfl, ?_⟩ (he := by exact (cZ hget)));refine ga [4, 5, 6, 7] ?_;refine A1 8 rfl (bV ee ei ⟨_, rfl, ?_⟩ (he := by exact (cZ hget2)));refine ga [9] ?_;refine A2 (T := fun _ => False) 10 rfl (bo F2 rfl rfl rfl rfl (hss) (bd (bd .nil)) (fun d hd => ?_)); obtain ⟨q1, rfl⟩ := hd; refine ga [11] ?_;refine aQ ?_;refine ke 2 [8, 7, 4, 3, 2] 5 ?_
   refine' oa (yt := 69) (d := 68) 1 ?a8 ?b8 ?_
   case a8 =>
    intro hc hK
    refine go 1 ?_; exact hK [_] rfl rfl
   case b8 =>
    intro _ hK; refine go 1 ?_; exact hK [_] rfl
   refine ko 2 [70, 8, 7, 4, 3, 2] 0 ?_;refine xc (ι := Bool) (fun r => [(8, .d (.v (.bool r)))]) [7, 4, 3, 2] (fun r => True) rfl ?A13 ?B13
   case A13 =>
    refine cJ (fun h7 => ?_) (fun h7 => ?_)
    ·refine gc 1 ?_;refine bi (q1) rfl ?_ mz
     trivial
    refine gz [0, 1, 2] mixed ?_;refine A1 3 rfl (bV ee ei ⟨_, rfl, ?_⟩ (he := by exact (cZ hget)));refine ga [4, 5, 6, 7] ?_;refine A1 8 rfl (bV ee ei ⟨_, rfl, ?_⟩ (he := by exact (cZ hget2)));refine ga [9] ?_;refine A2 (T := fun _ => False) 10 rfl (bo Kl rfl rfl rfl rfl (hrs) (bd (bd .nil)) (fun d hd => ?_)); obtain ⟨q2, rfl⟩ := hd; refine ga [11] ?_;refine aQ ?_;refine bi (q2) rfl ?_ mz
    trivial
   case B13 =>
    rintro r hcut
    try dsimp only at hcut
    refine kc 0 [8, 7, 4, 3, 2] 6 ?_;refine cj (fun h9 => ?_) (fun h9 => ?_)
    ·refine kc 0 [] 11 ?_;refine ez ?_; exact ⟨_, rfl⟩
    refine gc 5 ?_;refine o1 (cw ?_);refine go 2 ?_;refine bi (i + 1) rfl ?_ mz
    exact ⟨by omega, by omega⟩
theorem xG (hL : ps.length ≤ 6) (hs : ∀ s n, sg s = some n → n ≤ 1000000) (k m : Int) (s : ByteArray) (ls : List aJ) (args : List ae) (k2 m2 : Int) (s2 : ByteArray) (ls2 : List aJ) (args2 : List ae) {c c2 : Int}
 (hw : Wt sg ps (.mk k m s ls args) c) (hw2 : Wt sg ps (.mk k2 m2 s2 ls2 args2) c2) :
 cD Tryz.prog gl 50 [(ae.mk k m s ls args).d, (ae.mk k2 m2 s2 ls2 args2).d] fun d => ∃ b : Bool, d = .v (.bool b) := by
 refine bD Tryz.func50 Tryz.ntmps50 ?_;refine gc 11 ?_;refine oc (T := fun _ => False) (bo F5 rfl rfl rfl rfl (Aq hL hs _ k m s ls args k2 m2 s2 ls2 args2 c c2 (Nat.le_refl _) hw hw2) (bd (bd (an .nil))) (fun d hd => ?_)); obtain ⟨r2, rfl⟩ := hd; refine go 4 ?_;refine ez ?_; exact ⟨_, rfl⟩
end Go.Proofs.YtndbnldjidciiaaGreatDoor
