/-
  What is proved here: ReduceKnows: whatever script it is called on that is of bulk at most 1048576, it answers true, and the script reads as it did; on condition that the listed package variable starts as the text lays it, which the card ties.
-/
import Derived.Test.YtndbnldjidciiaaGreatDoorP4
import Derived.Test.YtndbnldjidciiaaGreatDoorTie
import Derived.Test.YtndbnldjidciiaaGreatDoorCards
import Derived.SevenTiedAt
import Derived.LaidHandle
import Derived.Deep.DeepHandedRow
import Derived.Deep.DeepWitnessRowRef
set_option linter.unusedSimpArgs false
set_option linter.unusedVariables false
set_option linter.unusedSectionVars false
namespace Go.Proofs.YtndbnldjidciiaaGreatDoor
open Go Go.Vd Go.RowKit
attribute [local irreducible] bl br de aj bI cY
variable {g gl : Nat → List D}
inductive HT (sg : Sg) (ps : List ByteArray) (S : Nat) : Nat → ae → Int → Prop
 | base {n t c} (h : Wt sg ps t c) (hz : t.size ≤ S) : HT sg ps S n t c
 | sort {n L c} (h : gQ ps L) : HT sg ps S n (.mk 1 0 .empty [L] []) c
 | pi {n A B c} (hA : Wt sg ps A c) (hz : A.size ≤ S) (hB : HT sg ps S n B (c + 1)) : HT sg ps S (n + 1) (.mk 5 0 .empty [] [A, B]) c
variable {sg : Sg} {ps : List ByteArray} {S n : Nat} {t : ae} {c : Int}
theorem HT.wt (h : HT sg ps S n t c) : Wt sg ps t c := by
 induction h with
 | base h => exact h
 | sort h => exact Wt.sort h
 | pi hA _ _ ih => exact Wt.bind (.inr rfl) hA ih
theorem HT.mono {S' : Nat} (h : HT sg ps S n t c) (hS : S ≤ S') : ∀ {n' : Nat}, n ≤ n' → HT sg ps S' n' t c := by
 induction h with
 | base h hz => intro n' _; exact .base h (by omega)
 | sort h => intro n' _; exact .sort h
 | pi hA hz _ ih =>
  intro n' hn
  obtain ⟨m, rfl⟩ : ∃ m, n' = m + 1 := ⟨n' - 1, by omega⟩
  exact .pi hA (by omega) (ih (by omega))
theorem HT.up {sg : Sg} {ps : List ByteArray} {S n : Nat} {t : ae} {c : Int} (h : HT sg ps S n t c) : ∀ {c' : Int}, c ≤ c' → HT sg ps S n t c' := by
 induction h with
 | base h hz => intro c' hc; exact .base (h.up hc) hz
 | sort h => intro c' _; exact .sort h
 | pi hA hz _ ih => intro c' hc; exact .pi (hA.up hc) hz (ih (by omega))
theorem HT.II {m : Int} {s : ByteArray} {ls : List aJ} {args : List ae} (h : HT sg ps S n (.mk 5 m s ls args) c) : ∃ A B, args = [A, B] ∧ m = 0 ∧ s = .empty ∧ ls = [] ∧ Wt sg ps A c ∧ A.size ≤ S ∧ HT sg ps S n B (c + 1) := by
 generalize ht : ae.mk 5 m s ls args = t at h
 cases h with
 | base h hz =>
  subst ht
  obtain ⟨A, B, rfl, rfl, rfl, rfl, hA, hB⟩ := h.two (.inr (.inr rfl))
  rw [if_neg (by decide)] at hB
  simp only [ae.size, aS, ai] at hz
  exact ⟨A, B, rfl, rfl, rfl, rfl, hA, by omega, .base hB (by omega)⟩
 | sort h => cases ht
 | pi hA hz hB => cases ht; exact ⟨_, _, rfl, rfl, rfl, rfl, hA, hz, hB.mono (Nat.le_refl _) (by omega)⟩
theorem xD (k m : Int) (s : ByteArray) (ls : List aJ) (args : List ae) (hk : k ≠ 3) :
 cD Tryz.prog gl 65 [(ae.mk k m s ls args).d] (· = .cb [(ae.mk k m s ls args).d, .sl 5 (ba [])]) := by
 refine bD Tryz.func65 Tryz.ntmps65 ?_;refine kc 14 [4, 2, 1] 0 ?_;refine lp (ι := Unit) (fun _ => []) (fun _ => [tO k m s ls args, zO]) [4, 2, 1] (fun _ => True) (fun _ => 0) (()) ([0, 1]) rfl ?I2 ?M2 ?H2
 case I2 =>
  trivial
 case M2 =>
  exact mz
 case H2 =>
  rintro _ hinv
  try dsimp only at hinv
  refine kc 0 [4, 2, 1] 8 ?_;refine cj (fun h2 => ?_) (fun h2 => ?_)
  ·contradiction
  refine gc 14 ?_;refine o1 (LV bE ?_);refine o1 (nT ?_);refine ko 4 [6, 5, 4, 2, 1] 0 ?_;refine lp (ι := Unit) (fun _ => []) (fun _ => [tO k m s ls args, zO]) [6, 5, 4, 2, 1] (fun _ => True) (fun _ => 0) (()) ([0, 1]) rfl ?I3 ?M3 ?H3
  case I3 =>
   trivial
  case M3 =>
   exact mz
  case H3 =>
   rintro _ hinv
   try dsimp only at hinv
   refine kc 0 [6, 5, 4, 2, 1] 7 ?_;refine cj (fun h7 => ?_) (fun h7 => ?_)
   ·contradiction
   refine kc 5 [5, 2, 1] 9 ?_;refine ed (.cb [(ae.mk k m s ls args).d, .sl 5 (ba [])]) ?_
   rfl
theorem tK (es : List cq) (w t : Bool) (k m : Int) (s : ByteArray) (ls : List aJ) (args : List ae) (hk : k = 1 ∨ k = 5) (d most pr : Int) :
 ey Tryz.prog gl 51 [aP es w, aN, gZ d most t pr] [.bZ 0 0, .d (ae.mk k m s ls args).d, .bZ 2 0] fun out ob' => out = .ret (.d (ae.mk k m s ls args).d) ∧ ob' = [aP es w, aN, gZ d most t pr] := by
 have hsp := xD (gl := gl) k m s ls args (by omega)
 refine bS Tryz.func51 Tryz.ntmps51 3 ?_;refine kc 8 [6, 4, 0, 2] 0 ?_;refine lp (ι := Unit) (fun _ => []) (fun _ => [aP es w, aN, gZ d most t pr, tO k m s ls args, zO]) [6, 4, 0, 2] (fun _ => True) (fun _ => 0) (()) ([0, 1, 2, 3, 4]) rfl ?I4 ?M4 ?H4
 case I4 =>
  trivial
 case M4 =>
  exact mz
 case H4 =>
  rintro _ hinv
  try dsimp only at hinv
  refine kc 0 [6, 4, 0, 2] 9 ?_
  refine' oa (yt := 27) (d := 22) 5 ?a1 ?b1 ?_
  case a1 =>
   intro hc hK
   refine go 5 ?_; exact hK [_, _, _, _, _] rfl rfl
  case b1 =>
   intro _ hK; refine go 5 ?_; exact hK [_, _, _, _, _] rfl
  refine go 2 ?_;refine cJ (fun h1 => ?_) (fun h1 => ?_)
  ·refine kc 5 [6, 4] 7 ?_;refine eo ((ae.mk k m s ls args).d) [0, 1, 2] [aP es w, aN, gZ d most t pr] ?_
   ·exact ⟨rfl, rfl⟩
  refine kc 3 [6, 4, 0, 2] 3 ?_;refine oc (cv vX rfl rfl (hsp) (bd .nil) ?_);refine ko 9 [8, 7, 6, 4, 0, 2] 13 ?_;refine cj (fun h4 => ?_) (fun h4 => ?_)
  ·omega
  refine gc 6 ?_;refine cj (fun h11 => ?_) (fun h11 => ?_)
  ·omega
  refine kc 0 [35, 8, 7, 6, 4, 0, 2] 6 ?_;refine cj (fun h16 => ?_) (fun h16 => ?_)
  ·omega
  refine kc 3 [6, 4] 11 ?_;refine eo ((ae.mk k m s ls args).d) [0, 1, 2] [aP es w, aN, gZ d most t pr] ?_
  ·exact ⟨rfl, rfl⟩
end Go.Proofs.YtndbnldjidciiaaGreatDoor
namespace Go.Proofs.YtndbnldjidciiaaGreatDoor
open Go Go.Vd Go.RowKit
attribute [local irreducible] bl br de aj bI cY
variable {g gl : Nat → List D}
def Gc (es : List cq) (w : Bool) (Q : ae → Prop) (out : Out) (ob' : List Ob) : Prop :=
 ∃ (u : ae) (d' code : Int) (w' : Bool), out = .ret (.d (.cb [u.d, .v (.int .i64 d'), .v (.int .i64 code)])) ∧ ob' = [aP es w', aN] ∧ (code = 0 ∨ code = 14) ∧ (w' = false → w = false) ∧ (code = 0 → w' = false ∧ Q u)
theorem sk (es : List cq) (w : Bool) (k m : Int) (s : ByteArray) (ls : List aJ) (args : List ae) (hk : k = 1 ∨ k = 5) (most : Int) :
 ey Tryz.prog gl 32 [aP es w, aN] [.bZ 0 0, .d (ae.mk k m s ls args).d, .d (.v (.int .i64 most))] (Gc es w fun u => u = .mk k m s ls args) := by
 have hwh := tK (gl := gl) es w false k m s ls args hk 0 most 0
 refine bS Tryz.func32 Tryz.ntmps32 2 ?_;refine kc 16 [9, 6, 4, 0] 5 ?_;refine oc (ck F4 rfl rfl (hwh) [0, 1, 4] rfl (bh (cu (bh .nil))) (an (bd (an .nil))) ?_);refine ko 5 [10, 9, 6, 0] 7 ?_
 refine' oo (yt := 26) (d := 22) 4 ?a1 ?b1 ?_
 case a1 =>
  intro hc hK
  refine go 4 ?_
  exact hK [_, _, _, _] rfl rfl
 case b1 =>
  intro _ hK; refine go 4 ?_; exact hK [_, _, _, _] rfl
 refine go 2 ?_;refine cj (fun h3 => ?_) (fun h3 => ?_)
 ·refine kc 0 [6] 10 ?_;refine eo (.cb [aI.d, .v (.int .i64 0), .v (.int .i64 14)]) [0, 1] [aP es w, aN] ?_
  ·exact ⟨aI, 0, 14, w, rfl, rfl, .inr rfl, fun h => h, fun h => by omega⟩
 refine kc 3 [10, 9, 6] 0 ?_;refine gz [0, 1, 2, 3, 4] mixed ?_;refine A2 5 rfl (eD bM ?_);refine ga [6, 7] ?_;refine aQ ?_;refine ge 2 ?_;refine eo (.cb [(ae.mk k m s ls args).d, .v (.int .i64 0), .v (.int .i64 0)]) [0, 1] [aP es w, aN] ?_
 ·have hok : w = false := (by cases w <;> simp_all)
  exact ⟨_, 0, 0, w, rfl, rfl, .inl rfl, fun h => h, fun _ => ⟨hok, rfl⟩⟩
variable {es : List cq} {ps : List ByteArray} {most S : Nat}
theorem sn (hE : cP es) {c : Int} (hc : 0 ≤ c) {n : Nat} (hm : most ≤ 1000000) (w : Bool) (k m : Int) (s : ByteArray) (ls : List aJ) (args : List ae) (hz : c + S + 30000 * most ≤ 1000000000000) (hw : HT (eB es) ps S n (.mk k m s ls args) c) :
 ey Tryz.prog gl 32 [aP es w, aN] [.bZ 0 0, .d (ae.mk k m s ls args).d, .d (.v (.int .i64 most))] (Gc es w fun u => HT (eB es) ps (S + 30000 * most) n u c) := by
 have hm2 := hw.mono (Nat.le_add_right S (30000 * most)) (Nat.le_refl _)
 generalize ht : ae.mk k m s ls args = t at hw
 cases hw with
 | base h hs =>
  subst ht
  refine (AU hE hc hm w k m s ls args (by omega) h).mono fun o b hh => ?_
  obtain ⟨u, d', code, w', rfl, rfl, h1, h2, h3, h4⟩ := hh
  refine ⟨u, d', code, w', rfl, rfl, h2, fun e => (h4 e).1, fun e => ⟨h3 e, ?_⟩⟩
  rcases (h4 (h3 e)).2 with ⟨e1, _⟩ | ⟨_, q, e2⟩
  ·omega
  ·obtain ⟨g1, g2, g3, g4⟩ := Ar hE hc q e2 (by omega) h
   exact .base g1 (by omega)
 | sort h =>
  cases ht
  refine (sk es w 1 0 .empty _ [] (.inl rfl) most).mono fun o b hh => ?_
  obtain ⟨u, d', code, w', rfl, rfl, h2, h3, h4⟩ := hh
  exact ⟨u, d', code, w', rfl, rfl, h2, h3, fun e => ⟨(h4 e).1, by rw [(h4 e).2]; exact hm2⟩⟩
 | pi hA hs hB =>
  cases ht
  refine (sk es w 5 0 .empty [] _ (.inr rfl) most).mono fun o b hh => ?_
  obtain ⟨u, d', code, w', rfl, rfl, h2, h3, h4⟩ := hh
  exact ⟨u, d', code, w', rfl, rfl, h2, h3, fun e => ⟨(h4 e).1, by rw [(h4 e).2]; exact hm2⟩⟩
def Jy (es : List cq) (most d : Nat) (pr : Int) (w tI : Bool) (Q : ae → Prop) (out : Out) (ob' : List Ob) : Prop :=
 ∃ (u : ae) (d' : Nat) (t' w' : Bool) (p' : Int), out = .ret (.d u.d) ∧ ob' = [aP es w', aN, gZ d' most t' p'] ∧ d ≤ d' ∧ d' ≤ most ∧ pr < p' ∧ p' ≤ pB pr ∧ (w' = false → w = false ∧ (t' = true ∨ (t' = false ∧ tI = false ∧ Q u)))
def NQ (gl : Nat → List D) (es : List cq) (most : Nat) (t : ae) (Q : ae → Prop) : Prop :=
 ∀ (d : Nat) (pr : Int) (w tI : Bool), d ≤ most → 0 ≤ pr → pr ≤ 1000000000000000000 →
  ey Tryz.prog gl 37 [aP es w, aN, gZ d most tI pr] [.bZ 0 0, .d t.d, .bZ 2 0] (Jy es most d pr w tI Q)
set_option maxHeartbeats 800000 in
theorem uu (es : List cq) (most : Nat) (k m : Int) (s : ByteArray) (ls : List aJ) (args : List ae) (hk : k = 1 ∨ k = 5) (hl : args.length ≤ 1000000) (Q : Nat → ae → Prop) (hQ : ∀ (i : Nat) x, args[i]? = some x → NQ gl es most x (Q i)) :
 NQ gl es most (.mk k m s ls args) fun u => ∃ ys, u = .mk k m s ls ys ∧ ys.length = args.length ∧ ∀ (i : Nat) y, ys[i]? = some y → Q i y := by
 intro d pr w tI hdm hp0 hpm
 have hwh := tK (gl := gl) es w tI k m s ls args hk d most pr
 have hpb : pr + 1 ≤ pB pr := by unfold pB; split <;> omega
 have hal := bf args
 refine bS Tryz.func37 Tryz.ntmps37 3 ?_;refine gc 11 ?_;refine oc (ck F4 rfl rfl (hwh) [0, 1, 2] rfl (bh (cu (bh .nil))) (an (bd (an .nil))) ?_);refine ko 3 [6, 4, 0, 2] 6 ?_;refine o1 (cw ?_);refine ko 5 [6, 4, 0, 2] 8 ?_
 refine' oo (yt := 33) (d := 28) 5 ?a2 ?b2 ?_
 case a2 =>
  intro hc hK
  refine go 5 ?_; exact hK [_, _, _, _, _] rfl rfl
 case b2 =>
  intro _ hK; refine go 5 ?_; exact hK [_, _, _, _, _] rfl
 refine ko 6 [6, 4, 0, 2] 7 ?_
 refine' oo (yt := 45) (d := 41) 4 ?a3 ?b3 ?_
 case a3 =>
  intro hc hK
  refine go 4 ?_
  exact hK [_, _, _, _] rfl rfl
 case b3 =>
  intro _ hK; refine go 4 ?_; exact hK [_, _, _, _] rfl
 refine go 2 ?_;refine cj (fun h4 => ?_) (fun h4 => ?_)
 ·refine kc 0 [6, 4] 8 ?_;refine eo ((ae.mk k m s ls args).d) [0, 1, 2] [aP es (w || decide (20000 < pr + 1)), aN, gZ d most tI (pr + 1)] ?_
  ·refine ⟨.mk k m s ls args, d, tI, _, pr + 1, rfl, rfl, Nat.le_refl _, hdm, by omega, hpb, fun hw => ?_⟩
   simp only [Bool.or_eq_false_iff, decide_eq_false_iff_not, Int.not_lt] at hw
   refine ⟨hw.1, .inl ?_⟩
   rcases h4 with h | h | h
   ·exact h
   ·rw [hw.1] at h; cases h
   ·omega
 refine kc 3 [6, 4, 0, 2] 7 ?_;refine cj (fun h6 => ?_) (fun h6 => ?_)
 ·omega
 refine gc 9 ?_
 have hok : tI = false ∧ w = false ∧ pr + 1 ≤ 20000 := (by cases tI <;> cases w <;> simp_all)
 obtain ⟨rfl, rfl, hpr⟩ := hok; refine kc 5 [11, 10, 6, 4, 0, 2] 0 ?_;refine bq 39 5 rfl ?_;refine lp (ι := Nat × Bool × Bool × Nat × Int × List ae) (fun ⟨i, w3, t3, d3, p3, ys⟩ => [(11, int i), (10, .own 5 5 (ba ys))]) (fun ⟨i, w3, t3, d3, p3, ys⟩ => [aP es w3, aN, gZ d3 most t3 p3, tO k m s ls args, zO, tR]) [6, 4, 0, 2] (fun ⟨i, w3, t3, d3, p3, ys⟩ => i ≤ args.length ∧ ys.length = i ∧ d ≤ d3 ∧ d3 ≤ most ∧ pr + 1 ≤ p3 ∧ p3 ≤ 20001 + (20000 - pr) * 1000000000001 + i ∧ (pr + 1 < p3 ∨ i = 0) ∧ (w3 = false → t3 = true ∨ (t3 = false ∧ ∀ (j : Nat) y, ys[j]? = some y → Q j y))) (fun ⟨i, w3, t3, d3, p3, ys⟩ => args.length - i) ((0, (false || decide (20000 < pr + 1)), false, d, pr + 1, [])) ([0, 1, 2, 3, 4, 5]) rfl ?I4 ?M4 ?H4
 case I4 =>
  exact ⟨Nat.zero_le _, rfl, Nat.le_refl _, hdm, Int.le_refl _, by omega, .inr rfl, fun _ => .inr ⟨rfl, fun j y h => by cases h⟩⟩
 case M4 =>
  refine mo ?_ (aH (eh rfl (by exact Fit.nil rfl) (aH (aH (aH (aH dF))))))
  repeat (first | exact cW | refine bh ?_ | refine cu ?_ | refine p6 ?_)
 case H4 =>
  rintro ⟨i, w3, t3, d3, p3, ys⟩ hinv
  try dsimp only at hinv
  refine kc 0 [11, 10, 6, 4, 0, 2] 10 ?_;refine cJ (fun h15 => ?_) (fun h15 => ?_)
  ·refine kc 6 [10, 6, 4] 0 ?_
   have hws := jr (gl := gl) k m s ls args ys
   refine gc 3 ?_;refine oc (cv D9 rfl rfl (hws) (bd (bd .nil)) ?_);refine go 4 ?_;refine eo ((ae.mk k m s ls ys).d) [0, 1, 2] [aP es w3, aN, gZ d3 most t3 p3] ?_
   ·obtain ⟨i1, i2, i3, i4, i5, i6, i7, i8⟩ := hinv
    refine ⟨.mk k m s ls ys, d3, t3, w3, p3, rfl, rfl, i3, i4, by omega, by unfold pB; rw [if_pos (by omega)]; omega, fun hw => ⟨rfl, ?_⟩⟩
    rcases i8 hw with g1 | ⟨g1, g2⟩
    ·exact .inl g1
    ·exact .inr ⟨g1, rfl, ys, rfl, by omega, g2⟩
  refine kc 4 [11, 10, 6, 4, 0, 2] 0 ?_
  obtain ⟨kx, mx, sx, lx, ax, hget⟩ := bQ (show i < args.length by omega)
  have hi2 := hinv.2.1
  have hnm := hQ i _ hget d3 p3 w3 t3 hinv.2.2.2.1 (by have := hinv.2.2.2.2.1; omega) (by have := hinv.2.2.2.2.2.1; omega)
  have hytl := bf ys
  refine gc 6 ?_;refine o1 (bV bE bK ?_ (he := by exact (bY hget)));refine go 2 ?_;refine oc (ay F6 rfl rfl rfl rfl (hnm) [0, 1, 2] (bh (cu (bh .nil))) rfl rfl rfl rfl (an (bd (an .nil))) (fun s ob' hq => ?_) (fun s ob' hq => ?_))
  rotate_left
  ·obtain ⟨_, _, _, _, _, hq1, _⟩ := hq; cases hq1
  obtain ⟨⟨kY, mY, sY, lY, aY⟩, d4, t4, w4, p4, hq1, rfl, hq3, hq4, hq5, hq6, hq7⟩ := hq; cases hq1
  have hnx : ba ys ++ [[.v (.int .i64 kY), .v (.int .i64 mY), .v (.string sY), .sl 3 (bF lY), .sl 5 (ba aY)]] = ba (ys ++ [.mk kY mY sY lY aY]) := (by rw [er]; rfl)
  refine ⟨_, _, _, _, _, rfl, rfl, rfl, rfl, rfl, ?_⟩;refine oc (gR fA [.tmp 87] bM ?_);refine oc (nU fA ?_);refine ko 4 [10, 11, 6, 4, 0, 2] 2 ?_;refine o1 (cw ?_);refine go 2 ?_
  rw [hnx]
  refine bk (i + 1, w4, t4, d4, p4, ys ++ [.mk kY mY sY lY aY]) rfl ?_ [0, 1, 2, 3, 4, 5] mz
  ·obtain ⟨i1, i2, i3, i4, i5, i6, i7, i8⟩ := hinv
   refine ⟨⟨by omega, by rw [List.length_append, i2]; rfl, by omega, hq4, by omega, ?_, .inl (by omega), fun hw => ?_⟩, show args.length - (i + 1) < args.length - i by omega⟩
   ·unfold pB at hq6
    split at hq6 <;> omega
   ·obtain ⟨e1, e2⟩ := hq7 hw
    rcases e2 with e2 | ⟨e2, e3, e4⟩
    ·exact .inl e2
    ·rcases i8 e1 with f1 | ⟨f1, f2⟩
     ·rw [f1] at e3; cases e3
     ·refine .inr ⟨e2, fun j y hy => ?_⟩
      rcases Nat.lt_or_ge j i with hji | hji
      ·rw [List.getElem?_append_left (by omega)] at hy; exact f2 j y hy
      ·rw [List.getElem?_append_right (by omega)] at hy
       have hj : j = i := by
        have h3 := (List.getElem?_eq_some_iff.1 hy).1
        simp only [List.length_cons, List.length_nil] at h3
        omega
       subst hj
       rw [i2, Nat.sub_self] at hy
       cases hy; exact e4
theorem uv (hE : cP es) (hm : most ≤ 1000000) : ∀ (n : Nat) (t : ae) (c : Int), HT (eB es) ps S n t c → 0 ≤ c → c + n + S + 30000 * most ≤ 1000000000000 → NQ gl es most t fun u => HT (eB es) ps (S + 30000 * most) n u c := by
 have hbase : ∀ (t : ae) (c : Int), Wt (eB es) ps t c → t.size ≤ S → 0 ≤ c → c + S + 30000 * most ≤ 1000000000000 → NQ gl es most t fun u => Wt (eB es) ps u c ∧ u.size ≤ S + 30000 * most := by
  intro t c h hs hc hz d pr w tI hdm hp0 hpm
  obtain ⟨k, m, s, ls, args, rfl⟩ := ae.case t
  refine (Dv hE (ps := ps) hm ((ae.mk k m s ls args).size + 30000 * (most - d) + 1) k m s ls args c d pr w tI hdm hc (by omega) (by omega) h hp0 hpm).mono fun o b hh => ?_
  obtain ⟨u, d', t', w', p', rfl, rfl, h1, h2, h3, h4, h5⟩ := hh
  refine ⟨u, d', t', w', p', rfl, rfl, h1, h2, h3, h4, fun e => ⟨(h5 e).1, ?_⟩⟩
  rcases (h5 e).2 with ⟨e1, _⟩ | ⟨e1, e2, e3⟩
  ·exact .inl e1
  ·obtain ⟨g1, _, _, _, _, g2⟩ := KJ hE _ e3 hdm hc h
   exact .inr ⟨e1, e2, g1, by omega⟩
 have hweak : ∀ {t : ae} {Q Q' : ae → Prop}, (∀ u, Q u → Q' u) → NQ gl es most t Q → NQ gl es most t Q' := by
  intro t Q Q' hi h d pr w tI hdm hp0 hpm
  refine (h d pr w tI hdm hp0 hpm).mono fun o b hh => ?_
  obtain ⟨u, d', t', w', p', r1, r2, h1, h2, h3, h4, h5⟩ := hh
  exact ⟨u, d', t', w', p', r1, r2, h1, h2, h3, h4, fun e => ⟨(h5 e).1, (h5 e).2.imp id fun f => ⟨f.1, f.2.1, hi u f.2.2⟩⟩⟩
 intro n t c h
 induction h with
 | base h hs => intro hc hz; exact hweak (fun u hu => .base hu.1 hu.2) (hbase _ _ h hs hc (by omega))
 | sort h =>
  intro hc hz d pr w tI hdm hp0 hpm
  refine (uu es most 1 0 .empty [_] [] (.inl rfl) (by simp) (fun _ _ => True) (fun i x hx => by cases hx) d pr w tI hdm hp0 hpm).mono fun o b hh => ?_
  obtain ⟨u, d', t', w', p', rfl, rfl, h1, h2, h3, h4, h5⟩ := hh
  refine ⟨u, d', t', w', p', rfl, rfl, h1, h2, h3, h4, fun e => ⟨(h5 e).1, ?_⟩⟩
  rcases (h5 e).2 with e1 | ⟨e1, e2, ys, rfl, e3, e4⟩
  ·exact .inl e1
  ·obtain rfl := List.eq_nil_of_length_eq_zero e3
   exact .inr ⟨e1, e2, .sort h⟩
 | @pi n A B c hA hs hB ih =>
  intro hc hz d pr w tI hdm hp0 hpm
  refine (uu es most 5 0 .empty [] [A, B] (.inr rfl) (by simp) (fun i y => (i = 0 → Wt (eB es) ps y c ∧ y.size ≤ S + 30000 * most) ∧ (i = 1 → HT (eB es) ps (S + 30000 * most) n y (c + 1))) (fun i x hx => ?_) d pr w tI hdm hp0 hpm).mono fun o b hh => ?_
  ·match i, hx with
   | 0, hx => cases hx; exact hweak (fun u hu => ⟨fun _ => hu, fun h => by omega⟩) (hbase _ _ hA hs hc (by omega))
   | 1, hx => cases hx; exact hweak (fun u hu => ⟨fun h => by omega, fun _ => hu⟩) (ih (by omega) (by omega))
  ·obtain ⟨u, d', t', w', p', rfl, rfl, h1, h2, h3, h4, h5⟩ := hh
   refine ⟨u, d', t', w', p', rfl, rfl, h1, h2, h3, h4, fun e => ⟨(h5 e).1, ?_⟩⟩
   rcases (h5 e).2 with e1 | ⟨e1, e2, ys, rfl, e3, e4⟩
   ·exact .inl e1
   ·match ys, e3, e4 with
    | [y, z], _, e4 =>
     have g1 := (e4 0 y rfl).1 rfl
     have g2 := (e4 1 z rfl).2 rfl
     exact .inr ⟨e1, e2, .pi g1.1 g1.2 g2⟩
end Go.Proofs.YtndbnldjidciiaaGreatDoor
namespace Go.Proofs.YtndbnldjidciiaaGreatDoor
open Go Go.Vd Go.RowKit
attribute [local irreducible] bl br de aj bI cY
variable {g gl : Nat → List D}
theorem wc {P : Program} {f : FuncId} {args : List D} {Q Q' : D → Prop} (h : cD P gl f args Q) (hi : ∀ d, Q d → Q' d) : cD P gl f args Q' :=
 ey.mono h fun o b hh => ⟨hh.1, hh.2.elim fun d hd => ⟨d, hd.1, hi d hd.2⟩⟩
def SQ (gl : Nat → List D) (t : ae) (Q : ae → Prop) : Prop :=
 cD Tryz.prog gl 49 [t.d] fun d => ∃ u : ae, d = u.d ∧ Q u
theorem rZ (k m : Int) (s : ByteArray) (ls : List aJ) (args : List ae) (hk : k = 1 ∨ k = 5) (hl : args.length ≤ 1000000) (Q : Nat → ae → Prop) (hQ : ∀ (i : Nat) x, args[i]? = some x → SQ gl x (Q i)) :
 SQ gl (.mk k m s ls args) fun u => ∃ ys, u = .mk k m s ls ys ∧ ys.length = args.length ∧ ∀ (i : Nat) y, ys[i]? = some y → Q i y := by
 have hal := bf args
 unfold SQ
 refine bD Tryz.func49 Tryz.ntmps49 ?_;refine kc 18 [4, 3, 2, 1] 0 ?_;refine bq 39 5 rfl ?_;refine lp (ι := Nat × List ae) (fun ⟨i, ys⟩ => [(4, int i), (3, .own 2 5 (ba ys))]) (fun ⟨i, ys⟩ => [tO k m s ls args, zO, tR]) [2, 1] (fun ⟨i, ys⟩ => i ≤ args.length ∧ ys.length = i ∧ ∀ (j : Nat) y, ys[j]? = some y → Q j y) (fun ⟨i, ys⟩ => args.length - i) ((0, [])) ([0, 1, 2]) rfl ?I2 ?M2 ?H2
 case I2 =>
  exact ⟨Nat.zero_le _, rfl, fun j y h => by cases h⟩
 case M2 =>
  refine mo ?_ (aH (eh rfl (by exact Fit.nil rfl) (aH (aH dF))))
  repeat (first | exact cW | refine bh ?_ | refine p6 ?_)
 case H2 =>
  rintro ⟨i, ys⟩ hinv
  try dsimp only at hinv
  refine kc 0 [4, 3, 2, 1] 10 ?_;refine cj (fun h3 => ?_) (fun h3 => ?_)
  ·refine kc 4 [4, 3, 2, 1] 0 ?_; obtain ⟨kx, mx, sx, lx, ax, hget⟩ := bQ (show i < args.length by omega)
   have hnm := hQ i _ hget
   unfold SQ at hnm
   have hytl := bf ys
   have hyl := hinv.2.1
   refine gc 5 ?_;refine o1 (bV bE bK ?_ (he := by exact (bY hget)));refine go 1 ?_;refine oc (T := fun _ => False) (bo Hx rfl rfl rfl rfl (hnm) (bd .nil) (fun d hd => ?_)); obtain ⟨⟨kY, mY, sY, lY, aY⟩, rfl, hYw⟩ := hd
   have hnx : ba ys ++ [[.v (.int .i64 kY), .v (.int .i64 mY), .v (.string sY), .sl 3 (bF lY), .sl 5 (ba aY)]] = ba (ys ++ [.mk kY mY sY lY aY]) := (by rw [er]; rfl)
   refine oc (gR fA [.tmp 21] bM ?_);refine oc (nU fA ?_);refine ko 4 [3, 4, 2, 1] 2 ?_;refine o1 (cw ?_);refine go 2 ?_
   rw [hnx]
   refine bk (i + 1, ys ++ [.mk kY mY sY lY aY]) rfl ?_ [0, 1, 2] mz
   ·refine ⟨⟨by omega, by rw [List.length_append, hinv.2.1]; rfl, fun j y hy => ?_⟩, show args.length - (i + 1) < args.length - i by omega⟩
    have i2 := hinv.2.1
    rcases Nat.lt_or_ge j i with hji | hji
    ·rw [List.getElem?_append_left (by omega)] at hy; exact hinv.2.2 j y hy
    ·rw [List.getElem?_append_right (by omega)] at hy
     have hj : j = i := by
      have h3 := (List.getElem?_eq_some_iff.1 hy).1
      simp only [List.length_cons, List.length_nil] at h3
      omega
     subst hj
     rw [i2, Nat.sub_self] at hy
     cases hy; exact hYw
  refine kc 6 [3, 2, 1] 0 ?_
  have hi : i = args.length := (by omega)
  have hyl := hinv.2.1
  have hy4 := hinv.2.2
  have hws := jr (gl := gl) k m s ls args ys
  obtain ⟨kb, mb, sb, lb, ab, hb1⟩ : ∃ kb mb sb lb ab, k = 4 → ys[1]? = some (.mk kb mb sb lb ab) := ⟨0, 0, .empty, [], [], fun e => by omega⟩
  have hk2 : k ∈ [(1 : Int), 5] := (by simpa using hk)
  clear hk
  refine gc 3 ?_;refine oc (cv D9 rfl rfl (hws) (bd (bd .nil)) ?_);refine ko 4 [2, 1] 6 ?_
  refine' oo (yt := 36) (d := 30) 6 ?a1 ?b1 ?_
  case a1 =>
   intro hc hK
   refine go 2 ?_;refine gy ?_;refine o1 (bV bE bK ?_ (he := by exact (bY (hb1 hc))));refine go 3 ?_; exact hK [_, _, _, _, _, _] rfl rfl
  case b1 =>
   intro _ hK; refine go 6 ?_
   exact hK [_, _, _, _, _, _] rfl
  refine go 2 ?_;refine cJ (fun h7 => ?_) (fun h7 => ?_)
  ·exfalso; (exfalso; simp at hk2; omega)
  refine kc 0 [2, 1] 8 ?_;refine ed ((ae.mk k m s ls ys).d) ?_; exact ⟨_, rfl, ys, rfl, by omega, hy4⟩
theorem sc {sg : Sg} {ps : List ByteArray} {S : Nat} (hS : S ≤ 1000000000000) : ∀ (n : Nat) (t : ae) (c : Int), HT sg ps S n t c → 0 ≤ c → c + n + S ≤ 2000000000000 → SQ gl t fun u => HT sg ps S n u (c + S) := by
 have hbase : ∀ (t : ae) (c : Int), Wt sg ps t c → t.size ≤ S → 0 ≤ c → c + S ≤ 2000000000000 → SQ gl t fun u => Wt sg ps u (c + S) ∧ u.size ≤ S := by
  intro t c h hs hc hz
  obtain ⟨k, m, s, ls, args, rfl⟩ := ae.case t
  refine wc (AK (gl := gl) _ k m s ls args c (Nat.le_refl _) (by omega) hc (by omega) h) fun d hd => ?_
  obtain ⟨u, rfl, h1, h2⟩ := hd
  exact ⟨u, rfl, h1.up (by omega), by omega⟩
 have hweak : ∀ {t : ae} {Q Q' : ae → Prop}, (∀ u, Q u → Q' u) → SQ gl t Q → SQ gl t Q' := by
  intro t Q Q' hi h
  refine wc h fun d hd => ?_
  obtain ⟨u, rfl, h1⟩ := hd
  exact ⟨u, rfl, hi u h1⟩
 intro n t c h
 induction h with
 | base h hs => intro hc hz; exact hweak (fun u hu => .base hu.1 hu.2) (hbase _ _ h hs hc (by omega))
 | sort h =>
  intro hc hz
  refine hweak (fun u hu => ?_) (rZ 1 0 .empty [_] [] (.inl rfl) (by simp) (fun _ _ => True) (fun i x hx => by cases hx))
  obtain ⟨ys, rfl, e3, _⟩ := hu
  obtain rfl := List.eq_nil_of_length_eq_zero e3
  exact .sort h
 | @pi n A B c hA hs hB ih =>
  intro hc hz
  refine hweak (fun u hu => ?_) (rZ 5 0 .empty [] [A, B] (.inr rfl) (by simp) (fun i y => (i = 0 → Wt sg ps y (c + S) ∧ y.size ≤ S) ∧ (i = 1 → HT sg ps S n y (c + 1 + S))) (fun i x hx => ?_))
  ·obtain ⟨ys, rfl, e3, e4⟩ := hu
   match ys, e3, e4 with
   | [y, z], _, e4 =>
    have g1 := (e4 0 y rfl).1 rfl
    have g2 := (e4 1 z rfl).2 rfl
    exact .pi g1.1 g1.2 (g2.up (by omega))
  ·match i, hx with
   | 0, hx => cases hx; exact hweak (fun u hu => ⟨fun _ => hu, fun h => by omega⟩) (hbase _ _ hA hs hc (by omega))
   | 1, hx => cases hx; exact hweak (fun u hu => ⟨fun h => by omega, fun _ => hu⟩) (ih (by omega) (by omega))
end Go.Proofs.YtndbnldjidciiaaGreatDoor
namespace Go.Proofs.YtndbnldjidciiaaGreatDoor
open Go Go.Vd Go.RowKit
attribute [local irreducible] bl br de aj bI cY
variable {g gl : Nat → List D}
set_option maxHeartbeats 800000 in
theorem qq {es : List cq} (hE : cP es) {ps : List ByteArray} (hL : ps.length ≤ 6) {c : Int} (hc : 0 ≤ c) {most S n n2 : Nat} (hm : most ≤ 1000000) (w : Bool) (k m : Int) (s : ByteArray) (ls : List aJ) (args : List ae) (k2 m2 : Int) (s2 : ByteArray) (ls2 : List aJ) (args2 : List ae) (hz : c + n + S + 30000 * most ≤ 1000000000000) (hz2 : c + n2 + S + 30000 * most ≤ 1000000000000) (hw : HT (eB es) ps S n (.mk k m s ls args) c) (hw2 : HT (eB es) ps S n2 (.mk k2 m2 s2 ls2 args2) c) :
 ey Tryz.prog gl 30 [aP es w, aN] [.bZ 0 0, .d (ae.mk k m s ls args).d, .d (ae.mk k2 m2 s2 ls2 args2).d, .d (.v (.int .i64 most))] (JD w es) := by
 have hn1 := uv (gl := gl) hE (ps := ps) hm n _ c hw hc hz 0 0 w false (by omega) (by omega) (by omega)
 refine bS Tryz.func30 Tryz.ntmps30 2 ?_;refine kc 16 [10, 6, 5, 0] 5 ?_;refine oc (ay F6 rfl rfl rfl rfl (hn1) [0, 1, 4] (bh (cu (bh .nil))) rfl rfl rfl rfl (an (bd (an .nil))) (fun s ob' hq => ?_) (fun s ob' hq => ?_))
 rotate_left
 ·obtain ⟨_, _, _, _, _, hq1, _⟩ := hq; cases hq1
 obtain ⟨⟨k3, m3, s3, l3, a3⟩, d1, t1, w1, p1, hq1, rfl, hd1, hd2, hp1, hp2, hres⟩ := hq; cases hq1
 unfold pB at hp2
 rw [if_pos (by omega)] at hp2
 have hn2 := uv (gl := gl) hE (ps := ps) hm n2 _ c hw2 hc hz2 d1 p1 w1 t1 hd2 (by omega) (by omega)
 refine ⟨_, _, _, _, _, rfl, rfl, rfl, rfl, rfl, ?_⟩;refine ko 4 [11, 10, 6, 0] 5 ?_;refine oc (ay F6 rfl rfl rfl rfl (hn2) [0, 1, 4] (bh (cu (bh .nil))) rfl rfl rfl rfl (an (bd (an .nil))) (fun s ob' hq => ?_) (fun s ob' hq => ?_))
 rotate_left
 ·obtain ⟨_, _, _, _, _, hq1, _⟩ := hq; cases hq1
 obtain ⟨⟨k4, m4, s4, l4, a4⟩, d2, t2, w2, p2, hq1, rfl, hd3, hd4, hp3, hp4, hres2⟩ := hq; cases hq1; refine ⟨_, _, _, _, _, rfl, rfl, rfl, rfl, rfl, ?_⟩;refine ko 5 [12, 11, 10, 0] 7 ?_
 refine' oo (yt := 32) (d := 28) 4 ?a1 ?b1 ?_
 case a1 =>
  intro hc hK
  refine go 4 ?_
  exact hK [_, _, _, _] rfl rfl
 case b1 =>
  intro _ hK; refine go 4 ?_; exact hK [_, _, _, _] rfl
 refine go 2 ?_;refine cj (fun h4 => ?_) (fun h4 => ?_)
 ·refine kc 0 [] 8 ?_;refine eo (.cb [.v (.bool false), .v (.int .i64 14)]) [0, 1] [aP es w2, aN] ?_
  ·exact ⟨false, 14, w2, rfl, rfl, .inr rfl, fun h => by omega, fun h => (hres (hres2 h).1).1⟩
 refine kc 3 [12, 11] 0 ?_
 have hok : t2 = false ∧ w2 = false := (by cases t2 <;> cases w2 <;> simp_all)
 obtain ⟨rfl, rfl⟩ := hok; obtain ⟨hw1, hr2⟩ := hres2 rfl; obtain ⟨hw0, hr1⟩ := hres hw1
 have hr3 : t1 = false ∧ HT (eB es) ps (S + 30000 * most) n2 (.mk k4 m4 s4 l4 a4) c := (by
  rcases hr2 with h | ⟨_, h1, h2⟩
  ·cases h
  ·exact ⟨h1, h2⟩)
 have hr4 : HT (eB es) ps (S + 30000 * most) n (.mk k3 m3 s3 l3 a3) c := (by
  rcases hr1 with h | ⟨_, h1, h2⟩
  ·rw [hr3.1] at h; cases h
  ·exact h2)
 have hs1 := sc (gl := gl) (show S + 30000 * most ≤ 1000000000000 by omega) n _ c hr4 hc (by omega)
 have hs2 := sc (gl := gl) (show S + 30000 * most ≤ 1000000000000 by omega) n2 _ c hr3.2 hc (by omega)
 unfold SQ at hs1 hs2
 refine gc 2 ?_;refine oc (T := fun _ => False) (bo Hx rfl rfl rfl rfl (hs1) (bd .nil) (fun d hd => ?_)); obtain ⟨⟨k5, m5, s5, l5, a5⟩, rfl, g1⟩ := hd; refine go 6 ?_;refine oc (T := fun _ => False) (bo Hx rfl rfl rfl rfl (hs2) (bd .nil) (fun d hd => ?_)); obtain ⟨⟨k6, m6, s6, l6, a6⟩, rfl, g3⟩ := hd; refine ko 3 [12, 11] 4 ?_;refine oc (T := fun _ => False) (bo Lo rfl rfl rfl rfl (xG hL (fun s n h => Nat.le_trans (hE.sg h) (by omega)) k5 m5 s5 l5 a5 k6 m6 s6 l6 a6 g1.wt g3.wt) (bd (bd .nil)) (fun d hd => ?_)); obtain ⟨r, rfl⟩ := hd
 refine go 5 ?_;refine eo (.cb [.v (.bool r), .v (.int .i64 0)]) [0, 1] [aP es false, aN] ?_
 ·exact ⟨r, 0, false, rfl, rfl, .inl rfl, fun _ => rfl, fun _ => hw0⟩
end Go.Proofs.YtndbnldjidciiaaGreatDoor
namespace Go.Proofs.YtndbnldjidciiaaGreatDoor
open Go Go.Vd Go.RowKit
attribute [local irreducible] bl br de aj bI cY
variable {g gl : Nat → List D}
def JF (w : Bool) (es : List cq) (out : Out) (ob' : List Ob) : Prop :=
 ∃ (code : Int) (w' : Bool), out = .ret (.d (.v (.int .i64 code))) ∧ ob' = [aP es w', aN] ∧ (code = 0 → w' = false) ∧ (w' = false → w = false)
theorem rl {es : List cq} (hE : cP es) {ps : List ByteArray} (hL : ps.length ≤ 6) {c : Int} (hc : 0 ≤ c) {most S n n2 : Nat} (hm : most ≤ 1000000) (w : Bool) (k m : Int) (s : ByteArray) (ls : List aJ) (args : List ae) (k2 m2 : Int) (s2 : ByteArray) (ls2 : List aJ) (args2 : List ae) (hz : c + n + S + 30000 * most ≤ 1000000000000) (hz2 : c + n2 + S + 30000 * most ≤ 1000000000000) (hw : HT (eB es) ps S n (.mk k m s ls args) c) (hw2 : HT (eB es) ps S n2 (.mk k2 m2 s2 ls2 args2) c) :
 ey Tryz.prog gl 63 [aP es w, aN] [.bZ 0 0, .d (ae.mk k m s ls args).d, .d (ae.mk k2 m2 s2 ls2 args2).d, .d (.v (.int .i64 most))] (JF w es) := by
 have hq1 := qq (gl := gl) hE hL hc hm w k m s ls args k2 m2 s2 ls2 args2 hz hz2 hw hw2
 refine bS Tryz.func63 Tryz.ntmps63 2 ?_;refine gc 13 ?_;refine oc (ay Kq rfl rfl rfl rfl (hq1) [0, 1] (bh (cu .nil)) rfl rfl rfl rfl (an (bd (bd (an .nil)))) (fun s ob' hq => ?_) (fun s ob' hq => ?_))
 rotate_left
 ·obtain ⟨_, _, _, hq1, _⟩ := hq; cases hq1
 obtain ⟨r, code, w1, hq1, rfl, h1', h2', h3'⟩ := hq; cases hq1; refine ⟨_, _, _, _, _, rfl, rfl, rfl, rfl, rfl, ?_⟩;refine ko 8 [10, 9] 6 ?_;refine cj (fun h2 => ?_) (fun h2 => ?_)
 ·refine gc 8 ?_;refine eo (.v (.int .i64 code)) [0, 1] [aP es w1, aN] ?_
  ·exact ⟨code, w1, rfl, rfl, h2', h3'⟩
 refine gc 9 ?_;refine cj (fun h4 => ?_) (fun h4 => ?_)
 ·refine kc 0 [] 7 ?_;refine eo (.v (.int .i64 9)) [0, 1] [aP es w1, aN] ?_
  ·exact ⟨9, w1, rfl, rfl, fun h => by omega, h3'⟩
 refine kc 2 [] 6 ?_;refine eo (.v (.int .i64 0)) [0, 1] [aP es w1, aN] ?_
 ·exact ⟨0, w1, rfl, rfl, fun _ => h2' (by omega), h3'⟩
end Go.Proofs.YtndbnldjidciiaaGreatDoor
namespace Go.Proofs.YtndbnldjidciiaaGreatDoor
open Go Go.Vd Go.RowKit
def rF : JM := ⟨fun a b => max a b, fun a b => max a (1 + b), fun a v b => max (max a v) b, 0, 0⟩
def It : JM := ⟨fun a b => 1 + a + b, fun a b => 1 + a + b, fun a v b => 1 + a + v + b, 1, 0⟩
def dep (t : ae) : Nat := zE rF t fun _ => 0
def Ch (t : ae) : Nat := zE It t fun _ => 0
theorem xi : ft 0 (fun _ => 0) = fun _ => 0 := by funext i; cases i <;> rfl
theorem Hm (m : Int) (s : ByteArray) (ls : List aJ) (a b : ae) : dep (.mk 3 m s ls [a, b]) = max (dep a) (dep b) := by
 unfold dep; rw [zE]; rfl
theorem Gz (m : Int) (s : ByteArray) (ls : List aJ) (a b : ae) : Ch (.mk 3 m s ls [a, b]) = 1 + Ch a + Ch b := by
 unfold Ch; rw [zE]; rfl
variable {k : Int}
theorem CV (hk : k = 4 ∨ k = 5) (m : Int) (s : ByteArray) (ls : List aJ) (a b : ae) : dep (.mk k m s ls [a, b]) = max (dep a) (1 + dep b) := by
 unfold dep; rw [zE, if_neg (by omega), if_pos (by omega)]
 show max _ (1 + zE rF b (ft 0 _)) = _
 rw [xi]
theorem Cg (hk : k = 4 ∨ k = 5) (m : Int) (s : ByteArray) (ls : List aJ) (a b : ae) : Ch (.mk k m s ls [a, b]) = 1 + Ch a + Ch b := by
 unfold Ch; rw [zE, if_neg (by omega), if_pos (by omega)]
 show 1 + _ + zE It b (ft 0 _) = _
 rw [xi]
variable {B B' : Int} {a v b : ae}
theorem Hn (m : Int) (s : ByteArray) (ls : List aJ) (hv : iU B' v) (hb : iU B b) : dep (.mk 6 m s ls [a, v, b]) = max (max (dep a) (dep v)) (dep (dK b v)) := by
 unfold dep; rw [zE, if_neg (by omega), if_pos (by omega), Ep rF hv hb]; rfl
theorem GA (m : Int) (s : ByteArray) (ls : List aJ) (hv : iU B' v) (hb : iU B b) : Ch (.mk 6 m s ls [a, v, b]) = 1 + Ch a + Ch v + Ch (dK b v) := by
 unfold Ch; rw [zE, if_neg (by omega), if_pos (by omega), Ep It hv hb]; rfl
theorem FU : ∀ (n : Nat) (t : ae) (ρ : Nat → Nat) (M : Nat), t.size ≤ n → (∀ i, ρ i ≤ M) → zE rF t ρ ≤ t.size + M := by
 intro n
 induction n with
 | zero => intro t ρ M h; obtain ⟨k, m, s, ls, args, rfl⟩ := ae.case t; simp [ae.size] at h
 | succ n ih =>
  intro t ρ M hn hr
  have hcons : ∀ x, x ≤ M → ∀ i, ft x ρ i ≤ M := fun x hx i => by cases i with | zero => exact hx | succ i => exact hr i
  match t, hn with
  | .mk k m s ls [a, b], hn =>
   simp only [ae.size, ai] at hn ⊢
   rw [zE]
   have h1 := ih a ρ M (by omega) hr
   split
   ·have := hr m.toNat; omega
   ·split
    ·have h2 := ih b (ft 0 ρ) M (by omega) (hcons 0 (Nat.zero_le _))
     show max (zE rF a ρ) (1 + zE rF b (ft 0 ρ)) ≤ _
     omega
    ·have h2 := ih b ρ M (by omega) hr
     show max (zE rF a ρ) (zE rF b ρ) ≤ _
     omega
  | .mk k m s ls [a, v, b], hn =>
   simp only [ae.size, ai] at hn ⊢
   rw [zE]
   have h1 := ih a ρ M (by omega) hr
   have h2 := ih v ρ M (by omega) hr
   split
   ·have := hr m.toNat; omega
   ·split
    ·have h3 := ih b (ft (zE rF v ρ) ρ) (v.size + M) (by omega) (fun i => by
      cases i with
      | zero => exact h2
      | succ i => exact Nat.le_trans (hr i) (by omega))
     show max (max (zE rF a ρ) (zE rF v ρ)) (zE rF b (ft (zE rF v ρ) ρ)) ≤ _
     omega
    ·exact Nat.zero_le _
  | .mk k m s ls [], hn => simp only [zE]; split; (have := hr m.toNat; omega); exact Nat.zero_le _
  | .mk k m s ls [a], hn => simp only [zE]; split; (have := hr m.toNat; omega); exact Nat.zero_le _
  | .mk k m s ls (a :: b :: c :: d :: r), hn => simp only [zE]; split; (have := hr m.toNat; omega); exact Nat.zero_le _
theorem pZ (t : ae) : dep t ≤ t.size := FU _ t _ 0 (Nat.le_refl _) fun _ => Nat.le_refl _
mutual
theorem yJ {sg : Sg} {ps : List ByteArray} {v : ae} {c B : Int} (hc : 0 ≤ c) (hv : Wt sg ps v c) : ∀ {t : ae} {d : Int}, 0 ≤ d → c + d + t.size + v.size ≤ B → iU B t → iU B (eL (dD v) t d)
 | .mk k n s ls args, d, hd, hB, h => by
  simp only [ae.size] at hB
  by_cases hk : k = 0
  ·subst hk
   obtain ⟨h0, h1, rfl, rfl, rfl⟩ := pP h rfl
   rw [fg, dD]
   have hvar : ∀ i : Int, 0 ≤ i → i ≤ B → iU B (.mk 0 i .empty [] []) := fun i h2 h3 => ⟨fun l hl => (by cases hl), trivial, .inl ⟨rfl, ⟨h2, h3⟩, rfl, rfl, rfl⟩⟩
   split
   ·exact hvar _ (by omega) (by omega)
   ·split
    ·exact (hv.IT hd).sh (by rw [iu]; simp only [aS, ai] at hB; omega)
    ·exact hvar _ (by omega) (by omega)
  ·rw [eL, if_neg hk]
   exact ⟨h.1, wv hc hv hd (by omega) h.2.1, by rw [iz]; exact h.2.2⟩
theorem wv {sg : Sg} {ps : List ByteArray} {v : ae} {c B : Int} (hc : 0 ≤ c) (hv : Wt sg ps v c) : ∀ {l : List ae} {b : Bool} {d : Int}, 0 ≤ d → c + d + 1 + ai l + v.size ≤ B → th B l → th B (b0 (dD v) b l d)
 | [], b, d, _, _, _ => by simp [b0, th]
 | t :: r, b, d, hd, hB, h => by
  simp only [ai] at hB
  rw [b0]
  exact ⟨yJ hc hv (by split <;> omega) (by split <;> omega) h.1, wv hc hv hd (by omega) h.2⟩
end
variable {sg : Sg} {ps : List ByteArray} {c : Int}
theorem Cq (hc : 0 ≤ c) (hv : Wt sg ps v c) (hB : c + b.size + v.size ≤ B) (h : iU B b) : iU B (dK b v) := yJ hc hv (Int.le_refl _) (by omega) h
theorem Wt.J8 (ha : Wt sg ps a c) (hv : Wt sg ps v c) (hb : Wt sg ps b (c + 1)) : Wt sg ps (.mk 6 0 .empty [] [a, v, b]) c := by
 refine ⟨fun l hl => (by cases hl), ?_, .inr (.inr (.inr (.inr ⟨rfl, rfl, rfl, rfl, rfl⟩)))⟩
 simp only [fQ, List.isEmpty_cons, List.isEmpty_nil, Bool.and_false, Bool.and_true, Bool.false_eq_true, if_false, decide_eq_true_eq]
 exact ⟨ha, hv, by rw [if_pos (by omega)]; exact hb, trivial⟩
theorem yx {es : List cq} (hE : cP es) {nm : ByteArray} {x : List ByteArray × ae} (h : fZ nm es = some x) : Wt (eB es) x.1 x.2 0 ∧ x.1.length ≤ 7 ∧ x.2.size ≤ 1099511627776 := by
 rcases hF : bB nm es with ⟨kf, e, j⟩
 by_cases h0 : kf = 0
 ·rw [Ey hF h0] at h; cases h
 ·have he := hE.vU _ (jQ hF h0)
  have hp := he.ps
  by_cases h4 : kf = 4
  ·unfold fZ at h
   rw [hF] at h
   subst h4
   simp only at h
   rw [if_neg (by decide), if_true] at h
   obtain ⟨cc, h1, rfl⟩ := Option.map_eq_some_iff.1 h
   have h2 := he.cs _ (List.mem_of_getElem? h1)
   exact ⟨h2.1, by show e.d.ps.length ≤ 7; omega, by have := h2.2.1; show cc.2.size ≤ _; omega⟩
  ·by_cases h5 : kf = 5
   ·rw [Ev hF h5] at h
    cases h
    have hk : e.d.k = 3 := by
     rcases iG hF h0 with h | h | h
     ·have := he.k; omega
     ·omega
     ·exact h.2
    exact ⟨(he.rt hk).1, he.rp, (he.rt hk).2⟩
   ·rw [Eu hF h0 h4 h5] at h
    cases h
    exact ⟨he.ty.1, by show e.d.ps.length ≤ 7; omega, by have := he.ty.2; show e.d.ty.size ≤ _; omega⟩
end Go.Proofs.YtndbnldjidciiaaGreatDoor
namespace Go.Proofs.YtndbnldjidciiaaGreatDoor
open Go Go.Vd Go.RowKit
attribute [local irreducible] bl br de aj bI cY
variable {g gl : Nat → List D}
def qQ (es : List cq) (ps : List ByteArray) (S : Nat) (ctx : List ae) : Prop := ∀ (i : Nat) x, ctx[i]? = some x → Wt (eB es) ps x i ∧ x.size ≤ S
def Gm (es : List cq) (ps : List ByteArray) (S : Nat) (ctx : List ae) (t : ae) (w : Bool) (out : Out) (ob' : List Ob) : Prop :=
 ∃ (u : ae) (code : Int) (w' : Bool), out = .ret (.d (.cb [u.d, .v (.int .i64 code)])) ∧ ob' = [aP es w', aN] ∧ (w' = false → w = false) ∧ (code = 0 → w' = false ∧ Wt (eB es) ps t ctx.length ∧ HT (eB es) ps S (dep t) u ctx.length)
def v7 (gl : Nat → List D) (es : List cq) (ps : List ByteArray) (most S : Nat) (t : ae) : Prop :=
 ∀ (ctx : List ae) (w : Bool), qQ es ps S ctx → ctx.length + dep t ≤ 1000000 → t.size ≤ S → iU 4398046511104 t →
  ey Tryz.prog gl 36 [aP es w, aN] [.bZ 0 0, .d (c6 ps), .d (.sl 5 (ba ctx)), .d t.d, .d (.v (.int .i64 most))] (Gm es ps S ctx t w)
def Ge (es : List cq) (ps : List ByteArray) (c : Int) (t : ae) (w : Bool) (out : Out) (ob' : List Ob) : Prop :=
 ∃ (l : aJ) (code : Int) (w' : Bool), out = .ret (.d (.cb [l.d, .v (.int .i64 code)])) ∧ ob' = [aP es w', aN] ∧ (w' = false → w = false) ∧ (code = 0 → w' = false ∧ Wt (eB es) ps t c ∧ gQ ps l)
theorem iS {es : List cq} (hE : cP es) {ps : List ByteArray} {most S : Nat} (hm : most ≤ 1000000) (hS : S ≤ 1000000000) (k m : Int) (s : ByteArray) (ls : List aJ) (args : List ae) (hI : v7 gl es ps most S (.mk k m s ls args)) (ctx : List ae) (w : Bool) (hctx : qQ es ps S ctx) (hlen : ctx.length + dep (.mk k m s ls args) ≤ 1000000) (hz : (ae.mk k m s ls args).size ≤ S) (hsh : iU 4398046511104 (.mk k m s ls args)) :
 ey Tryz.prog gl 60 [aP es w, aN] [.bZ 0 0, .d (c6 ps), .d (.sl 5 (ba ctx)), .d (ae.mk k m s ls args).d, .d (.v (.int .i64 most))] (Ge es ps ctx.length (.mk k m s ls args) w) := by
 have hin := hI ctx w hctx hlen hz hsh
 refine bS Tryz.func60 Tryz.ntmps60 2 ?_;refine gc 14 ?_;refine oc (ay vY rfl rfl rfl rfl (hin) [0, 1] (bh (cu .nil)) rfl rfl rfl rfl (an (an (an (bd (an .nil))))) (fun s ob' hq => ?_) (fun s ob' hq => ?_))
 rotate_left
 ·obtain ⟨_, _, _, hq1, _⟩ := hq; cases hq1
 obtain ⟨⟨k1, m1, s1, l1, a1⟩, c1, w1, hq1, rfl, hq2, hq3⟩ := hq; cases hq1; refine ⟨_, _, _, _, _, rfl, rfl, rfl, rfl, rfl, ?_⟩;refine ko 9 [13, 12, 10, 0, 4] 6 ?_;refine cj (fun h2 => ?_) (fun h2 => ?_)
 ·refine kc 0 [13, 10] 10 ?_;refine eo (.cb [(aJ.mk 0 .empty []).d, .v (.int .i64 c1)]) [0, 1] [aP es w1, aN] ?_
  ·exact ⟨.mk 0 .empty [], c1, w1, rfl, rfl, hq2, fun h => absurd h (by omega)⟩
 refine gc 3 ?_; obtain ⟨rfl, hWt, hHT⟩ := hq3 (by omega)
 have hwh := sn (gl := gl) hE (Int.natCast_nonneg _) hm false k1 m1 s1 l1 a1 (by omega) hHT
 refine gc 4 ?_;refine oc (ay Kp rfl rfl rfl rfl (hwh) [0, 1] (bh (cu .nil)) rfl rfl rfl rfl (an (bd (an .nil))) (fun s ob' hq => ?_) (fun s ob' hq => ?_))
 rotate_left
 ·obtain ⟨_, _, _, _, hq1, _⟩ := hq; cases hq1
 obtain ⟨⟨k2, m2, s2, l2, a2⟩, d2, c2, w2, hq1, rfl, hq4, hq5, hq6⟩ := hq; cases hq1; refine ⟨_, _, _, _, _, rfl, rfl, rfl, rfl, rfl, ?_⟩;refine ko 11 [13, 14, 10] 6 ?_;refine cj (fun h5 => ?_) (fun h5 => ?_)
 ·refine gc 10 ?_;refine eo (.cb [(aJ.mk 0 .empty []).d, .v (.int .i64 c2)]) [0, 1] [aP es w2, aN] ?_
  ·exact ⟨.mk 0 .empty [], c2, w2, rfl, rfl, fun h => hq2 rfl, fun h => absurd h (by omega)⟩
 refine gc 10 ?_;refine cj (fun h7 => ?_) (fun h7 => ?_)
 ·refine kc 0 [10] 9 ?_;refine eo (.cb [(aJ.mk 0 .empty []).d, .v (.int .i64 10)]) [0, 1] [aP es w2, aN] ?_
  ·exact ⟨.mk 0 .empty [], 10, w2, rfl, rfl, fun h => hq2 rfl, fun h => absurd h (by omega)⟩
 refine kc 3 [14, 10] 0 ?_; obtain ⟨rfl, hH2⟩ := hq6 (by omega); obtain rfl : k2 = 1 := (by omega)
 have hW2 := hH2.wt
 obtain ⟨⟨kl, sl, al⟩, rfl⟩ : ∃ l, l2 = [l] := (by
  rcases hW2.2.2 with h | h | h | h | h
  ·omega
  ·exact List.length_eq_one_iff.1 h.2.2.2.1
  ·omega
  ·omega
  ·omega)
 refine gc 3 ?_;refine o1 (bV ee ei ?_ (he := by exact (rfl)));refine go 6 ?_;refine eo (.cb [(aJ.mk kl sl al).d, .v (.int .i64 0)]) [0, 1] [aP es false, aN] ?_
 ·exact ⟨.mk kl sl al, 0, false, rfl, rfl, fun h => hq2 rfl, fun _ => ⟨rfl, hWt, hW2.1 _ List.mem_cons_self⟩⟩
end Go.Proofs.YtndbnldjidciiaaGreatDoor
namespace Go.Proofs.YtndbnldjidciiaaGreatDoor
open Go Go.Vd Go.RowKit
attribute [local irreducible] bl br de aj bI cY
variable {g gl : Nat → List D}
set_option maxHeartbeats 800000 in
theorem vS {es : List cq} (hE : cP es) {ps : List ByteArray} (hL : ps.length ≤ 6) {most S : Nat} (hm : most ≤ 1000000) (hS : S ≤ 1000000000 ∧ 20000 ≤ S) (m : Int) (s : ByteArray) (ls : List aJ) (k1 m1 : Int) (s1 : ByteArray) (l1 : List aJ) (a1 : List ae) (k2 m2 : Int) (s2 : ByteArray) (l2 : List aJ) (a2 : List ae) (hI1 : v7 gl es ps most S (.mk k1 m1 s1 l1 a1)) (hI2 : v7 gl es ps most S (.mk k2 m2 s2 l2 a2)) (ctx : List ae) (w : Bool) (hctx : qQ es ps S ctx) (hlen : ctx.length + dep (.mk 3 m s ls [.mk k1 m1 s1 l1 a1, .mk k2 m2 s2 l2 a2]) ≤ 1000000) (hz : (ae.mk 3 m s ls [.mk k1 m1 s1 l1 a1, .mk k2 m2 s2 l2 a2]).size ≤ S) (hsh : iU 4398046511104 (.mk 3 m s ls [.mk k1 m1 s1 l1 a1, .mk k2 m2 s2 l2 a2])) :
 ey Tryz.prog gl 59 [aP es w, aN] [.bZ 0 0, .d (c6 ps), .d (.sl 5 (ba ctx)), .d (ae.mk 3 m s ls [.mk k1 m1 s1 l1 a1, .mk k2 m2 s2 l2 a2]).d, .d (.v (.int .i64 most))] (Gm es ps S ctx (.mk 3 m s ls [.mk k1 m1 s1 l1 a1, .mk k2 m2 s2 l2 a2]) w) := by
 have hdep := Hm m s ls (.mk k1 m1 s1 l1 a1) (.mk k2 m2 s2 l2 a2)
 obtain ⟨_, hm0, hs0, hl0, _⟩ : (3 : Int) = 3 ∧ m = 0 ∧ s = .empty ∧ ls = [] ∧ True := (by
  rcases hsh.2.2 with h | h | h | h | h
  ·omega
  ·omega
  ·omega
  ·exact ⟨rfl, h.2.1, h.2.2.1, h.2.2.2.1, trivial⟩
  ·omega)
 subst hm0 hs0 hl0
 have hzz : 1 + ((ae.mk k1 m1 s1 l1 a1).size + ((ae.mk k2 m2 s2 l2 a2).size + 0)) ≤ S := by simp only [ae.size, aS, ai] at hz ⊢; omega
 have hin1 := hI1 ctx w hctx (by omega) (by omega) hsh.2.1.1
 generalize hT : ae.mk 3 0 .empty [] [.mk k1 m1 s1 l1 a1, .mk k2 m2 s2 l2 a2] = T at hdep hlen
 have hTd : T.d = (ae.mk 3 0 .empty [] [.mk k1 m1 s1 l1 a1, .mk k2 m2 s2 l2 a2]).d := by rw [hT]
 rw [hTd]
 refine bS Tryz.func59 Tryz.ntmps59 2 ?_;refine gc 14 ?_;refine o1 (bV bE bK ?_ (he := by exact (rfl)));refine go 2 ?_;refine oc (ay vY rfl rfl rfl rfl (hin1) [0, 1] (bh (cu .nil)) rfl rfl rfl rfl (an (an (an (bd (an .nil))))) (fun s ob' hq => ?_) (fun s ob' hq => ?_))
 rotate_left
 ·obtain ⟨_, _, _, hq1, _⟩ := hq; cases hq1
 obtain ⟨⟨k3, m3, s3, l3, a3⟩, c1, w1, hq1, rfl, hq2, hq3⟩ := hq; cases hq1; refine ⟨_, _, _, _, _, rfl, rfl, rfl, rfl, rfl, ?_⟩;refine ko 9 [13, 12, 10, 8, 0, 1, 2, 4] 6 ?_;refine cj (fun h2 => ?_) (fun h2 => ?_)
 ·refine kc 0 [13, 10] 10 ?_;refine eo (.cb [aI.d, .v (.int .i64 c1)]) [0, 1] [aP es w1, aN] ?_
  ·exact ⟨aI, c1, w1, rfl, rfl, hq2, fun h => absurd h (by omega)⟩
 refine gc 3 ?_; obtain ⟨rfl, hWt1, hHT1⟩ := hq3 (by omega)
 have hwh := sn (gl := gl) hE (Int.natCast_nonneg _) hm false k3 m3 s3 l3 a3 (by omega) hHT1
 refine gc 4 ?_;refine oc (ay Kp rfl rfl rfl rfl (hwh) [0, 1] (bh (cu .nil)) rfl rfl rfl rfl (an (bd (an .nil))) (fun s ob' hq => ?_) (fun s ob' hq => ?_))
 rotate_left
 ·obtain ⟨_, _, _, _, hq1, _⟩ := hq; cases hq1
 obtain ⟨⟨kg, mg, sg', lg, ag⟩, d2, c2, w2, hq1, rfl, hq4, hq5, hq6⟩ := hq; cases hq1; refine ⟨_, _, _, _, _, rfl, rfl, rfl, rfl, rfl, ?_⟩;refine ko 11 [13, 14, 10, 8, 0, 1, 2, 4] 6 ?_;refine cj (fun h5 => ?_) (fun h5 => ?_)
 ·refine kc 0 [13, 10] 10 ?_;refine eo (.cb [aI.d, .v (.int .i64 c2)]) [0, 1] [aP es w2, aN] ?_
  ·exact ⟨aI, c2, w2, rfl, rfl, fun h => hq2 rfl, fun h => absurd h (by omega)⟩
 refine gc 10 ?_;refine cj (fun h7 => ?_) (fun h7 => ?_)
 ·refine kc 0 [10] 9 ?_;refine eo (.cb [aI.d, .v (.int .i64 8)]) [0, 1] [aP es w2, aN] ?_
  ·exact ⟨aI, 8, w2, rfl, rfl, fun h => hq2 rfl, fun h => absurd h (by omega)⟩
 refine kc 3 [14, 10, 8, 0, 1, 2, 4] 0 ?_; obtain ⟨rfl, hH2⟩ := hq6 (by omega)
 obtain rfl : kg = 5 := (by omega); obtain ⟨⟨kA, mA, sA, lA, aA⟩, ⟨kB, mB, sB, lB, aB⟩, rfl, rfl, rfl, rfl, hAw, hAz, hBh⟩ := hH2.II
 have hin2 := hI2 ctx false hctx (by omega) (by omega) hsh.2.1.2.1
 refine gc 6 ?_;refine o1 (bV bE bK ?_ (he := by exact (rfl)));refine go 2 ?_;refine oc (ay vY rfl rfl rfl rfl (hin2) [0, 1] (bh (cu .nil)) rfl rfl rfl rfl (an (an (an (bd (an .nil))))) (fun s ob' hq => ?_) (fun s ob' hq => ?_))
 rotate_left
 ·obtain ⟨_, _, _, hq1, _⟩ := hq; cases hq1
 obtain ⟨⟨k4, m4, s4, l4, a4⟩, c4, w4, hq1, rfl, hq7, hq8⟩ := hq; cases hq1; refine ⟨_, _, _, _, _, rfl, rfl, rfl, rfl, rfl, ?_⟩;refine ko 9 [13, 16, 14, 10, 8, 0, 4] 6 ?_;refine cj (fun h10 => ?_) (fun h10 => ?_)
 ·refine kc 0 [13, 10] 10 ?_;refine eo (.cb [aI.d, .v (.int .i64 c4)]) [0, 1] [aP es w4, aN] ?_
  ·exact ⟨aI, c4, w4, rfl, rfl, fun h => hq2 rfl, fun h => absurd h (by omega)⟩
 refine gc 3 ?_; obtain ⟨rfl, hWt2, hHT2⟩ := hq8 (by omega)
 have hmu := rl (gl := gl) hE hL (c := (ctx.length : Int)) (Int.natCast_nonneg _) (most := most) (S := S + 30000 * most) (n := dep (.mk k2 m2 s2 l2 a2)) (n2 := 0) hm false k4 m4 s4 l4 a4 kA mA sA lA aA (by omega) (by omega) (hHT2.mono (by omega) (Nat.le_refl _)) (.base hAw hAz)
 refine gz [0, 1, 2, 3] mixed ?_;refine A1 4 rfl (bV bE bK ⟨_, rfl, ?_⟩ (he := by exact (rfl)));refine ga [5, 6] ?_;refine A2 7 rfl (ay Ju rfl rfl rfl rfl (hmu) [0, 1] (bh (cu .nil)) rfl rfl rfl rfl (an (bd (bd (an .nil)))) (fun s ob' hq => ?_) (fun s ob' hq => ?_))
 rotate_left
 ·obtain ⟨_, _, hq1, _⟩ := hq; cases hq1
 obtain ⟨c5, w5, hq1, rfl, hq9, hq10⟩ := hq; cases hq1; refine ⟨_, _, _, _, _, rfl, rfl, rfl, rfl, rfl, ?_⟩;refine ga [8] ?_;refine aQ ?_;refine ke 2 [13, 14, 10, 8, 0] 6 ?_;refine cj (fun h13 => ?_) (fun h13 => ?_)
 ·refine kc 0 [13, 10] 10 ?_;refine eo (.cb [aI.d, .v (.int .i64 c5)]) [0, 1] [aP es w5, aN] ?_
  ·exact ⟨aI, c5, w5, rfl, rfl, fun h => hq2 rfl, fun h => absurd h (by omega)⟩
 refine gc 3 ?_; obtain rfl := hq9 (by omega)
 have hBw := hBh.wt
 have hsu := BF (gl := gl) es false (B := 4398046511104) (B' := 4398046511104) (by omega) (by omega) kB mB sB lB aB k2 m2 s2 l2 a2 (hBw.tS fun s n h => Nat.le_trans (hE.sg h) (by omega)) (by omega) (fun h => hBw.sh (by omega)) hsh.2.1.2.1
 refine gz [0, 1, 2] mixed ?_;refine A1 3 rfl (bV bE bK ⟨_, rfl, ?_⟩ (he := by exact (rfl)));refine ga [4, 5, 6] ?_;refine A1 7 rfl (bV bE bK ⟨_, rfl, ?_⟩ (he := by exact (rfl)));refine ga [8] ?_;refine dj (rs := [9, 10]) (by kernel_rfl) rfl ⟨?_, ?_, trivial⟩
 ·skip
  refine A4 9 rfl (ay BQ rfl rfl rfl rfl (hsu) [0, 1] (bh (cu .nil)) rfl rfl rfl rfl (an (bd (bd .nil))) (fun s ob' hq => ?_) (fun s ob' hq => ?_))
  rotate_left
  ·obtain ⟨_, _, hq1, _⟩ := hq; cases hq1
  obtain ⟨⟨k6, m6, s6, l6, a6⟩, w6, hq1, rfl, hw6⟩ := hq; cases hq1; refine ⟨_, _, _, _, _, rfl, rfl, rfl, rfl, rfl, ?_⟩;refine A2 10 rfl (tE bM ?_);refine A2 11 rfl (eD bM ?_);refine aQ ?_;refine ke 2 [17, 10, 0] 8 ?_;refine cj (fun h16 => ?_) (fun h16 => ?_)
  ·refine kc 0 [10] 9 ?_;refine eo (.cb [aI.d, .v (.int .i64 14)]) [0, 1] [aP es w6, aN] ?_
   ·exact ⟨aI, 14, w6, rfl, rfl, fun h => hq2 rfl, fun h => absurd h (by omega)⟩
  refine kc 2 [17, 10] 8 ?_;refine eo (.cb [(ae.mk k6 m6 s6 l6 a6).d, .v (.int .i64 0)]) [0, 1] [aP es w6, aN] ?_
  ·rcases hw6 with ⟨rfl, _, h7, h8⟩ | ⟨h7, _⟩
   ·refine ⟨.mk k6 m6 s6 l6 a6, 0, false, rfl, rfl, fun h => hq2 rfl, fun _ => ⟨rfl, ?_, .base ?_ (by omega)⟩⟩
    ·rw [← hT]; exact Wt.app hWt1 hWt2
    ·rw [h7]; exact Wt.sub (Int.natCast_nonneg _) hBw hWt2
   ·exfalso; rw [h7] at h16; simp at h16
 ·skip
  refine A4 10 rfl (tE bM ?_);refine A2 9 rfl (ay BQ rfl rfl rfl rfl (hsu) [0, 1] (bh (cu .nil)) rfl rfl rfl rfl (an (bd (bd .nil))) (fun s ob' hq => ?_) (fun s ob' hq => ?_))
  rotate_left
  ·obtain ⟨_, _, hq1, _⟩ := hq; cases hq1
  obtain ⟨⟨k6, m6, s6, l6, a6⟩, w6, hq1, rfl, hw6⟩ := hq; cases hq1; refine ⟨_, _, _, _, _, rfl, rfl, rfl, rfl, rfl, ?_⟩;refine A2 11 rfl (eD bM ?_);refine aQ ?_;refine ke 2 [17, 10, 0] 8 ?_;refine cj (fun h16 => ?_) (fun h16 => ?_)
  ·refine kc 0 [10] 9 ?_;refine eo (.cb [aI.d, .v (.int .i64 14)]) [0, 1] [aP es w6, aN] ?_
   ·exact ⟨aI, 14, w6, rfl, rfl, fun h => hq2 rfl, fun h => absurd h (by omega)⟩
  refine kc 2 [17, 10] 8 ?_;refine eo (.cb [(ae.mk k6 m6 s6 l6 a6).d, .v (.int .i64 0)]) [0, 1] [aP es w6, aN] ?_
  ·rcases hw6 with ⟨rfl, _, h7, h8⟩ | ⟨h7, _⟩
   ·refine ⟨.mk k6 m6 s6 l6 a6, 0, false, rfl, rfl, fun h => hq2 rfl, fun _ => ⟨rfl, ?_, .base ?_ (by omega)⟩⟩
    ·rw [← hT]; exact Wt.app hWt1 hWt2
    ·rw [h7]; exact Wt.sub (Int.natCast_nonneg _) hBw hWt2
   ·exfalso; rw [h7] at h16; simp at h16
end Go.Proofs.YtndbnldjidciiaaGreatDoor
namespace Go.Proofs.YtndbnldjidciiaaGreatDoor
open Go Go.Vd Go.RowKit
attribute [local irreducible] bl br de aj bI cY
variable {g gl : Nat → List D}
variable {es : List cq} {ps : List ByteArray} {most S : Nat}
theorem vP (hS : S ≤ 1000000000) (n : Int) : v7 gl es ps most S (.mk 0 n .empty [] []) := by
 intro ctx w hctx hlen hz hsh
 obtain ⟨hn0, hn1, _⟩ := pP hsh rfl
 have hcl := bf ctx
 refine bS Tryz.func36 Tryz.ntmps36 2 ?_;refine gc 16 ?_;refine cj (fun h1 => ?_) (fun h1 => ?_)
 ·refine kc 0 [10] 9 ?_;refine eo (.cb [aI.d, .v (.int .i64 14)]) [0, 1] [aP es w, aN] ?_
  ·exact ⟨aI, 14, w, rfl, rfl, fun h => h, fun h => absurd h (by omega)⟩
 refine kc 4 [10, 8, 0, 1, 2, 4] 0 ?_; obtain rfl := h1; refine gc 12 ?_;refine ct ?_;refine kc 1 [10, 8, 2] 9 ?_;refine cj (fun h5 => ?_) (fun h5 => ?_)
 ·refine kc 0 [10] 11 ?_;refine eo (.cb [aI.d, .v (.int .i64 7)]) [0, 1] [aP es false, aN] ?_
  ·exact ⟨aI, 7, false, rfl, rfl, fun h => rfl, fun h => absurd h (by omega)⟩
 refine kc 3 [10, 8, 2] 0 ?_
 obtain ⟨j, hj⟩ : ∃ j : Nat, ((ba ctx).length : Int) - 1 - n = j := ⟨((ba ctx).length - 1 - n).toNat, by omega⟩; obtain ⟨k2, m2, s2, l2, a2, hget⟩ := bQ (show j < ctx.length by omega); obtain ⟨hWx, hSx⟩ := hctx _ _ hget
 have hLs := gi (gl := gl) (n0 := n + 1) (B := 4398046511104) (by omega) (by omega) _ k2 m2 s2 l2 a2 0 (Nat.le_refl _) (hWx.sh (by omega)) (by omega) (by omega)
 obtain ⟨k3, m3, s3, l3, a3, hX⟩ := ae.case (eL (eM (n + 1) 0) (.mk k2 m2 s2 l2 a2) 0)
 rw [hX] at hLs
 refine gz [0, 1, 2] mixed ?_;refine A1 3 rfl (nT ⟨_, rfl, ?_⟩);refine ga [4, 5] ?_;refine A1 6 rfl (nT ⟨_, rfl, ?_⟩);refine A1 7 rfl (bV bE bK ⟨_, rfl, ?_⟩ (he := by rw [hj]; exact bY hget));refine ga [8, 9, 10] ?_;refine A1 11 rfl (cw ⟨_, rfl, ?_⟩);refine A2 12 rfl (cv Am rfl rfl (hLs) (bd (an (an .nil))) ?_);refine A2 13 rfl (eD bM ?_);refine ga [14] ?_;refine aQ ?_;refine ge 4 ?_;refine eo (.cb [(ae.mk k3 m3 s3 l3 a3).d, .v (.int .i64 0)]) [0, 1] [aP es false, aN] ?_
 ·have h8 := hWx.lift (fr := 0) (m := n + 1) (by omega) (d := 0)
  have h9 := re (n + 1) 0 (.mk k2 m2 s2 l2 a2) 0
  rw [hX] at h8 h9
  exact ⟨_, 0, false, rfl, rfl, fun h => rfl, fun _ => ⟨rfl, Wt.var hn0 (by omega), .base (h8.up (by omega)) (by omega)⟩⟩
theorem oE (hL : ps.length ≤ 6) (hS : S ≤ 1000000000) (kl : Int) (sl : ByteArray) (al : List aJ) : v7 gl es ps most S (.mk 1 0 .empty [.mk kl sl al] []) := by
 intro ctx w hctx hlen hz hsh
 obtain ⟨x, hx, hfx⟩ := hsh.1 _ List.mem_cons_self
 have hxs := x.dq
 simp only [ae.size, aS, ai] at hz
 have hdc := pA (gl := gl) x ps (by rw [← hx] at hxs; omega) (by omega)
 rw [← hx] at hdc
 refine bS Tryz.func36 Tryz.ntmps36 2 ?_;refine gc 16 ?_;refine cj (fun h1 => ?_) (fun h1 => ?_)
 ·refine kc 0 [10] 9 ?_;refine eo (.cb [aI.d, .v (.int .i64 14)]) [0, 1] [aP es w, aN] ?_
  ·exact ⟨aI, 14, w, rfl, rfl, fun h => h, fun h => absurd h (by omega)⟩
 refine kc 4 [10, 8, 0, 1, 2, 4] 0 ?_; obtain rfl := h1; refine gc 12 ?_;refine cf ?_;refine gc 6 ?_;refine ct ?_;refine kc 0 [10, 8, 1] 4 ?_;refine o1 (bV ee ei ?_ (he := by exact (rfl)));refine go 2 ?_;refine oc (T := fun _ => False) (bo Km rfl rfl rfl rfl (hdc) (bd (an .nil)) (fun d hd => ?_)); obtain ⟨b, rfl, hb⟩ := hd; refine ko 4 [12, 10, 8] 6 ?_;refine cj (fun h10 => ?_) (fun h10 => ?_)
 ·refine kc 0 [10] 11 ?_;refine eo (.cb [aI.d, .v (.int .i64 5)]) [0, 1] [aP es false, aN] ?_
  ·exact ⟨aI, 5, false, rfl, rfl, fun h => rfl, fun h => absurd h (by omega)⟩
 refine gc 6 ?_;refine o1 (bV ee ei ?_ (he := by exact (rfl)));refine go 1 ?_;refine oc (gR jD [.tmp 71] dB ?_);refine go 1 ?_;refine oc (cv Eb rfl rfl (iE 1 .empty [.mk kl sl al]) (bd .nil) ?_);refine go 7 ?_;refine eo (.cb [(ae.mk 1 0 .empty [.mk 1 .empty [.mk kl sl al]] []).d, .v (.int .i64 0)]) [0, 1] [aP es false, aN] ?_
 ·have hbt : b = true := (by cases b <;> simp_all)
  have hin : gQ ps (.mk kl sl al) := ⟨x, hx, hfx, hb hbt⟩
  exact ⟨_, 0, false, rfl, rfl, fun h => rfl, fun _ => ⟨rfl, Wt.sort hin, .sort ⟨.succ x, by rw [hx]; rfl, ⟨by decide, by decide, fun e => absurd e (by decide), hfx, trivial⟩, fun p hp => hb hbt p hp⟩⟩⟩
theorem tn (hE : cP es) (hL : ps.length ≤ 6) (hS : S ≤ 1000000000 ∧ 20000 ≤ S) (s : ByteArray) (ls : List aJ) : v7 gl es ps most S (.mk 2 0 s ls []) := by
 intro ctx w hctx hlen hz hsh
 have hty := rP (gl := gl) es w s hE.b hE.k4
 have hll := bR ls
 have hlz : ∀ u ∈ ls, u.size ≤ S := fun u hu => by
  obtain ⟨i, hi⟩ := List.getElem?_of_mem hu
  have := dN hi
  simp only [ae.size] at hz; omega
 rcases hT : fZ s es with _ | ⟨ps', ⟨k3, m3, s3, l3, a3⟩⟩
 ·rw [hT] at hty
  refine bS Tryz.func36 Tryz.ntmps36 2 ?_;refine gc 16 ?_;refine cj (fun h1 => ?_) (fun h1 => ?_)
  ·refine kc 0 [10] 9 ?_;refine eo (.cb [aI.d, .v (.int .i64 14)]) [0, 1] [aP es w, aN] ?_
   ·exact ⟨aI, 14, w, rfl, rfl, fun h => h, fun h => absurd h (by omega)⟩
  refine kc 4 [10, 8, 0, 1, 2, 4] 0 ?_; obtain rfl := h1; refine gc 12 ?_;refine cf ?_;refine gc 6 ?_;refine cf ?_;refine kc 0 [35, 10, 8, 0, 1, 2, 4] 6 ?_;refine ct ?_;refine kc 0 [10, 8, 0, 1] 5 ?_;refine oc (ck Hz rfl rfl (hty) [0, 1] rfl (bh (cu .nil)) (an (an .nil)) ?_);refine ko 11 [15, 13, 14, 10, 8, 0, 1] 6 ?_;refine ct ?_;refine kc 0 [10] 11 ?_;refine eo (.cb [aI.d, .v (.int .i64 4)]) [0, 1] [aP es false, aN] ?_
  ·exact ⟨aI, 4, false, rfl, rfl, fun h => rfl, fun h => absurd h (by omega)⟩
 ·rw [hT] at hty
  obtain ⟨hTw, hTl, hTz⟩ := yx hE hT
  simp only at hTw hTl hTz
  have hpl := bU ps'
  refine bS Tryz.func36 Tryz.ntmps36 2 ?_;refine gc 16 ?_;refine cj (fun h1 => ?_) (fun h1 => ?_)
  ·refine kc 0 [10] 9 ?_;refine eo (.cb [aI.d, .v (.int .i64 14)]) [0, 1] [aP es w, aN] ?_
   ·exact ⟨aI, 14, w, rfl, rfl, fun h => h, fun h => absurd h (by omega)⟩
  refine kc 4 [10, 8, 0, 1, 2, 4] 0 ?_; obtain rfl := h1; refine gc 12 ?_;refine cf ?_;refine gc 6 ?_;refine cf ?_;refine kc 0 [35, 10, 8, 0, 1, 2, 4] 6 ?_;refine ct ?_;refine kc 0 [10, 8, 0, 1] 5 ?_;refine oc (ck Hz rfl rfl (hty) [0, 1] rfl (bh (cu .nil)) (an (an .nil)) ?_);refine ko 11 [15, 13, 14, 10, 8, 0, 1] 6 ?_;refine cf ?_;refine gc 13 ?_;refine cj (fun h17 => ?_) (fun h17 => ?_)
  ·refine kc 0 [10] 11 ?_;refine eo (.cb [aI.d, .v (.int .i64 6)]) [0, 1] [aP es false, aN] ?_
   ·exact ⟨aI, 6, false, rfl, rfl, fun h => rfl, fun h => absurd h (by omega)⟩
  refine kc 3 [13, 14, 10, 8, 0, 1] 6 ?_;refine lP (ι := Nat) (fun i => [(16, int i)]) [13, 14, 10, 8, 0, 1] (fun i => i ≤ ls.length ∧ ∀ l ∈ ls.take i, gQ ps l) (fun i => ls.length - i) (0) rfl ?I1 ?M1 ?H1
  case I1 =>
   exact ⟨Nat.zero_le _, by simp⟩
  case M1 =>
   exact mz
  case H1 =>
   rintro i hinv
   try dsimp only at hinv
   refine kc 0 [16, 13, 14, 10, 8, 0, 1] 10 ?_;refine cj (fun h20 => ?_) (fun h20 => ?_)
   ·refine kc 5 [16, 13, 14, 10, 8, 0, 1] 0 ?_; obtain ⟨kx, sx, ax, hget⟩ := cU (show i < ls.length by omega)
    obtain ⟨x, hx, hfx⟩ := hsh.1 _ (List.mem_of_getElem? hget)
    have hxs := x.dq
    have hxz := hlz _ (List.mem_of_getElem? hget)
    have hdc := pA (gl := gl) x ps (by rw [← hx] at hxs; omega) (by omega)
    rw [← hx] at hdc
    refine gc 4 ?_;refine o1 (bV ee ei ?_ (he := by exact (cZ hget)));refine go 2 ?_;refine oc (T := fun _ => False) (bo Km rfl rfl rfl rfl (hdc) (bd (an .nil)) (fun d hd => ?_)); obtain ⟨b, rfl, hb⟩ := hd; refine ko 3 [17, 16, 13, 14, 10, 8, 0, 1] 6 ?_;refine cJ (fun h23 => ?_) (fun h23 => ?_)
    ·refine gc 5 ?_;refine o1 (cw ?_);refine go 2 ?_;refine bi (i + 1) rfl ?_ mz
     ·refine ⟨⟨by omega, fun l hl => ?_⟩, by omega⟩
      rw [List.take_add_one, hget] at hl
      rcases List.mem_append.1 hl with hl | hl
      ·exact hinv.2 l hl
      ·simp only [Option.toList_some, List.mem_singleton] at hl
       subst hl
       have hbt : b = true := (by cases b <;> simp_all)
       exact ⟨x, hx, hfx, hb hbt⟩
    refine kc 0 [10] 15 ?_;refine eo (.cb [aI.d, .v (.int .i64 5)]) [0, 1] [aP es false, aN] ?_
    ·exact ⟨aI, 5, false, rfl, rfl, fun h => rfl, fun h => absurd h (by omega)⟩
   refine kc 6 [13, 14, 10, 8, 0] 0 ?_
   have hall := hinv.2
   rw [List.take_of_length_le (by omega)] at hall
   have hlv := pa (gl := gl) es false ps' ls (by omega) (by omega) (fun u hu => by have := hlz u hu; omega) k3 m3 s3 l3 a3 hTz
   refine gc 6 ?_;refine oc (ay Hw rfl rfl rfl rfl (hlv) [0, 1] (bh (cu .nil)) rfl rfl rfl rfl (an (bd (an (an .nil)))) (fun s ob' hq => ?_) (fun s ob' hq => ?_))
   rotate_left
   ·obtain ⟨_, _, hq1, _⟩ := hq; cases hq1
   obtain ⟨⟨k6, m6, s6, l6, a6⟩, w6, hq1, rfl, hw6⟩ := hq; cases hq1; refine ⟨_, _, _, _, _, rfl, rfl, rfl, rfl, rfl, ?_⟩;refine ko 5 [18, 10, 0] 8 ?_;refine cj (fun h26 => ?_) (fun h26 => ?_)
   ·refine kc 0 [10] 11 ?_;refine eo (.cb [aI.d, .v (.int .i64 14)]) [0, 1] [aP es w6, aN] ?_
    ·exact ⟨aI, 14, w6, rfl, rfl, fun h => rfl, fun h => absurd h (by omega)⟩
   refine kc 2 [18, 10] 10 ?_;refine eo (.cb [(ae.mk k6 m6 s6 l6 a6).d, .v (.int .i64 0)]) [0, 1] [aP es w6, aN] ?_
   ·rcases hw6 with ⟨rfl, _, h7, h8⟩ | ⟨h7, _⟩
    ·refine ⟨_, 0, false, rfl, rfl, fun h => rfl, fun _ => ⟨rfl, ?_, .base ?_ (by omega)⟩⟩
     ·refine ⟨hall, trivial, .inr (.inr (.inl ⟨rfl, rfl, ?_, rfl⟩))⟩
      unfold eB; rw [hT]; simp only [Option.map_some, Option.some.injEq]; omega
     ·rw [h7]; exact (Wt.Gs (by omega) hall hTw).up (Int.natCast_nonneg _)
    ·exfalso; simp_all
end Go.Proofs.YtndbnldjidciiaaGreatDoor
namespace Go.Proofs.YtndbnldjidciiaaGreatDoor
open Go Go.Vd Go.RowKit
attribute [local irreducible] bl br de aj bI cY
variable {g gl : Nat → List D}
variable {es : List cq} {ps : List ByteArray} {S : Nat}
theorem qQ.app {ctx : List ae} {a : ae} (h : qQ es ps S ctx) (ha : Wt (eB es) ps a ctx.length) (hz : a.size ≤ S) : qQ es ps S (ctx ++ [a]) := by
 intro i x hx
 rcases Nat.lt_or_ge i ctx.length with hi | hi
 ·rw [List.getElem?_append_left hi] at hx; exact h i x hx
 ·rw [List.getElem?_append_right hi] at hx
  have h3 := (List.getElem?_eq_some_iff.1 hx).1
  simp only [List.length_cons, List.length_nil] at h3
  obtain rfl : i = ctx.length := by omega
  rw [Nat.sub_self] at hx
  cases hx
  exact ⟨ha, hz⟩
theorem zz (ctx : List ae) (a : ae) : (ctx ++ [a]).length = ctx.length + 1 := by simp
variable {most : Nat}
set_option maxHeartbeats 800000 in
theorem vR (hE : cP es) (hm : most ≤ 1000000) (hS : S ≤ 1000000000 ∧ 20000 ≤ S) (k1 m1 : Int) (s1 : ByteArray) (l1 : List aJ) (a1 : List ae) (k2 m2 : Int) (s2 : ByteArray) (l2 : List aJ) (a2 : List ae) (hI1 : v7 gl es ps most S (.mk k1 m1 s1 l1 a1)) (hI2 : v7 gl es ps most S (.mk k2 m2 s2 l2 a2)) : v7 gl es ps most S (.mk 4 0 .empty [] [.mk k1 m1 s1 l1 a1, .mk k2 m2 s2 l2 a2]) := by
 intro ctx w hctx hlen hz hsh
 have hdep := CV (k := 4) (.inl rfl) 0 .empty [] (.mk k1 m1 s1 l1 a1) (.mk k2 m2 s2 l2 a2)
 have hzz : 1 + ((ae.mk k1 m1 s1 l1 a1).size + ((ae.mk k2 m2 s2 l2 a2).size + 0)) ≤ S := by simp only [ae.size, aS, ai] at hz ⊢; omega
 have hl1 := zz ctx (.mk k1 m1 s1 l1 a1)
 have hex := iO (gl := gl) ctx k1 m1 s1 l1 a1 (by omega)
 generalize hT : ae.mk 4 0 .empty [] [.mk k1 m1 s1 l1 a1, .mk k2 m2 s2 l2 a2] = T at hdep hlen
 have hTd : T.d = (ae.mk 4 0 .empty [] [.mk k1 m1 s1 l1 a1, .mk k2 m2 s2 l2 a2]).d := by rw [hT]
 rw [hTd]
 refine bS Tryz.func36 Tryz.ntmps36 2 ?_;refine gc 16 ?_;refine cj (fun h1 => ?_) (fun h1 => ?_)
 ·refine kc 0 [10] 9 ?_;refine eo (.cb [aI.d, .v (.int .i64 14)]) [0, 1] [aP es w, aN] ?_
  ·exact ⟨aI, 14, w, rfl, rfl, fun h => h, fun h => absurd h (by omega)⟩
 refine kc 4 [10, 8, 0, 1, 2, 4] 0 ?_; obtain rfl := h1; refine gc 12 ?_;refine cf ?_;refine gc 6 ?_;refine cf ?_;refine kc 0 [35, 10, 8, 0, 1, 2, 4] 6 ?_;refine cf ?_;refine gc 6 ?_;refine cf ?_;refine kc 0 [35, 10, 8, 0, 1, 2, 4] 6 ?_;refine ct ?_;refine gc 1 ?_
 have hso := iS (gl := gl) hE hm hS.1 k1 m1 s1 l1 a1 hI1 ctx false hctx (by omega) (by omega) hsh.2.1.1
 refine gc 6 ?_;refine o1 (bV bE bK ?_ (he := by exact (rfl)));refine go 2 ?_;refine oc (ay vh rfl rfl rfl rfl (hso) [0, 1] (bh (cu .nil)) rfl rfl rfl rfl (an (an (an (bd (an .nil))))) (fun s ob' hq => ?_) (fun s ob' hq => ?_))
 rotate_left
 ·obtain ⟨_, _, _, hq1, _⟩ := hq; cases hq1
 obtain ⟨⟨kl, sl, al⟩, c1, w1, hq1, rfl, hq2, hq3⟩ := hq; cases hq1; refine ⟨_, _, _, _, _, rfl, rfl, rfl, rfl, rfl, ?_⟩;refine ko 9 [20, 10, 8, 0, 1, 2, 4] 6 ?_;refine cj (fun h33 => ?_) (fun h33 => ?_)
 ·refine kc 0 [20, 10] 12 ?_;refine eo (.cb [aI.d, .v (.int .i64 c1)]) [0, 1] [aP es w1, aN] ?_
  ·exact ⟨aI, c1, w1, rfl, rfl, fun h => rfl, fun h => absurd h (by omega)⟩
 refine gc 3 ?_; obtain ⟨rfl, hWt1, hlv⟩ := hq3 (by omega)
 have hin2 := hI2 (ctx ++ [.mk k1 m1 s1 l1 a1]) false (hctx.app hWt1 (by omega)) (by omega) (by omega) hsh.2.1.2.1
 refine gz [0, 1, 2, 3, 4] mixed ?_;refine A1 5 rfl (bV bE bK ⟨_, rfl, ?_⟩ (he := by exact (rfl)));refine ga [6, 8, 9] ?_;refine A1 10 rfl (bV bE bK ⟨_, rfl, ?_⟩ (he := by exact (rfl)));refine ga [11, 12] ?_;refine dj (rs := [7, 17]) (by kernel_rfl) rfl ⟨?_, ?_, trivial⟩
 ·skip
  refine A4 7 rfl (cv Ea rfl rfl (hex) (an (bd .nil)) ?_);refine dj (rs := [13, 17]) (by kernel_rfl) rfl ⟨?_, ?_, trivial⟩
  ·skip
   refine A4 13 rfl (ay vY rfl rfl rfl rfl (hin2) [0, 1] (bh (cu .nil)) rfl rfl rfl rfl (an (an (an (bd (an .nil))))) (fun s ob' hq => ?_) (fun s ob' hq => ?_))
   rotate_left
   ·obtain ⟨_, _, _, hq1, _⟩ := hq; cases hq1
   obtain ⟨⟨k4, m4, s4, l4, a4⟩, c4, w4, hq1, rfl, hq7, hq8⟩ := hq; cases hq1; refine ⟨_, _, _, _, _, rfl, rfl, rfl, rfl, rfl, ?_⟩;refine ga [14, 15, 16] ?_;refine A2 17 rfl (tE bM ?_);refine A2 18 rfl (eD bM ?_);refine ga [19] ?_;refine aQ ?_;refine ke 2 [20, 21, 10, 8] 6 ?_;refine cj (fun h36 => ?_) (fun h36 => ?_)
   ·refine kc 0 [20, 10] 12 ?_;refine eo (.cb [aI.d, .v (.int .i64 c4)]) [0, 1] [aP es w4, aN] ?_
    ·exact ⟨aI, c4, w4, rfl, rfl, fun h => rfl, fun h => absurd h (by omega)⟩
   refine gc 3 ?_;refine gz [0, 1] mixed ?_;refine A1 2 rfl (bV bE bK ⟨_, rfl, ?_⟩ (he := by exact (rfl)));refine ga [3, 4] ?_;refine A2 5 rfl (cv Hv rfl rfl (qz k1 m1 s1 l1 a1 k4 m4 s4 l4 a4) (bd (bd .nil)) ?_);refine A2 6 rfl (eD bM ?_);refine ga [7] ?_;refine aQ ?_;refine ge 4 ?_;refine eo (.cb [(ae.mk 5 0 .empty [] [.mk k1 m1 s1 l1 a1, .mk k4 m4 s4 l4 a4]).d, .v (.int .i64 0)]) [0, 1] [aP es w4, aN] ?_
   ·obtain ⟨rfl, hWt2, hHT2⟩ := hq8 (by omega)
    rw [hl1] at hWt2 hHT2
    refine ⟨_, 0, false, rfl, rfl, fun h => rfl, fun _ => ⟨rfl, ?_, ?_⟩⟩
    ·rw [← hT]; exact Wt.bind (.inl rfl) hWt1 hWt2
    ·exact (HT.pi hWt1 (by omega) hHT2).mono (Nat.le_refl _) (by omega)
  ·skip
   refine A4 17 rfl (tE bM ?_);refine A2 13 rfl (ay vY rfl rfl rfl rfl (hin2) [0, 1] (bh (cu .nil)) rfl rfl rfl rfl (an (an (an (bd (an .nil))))) (fun s ob' hq => ?_) (fun s ob' hq => ?_))
   rotate_left
   ·obtain ⟨_, _, _, hq1, _⟩ := hq; cases hq1
   obtain ⟨⟨k4, m4, s4, l4, a4⟩, c4, w4, hq1, rfl, hq7, hq8⟩ := hq; cases hq1; refine ⟨_, _, _, _, _, rfl, rfl, rfl, rfl, rfl, ?_⟩;refine ga [14, 15, 16] ?_;refine A2 18 rfl (eD bM ?_);refine ga [19] ?_;refine aQ ?_;refine ke 2 [20, 21, 10, 8] 6 ?_;refine cj (fun h36 => ?_) (fun h36 => ?_)
   ·refine kc 0 [20, 10] 12 ?_;refine eo (.cb [aI.d, .v (.int .i64 c4)]) [0, 1] [aP es w4, aN] ?_
    ·exact ⟨aI, c4, w4, rfl, rfl, fun h => rfl, fun h => absurd h (by omega)⟩
   refine gc 3 ?_;refine gz [0, 1] mixed ?_;refine A1 2 rfl (bV bE bK ⟨_, rfl, ?_⟩ (he := by exact (rfl)));refine ga [3, 4] ?_;refine A2 5 rfl (cv Hv rfl rfl (qz k1 m1 s1 l1 a1 k4 m4 s4 l4 a4) (bd (bd .nil)) ?_);refine A2 6 rfl (eD bM ?_);refine ga [7] ?_;refine aQ ?_;refine ge 4 ?_;refine eo (.cb [(ae.mk 5 0 .empty [] [.mk k1 m1 s1 l1 a1, .mk k4 m4 s4 l4 a4]).d, .v (.int .i64 0)]) [0, 1] [aP es w4, aN] ?_
   ·obtain ⟨rfl, hWt2, hHT2⟩ := hq8 (by omega)
    rw [hl1] at hWt2 hHT2
    refine ⟨_, 0, false, rfl, rfl, fun h => rfl, fun _ => ⟨rfl, ?_, ?_⟩⟩
    ·rw [← hT]; exact Wt.bind (.inl rfl) hWt1 hWt2
    ·exact (HT.pi hWt1 (by omega) hHT2).mono (Nat.le_refl _) (by omega)
 ·skip
  refine A4 17 rfl (tE bM ?_);refine A2 7 rfl (cv Ea rfl rfl (hex) (an (bd .nil)) ?_);refine A2 13 rfl (ay vY rfl rfl rfl rfl (hin2) [0, 1] (bh (cu .nil)) rfl rfl rfl rfl (an (an (an (bd (an .nil))))) (fun s ob' hq => ?_) (fun s ob' hq => ?_))
  rotate_left
  ·obtain ⟨_, _, _, hq1, _⟩ := hq; cases hq1
  obtain ⟨⟨k4, m4, s4, l4, a4⟩, c4, w4, hq1, rfl, hq7, hq8⟩ := hq; cases hq1; refine ⟨_, _, _, _, _, rfl, rfl, rfl, rfl, rfl, ?_⟩;refine ga [14, 15, 16] ?_;refine A2 18 rfl (eD bM ?_);refine ga [19] ?_;refine aQ ?_;refine ke 2 [20, 21, 10, 8] 6 ?_;refine cj (fun h36 => ?_) (fun h36 => ?_)
  ·refine kc 0 [20, 10] 12 ?_;refine eo (.cb [aI.d, .v (.int .i64 c4)]) [0, 1] [aP es w4, aN] ?_
   ·exact ⟨aI, c4, w4, rfl, rfl, fun h => rfl, fun h => absurd h (by omega)⟩
  refine gc 3 ?_;refine gz [0, 1] mixed ?_;refine A1 2 rfl (bV bE bK ⟨_, rfl, ?_⟩ (he := by exact (rfl)));refine ga [3, 4] ?_;refine A2 5 rfl (cv Hv rfl rfl (qz k1 m1 s1 l1 a1 k4 m4 s4 l4 a4) (bd (bd .nil)) ?_);refine A2 6 rfl (eD bM ?_);refine ga [7] ?_;refine aQ ?_;refine ge 4 ?_;refine eo (.cb [(ae.mk 5 0 .empty [] [.mk k1 m1 s1 l1 a1, .mk k4 m4 s4 l4 a4]).d, .v (.int .i64 0)]) [0, 1] [aP es w4, aN] ?_
  ·obtain ⟨rfl, hWt2, hHT2⟩ := hq8 (by omega)
   rw [hl1] at hWt2 hHT2
   refine ⟨_, 0, false, rfl, rfl, fun h => rfl, fun _ => ⟨rfl, ?_, ?_⟩⟩
   ·rw [← hT]; exact Wt.bind (.inl rfl) hWt1 hWt2
   ·exact (HT.pi hWt1 (by omega) hHT2).mono (Nat.le_refl _) (by omega)
set_option maxHeartbeats 800000 in
theorem xW (hE : cP es) (hm : most ≤ 1000000) (hS : S ≤ 1000000000 ∧ 20000 ≤ S) (k1 m1 : Int) (s1 : ByteArray) (l1 : List aJ) (a1 : List ae) (k2 m2 : Int) (s2 : ByteArray) (l2 : List aJ) (a2 : List ae) (hI1 : v7 gl es ps most S (.mk k1 m1 s1 l1 a1)) (hI2 : v7 gl es ps most S (.mk k2 m2 s2 l2 a2)) : v7 gl es ps most S (.mk 5 0 .empty [] [.mk k1 m1 s1 l1 a1, .mk k2 m2 s2 l2 a2]) := by
 intro ctx w hctx hlen hz hsh
 have hdep := CV (k := 5) (.inr rfl) 0 .empty [] (.mk k1 m1 s1 l1 a1) (.mk k2 m2 s2 l2 a2)
 have hzz : 1 + ((ae.mk k1 m1 s1 l1 a1).size + ((ae.mk k2 m2 s2 l2 a2).size + 0)) ≤ S := by simp only [ae.size, aS, ai] at hz ⊢; omega
 have hl1 := zz ctx (.mk k1 m1 s1 l1 a1)
 have hex := iO (gl := gl) ctx k1 m1 s1 l1 a1 (by omega)
 generalize hT : ae.mk 5 0 .empty [] [.mk k1 m1 s1 l1 a1, .mk k2 m2 s2 l2 a2] = T at hdep hlen
 have hTd : T.d = (ae.mk 5 0 .empty [] [.mk k1 m1 s1 l1 a1, .mk k2 m2 s2 l2 a2]).d := by rw [hT]
 rw [hTd]
 refine bS Tryz.func36 Tryz.ntmps36 2 ?_;refine gc 16 ?_;refine cj (fun h1 => ?_) (fun h1 => ?_)
 ·refine kc 0 [10] 9 ?_;refine eo (.cb [aI.d, .v (.int .i64 14)]) [0, 1] [aP es w, aN] ?_
  ·exact ⟨aI, 14, w, rfl, rfl, fun h => h, fun h => absurd h (by omega)⟩
 refine kc 4 [10, 8, 0, 1, 2, 4] 0 ?_; obtain rfl := h1; refine gc 12 ?_;refine cf ?_;refine gc 6 ?_;refine cf ?_;refine kc 0 [35, 10, 8, 0, 1, 2, 4] 6 ?_;refine cf ?_;refine gc 6 ?_;refine cf ?_;refine kc 0 [35, 10, 8, 0, 1, 2, 4] 6 ?_;refine cf ?_;refine gc 6 ?_;refine ct ?_;refine kc 1 [10, 8, 0, 1, 2, 4] 0 ?_
 have hso := iS (gl := gl) hE hm hS.1 k1 m1 s1 l1 a1 hI1 ctx false hctx (by omega) (by omega) hsh.2.1.1
 refine gc 6 ?_;refine o1 (bV bE bK ?_ (he := by exact (rfl)));refine go 2 ?_;refine oc (ay vh rfl rfl rfl rfl (hso) [0, 1] (bh (cu .nil)) rfl rfl rfl rfl (an (an (an (bd (an .nil))))) (fun s ob' hq => ?_) (fun s ob' hq => ?_))
 rotate_left
 ·obtain ⟨_, _, _, hq1, _⟩ := hq; cases hq1
 obtain ⟨⟨kl, sl, al⟩, c1, w1, hq1, rfl, hq2, hq3⟩ := hq; cases hq1; refine ⟨_, _, _, _, _, rfl, rfl, rfl, rfl, rfl, ?_⟩;refine ko 9 [23, 22, 10, 8, 0, 1, 2, 4] 6 ?_;refine cj (fun h41 => ?_) (fun h41 => ?_)
 ·refine kc 0 [23, 10] 12 ?_;refine eo (.cb [aI.d, .v (.int .i64 c1)]) [0, 1] [aP es w1, aN] ?_
  ·exact ⟨aI, c1, w1, rfl, rfl, fun h => rfl, fun h => absurd h (by omega)⟩
 refine gc 3 ?_; obtain ⟨rfl, hWt1, hlv⟩ := hq3 (by omega)
 have hso2 := iS (gl := gl) hE hm hS.1 k2 m2 s2 l2 a2 hI2 (ctx ++ [.mk k1 m1 s1 l1 a1]) false (hctx.app hWt1 (by omega)) (by omega) (by omega) hsh.2.1.2.1
 refine gz [0, 1, 2, 3, 4] mixed ?_;refine A1 5 rfl (bV bE bK ⟨_, rfl, ?_⟩ (he := by exact (rfl)));refine ga [6, 8, 9] ?_;refine A1 10 rfl (bV bE bK ⟨_, rfl, ?_⟩ (he := by exact (rfl)));refine ga [11, 12] ?_;refine dj (rs := [7, 17]) (by kernel_rfl) rfl ⟨?_, ?_, trivial⟩
 ·skip
  refine A4 7 rfl (cv Ea rfl rfl (hex) (an (bd .nil)) ?_);refine dj (rs := [13, 17]) (by kernel_rfl) rfl ⟨?_, ?_, trivial⟩
  ·skip
   refine A4 13 rfl (ay vh rfl rfl rfl rfl (hso2) [0, 1] (bh (cu .nil)) rfl rfl rfl rfl (an (an (an (bd (an .nil))))) (fun s ob' hq => ?_) (fun s ob' hq => ?_))
   rotate_left
   ·obtain ⟨_, _, _, hq1, _⟩ := hq; cases hq1
   obtain ⟨⟨kr, sr', ar⟩, c4, w4, hq1, rfl, hq7, hq8⟩ := hq; cases hq1; refine ⟨_, _, _, _, _, rfl, rfl, rfl, rfl, rfl, ?_⟩;refine ga [14, 15, 16] ?_;refine A2 17 rfl (tE dB ?_);refine A2 18 rfl (eD dB ?_);refine ga [19] ?_;refine aQ ?_;refine ke 2 [23, 24, 22, 10] 6 ?_;refine cj (fun h44 => ?_) (fun h44 => ?_)
   ·refine kc 0 [23, 10] 12 ?_;refine eo (.cb [aI.d, .v (.int .i64 c4)]) [0, 1] [aP es w4, aN] ?_
    ·exact ⟨aI, c4, w4, rfl, rfl, fun h => rfl, fun h => absurd h (by omega)⟩
   refine gc 6 ?_;refine oc (gR jD [.tmp 218, .tmp 219] dB ?_);refine go 1 ?_;refine oc (cv Eb rfl rfl (iE 3 .empty [.mk kl sl al, .mk kr sr' ar]) (bd .nil) ?_);refine go 7 ?_;refine eo (.cb [(ae.mk 1 0 .empty [.mk 3 .empty [.mk kl sl al, .mk kr sr' ar]] []).d, .v (.int .i64 0)]) [0, 1] [aP es w4, aN] ?_
   ·obtain ⟨rfl, hWt2, hlv2⟩ := hq8 (by omega)
    rw [hl1] at hWt2
    obtain ⟨x, hx, hfx, hix⟩ := hlv; obtain ⟨y, hy, hfy, hiy⟩ := hlv2
    refine ⟨_, 0, false, rfl, rfl, fun h => rfl, fun _ => ⟨rfl, ?_, .sort ⟨.imax x y, by rw [hx, hy]; rfl, ⟨by decide, by decide, fun e => absurd e (by decide), hfx, hfy, trivial⟩, fun p hp => hp.elim (hix p) (hiy p)⟩⟩⟩
    rw [← hT]; exact Wt.bind (.inr rfl) hWt1 hWt2
  ·skip
   refine A4 17 rfl (tE dB ?_);refine A2 13 rfl (ay vh rfl rfl rfl rfl (hso2) [0, 1] (bh (cu .nil)) rfl rfl rfl rfl (an (an (an (bd (an .nil))))) (fun s ob' hq => ?_) (fun s ob' hq => ?_))
   rotate_left
   ·obtain ⟨_, _, _, hq1, _⟩ := hq; cases hq1
   obtain ⟨⟨kr, sr', ar⟩, c4, w4, hq1, rfl, hq7, hq8⟩ := hq; cases hq1; refine ⟨_, _, _, _, _, rfl, rfl, rfl, rfl, rfl, ?_⟩;refine ga [14, 15, 16] ?_;refine A2 18 rfl (eD dB ?_);refine ga [19] ?_;refine aQ ?_;refine ke 2 [23, 24, 22, 10] 6 ?_;refine cj (fun h44 => ?_) (fun h44 => ?_)
   ·refine kc 0 [23, 10] 12 ?_;refine eo (.cb [aI.d, .v (.int .i64 c4)]) [0, 1] [aP es w4, aN] ?_
    ·exact ⟨aI, c4, w4, rfl, rfl, fun h => rfl, fun h => absurd h (by omega)⟩
   refine gc 6 ?_;refine oc (gR jD [.tmp 218, .tmp 219] dB ?_);refine go 1 ?_;refine oc (cv Eb rfl rfl (iE 3 .empty [.mk kl sl al, .mk kr sr' ar]) (bd .nil) ?_);refine go 7 ?_;refine eo (.cb [(ae.mk 1 0 .empty [.mk 3 .empty [.mk kl sl al, .mk kr sr' ar]] []).d, .v (.int .i64 0)]) [0, 1] [aP es w4, aN] ?_
   ·obtain ⟨rfl, hWt2, hlv2⟩ := hq8 (by omega)
    rw [hl1] at hWt2
    obtain ⟨x, hx, hfx, hix⟩ := hlv; obtain ⟨y, hy, hfy, hiy⟩ := hlv2
    refine ⟨_, 0, false, rfl, rfl, fun h => rfl, fun _ => ⟨rfl, ?_, .sort ⟨.imax x y, by rw [hx, hy]; rfl, ⟨by decide, by decide, fun e => absurd e (by decide), hfx, hfy, trivial⟩, fun p hp => hp.elim (hix p) (hiy p)⟩⟩⟩
    rw [← hT]; exact Wt.bind (.inr rfl) hWt1 hWt2
 ·skip
  refine A4 17 rfl (tE dB ?_);refine A2 7 rfl (cv Ea rfl rfl (hex) (an (bd .nil)) ?_);refine A2 13 rfl (ay vh rfl rfl rfl rfl (hso2) [0, 1] (bh (cu .nil)) rfl rfl rfl rfl (an (an (an (bd (an .nil))))) (fun s ob' hq => ?_) (fun s ob' hq => ?_))
  rotate_left
  ·obtain ⟨_, _, _, hq1, _⟩ := hq; cases hq1
  obtain ⟨⟨kr, sr', ar⟩, c4, w4, hq1, rfl, hq7, hq8⟩ := hq; cases hq1; refine ⟨_, _, _, _, _, rfl, rfl, rfl, rfl, rfl, ?_⟩;refine ga [14, 15, 16] ?_;refine A2 18 rfl (eD dB ?_);refine ga [19] ?_;refine aQ ?_;refine ke 2 [23, 24, 22, 10] 6 ?_;refine cj (fun h44 => ?_) (fun h44 => ?_)
  ·refine kc 0 [23, 10] 12 ?_;refine eo (.cb [aI.d, .v (.int .i64 c4)]) [0, 1] [aP es w4, aN] ?_
   ·exact ⟨aI, c4, w4, rfl, rfl, fun h => rfl, fun h => absurd h (by omega)⟩
  refine gc 6 ?_;refine oc (gR jD [.tmp 218, .tmp 219] dB ?_);refine go 1 ?_;refine oc (cv Eb rfl rfl (iE 3 .empty [.mk kl sl al, .mk kr sr' ar]) (bd .nil) ?_);refine go 7 ?_;refine eo (.cb [(ae.mk 1 0 .empty [.mk 3 .empty [.mk kl sl al, .mk kr sr' ar]] []).d, .v (.int .i64 0)]) [0, 1] [aP es w4, aN] ?_
  ·obtain ⟨rfl, hWt2, hlv2⟩ := hq8 (by omega)
   rw [hl1] at hWt2
   obtain ⟨x, hx, hfx, hix⟩ := hlv; obtain ⟨y, hy, hfy, hiy⟩ := hlv2
   refine ⟨_, 0, false, rfl, rfl, fun h => rfl, fun _ => ⟨rfl, ?_, .sort ⟨.imax x y, by rw [hx, hy]; rfl, ⟨by decide, by decide, fun e => absurd e (by decide), hfx, hfy, trivial⟩, fun p hp => hp.elim (hix p) (hiy p)⟩⟩⟩
   rw [← hT]; exact Wt.bind (.inr rfl) hWt1 hWt2
set_option maxHeartbeats 1600000 in
theorem vQ (hE : cP es) (hL : ps.length ≤ 6) (hm : most ≤ 1000000) (hS : S ≤ 1000000000 ∧ 20000 ≤ S) (k1 m1 : Int) (s1 : ByteArray) (l1 : List aJ) (a1 : List ae) (k2 m2 : Int) (s2 : ByteArray) (l2 : List aJ) (a2 : List ae) (k3 m3 : Int) (s3 : ByteArray) (l3 : List aJ) (a3 : List ae) (hI1 : v7 gl es ps most S (.mk k1 m1 s1 l1 a1)) (hI2 : v7 gl es ps most S (.mk k2 m2 s2 l2 a2)) (hI3 : v7 gl es ps most S (dK (.mk k3 m3 s3 l3 a3) (.mk k2 m2 s2 l2 a2))) : v7 gl es ps most S (.mk 6 0 .empty [] [.mk k1 m1 s1 l1 a1, .mk k2 m2 s2 l2 a2, .mk k3 m3 s3 l3 a3]) := by
 intro ctx w hctx hlen hz hsh
 have hdep := Hn 0 .empty [] (a := .mk k1 m1 s1 l1 a1) hsh.2.1.2.1 hsh.2.1.2.2.1
 have hzz : 1 + ((ae.mk k1 m1 s1 l1 a1).size + ((ae.mk k2 m2 s2 l2 a2).size + ((ae.mk k3 m3 s3 l3 a3).size + 0))) ≤ S := by simp only [ae.size, aS, ai] at hz ⊢; omega
 have hsu := mH (gl := gl) es false (B := 4398046511104) (B' := 4398046511104) (by omega) (by omega) k3 m3 s3 l3 a3 k2 m2 s2 l2 a2 (by omega) (by omega) hsh.2.1.2.2.1 hsh.2.1.2.1
 have hIw : v7 gl es ps most S ib := oE hL hS.1 0 .empty []
 generalize hT : ae.mk 6 0 .empty [] [.mk k1 m1 s1 l1 a1, .mk k2 m2 s2 l2 a2, .mk k3 m3 s3 l3 a3] = T at hdep hlen
 have hTd : T.d = (ae.mk 6 0 .empty [] [.mk k1 m1 s1 l1 a1, .mk k2 m2 s2 l2 a2, .mk k3 m3 s3 l3 a3]).d := by rw [hT]
 rw [hTd]
 refine bS Tryz.func36 Tryz.ntmps36 2 ?_;refine gc 16 ?_;refine cj (fun h1 => ?_) (fun h1 => ?_)
 ·refine kc 0 [10] 9 ?_;refine eo (.cb [aI.d, .v (.int .i64 14)]) [0, 1] [aP es w, aN] ?_
  ·exact ⟨aI, 14, w, rfl, rfl, fun h => h, fun h => absurd h (by omega)⟩
 refine kc 4 [10, 8, 0, 1, 2, 4] 0 ?_; obtain rfl := h1; refine gc 12 ?_;refine cf ?_;refine gc 6 ?_;refine cf ?_;refine kc 0 [35, 10, 8, 0, 1, 2, 4] 6 ?_;refine cf ?_;refine gc 6 ?_;refine cf ?_;refine kc 0 [35, 10, 8, 0, 1, 2, 4] 6 ?_;refine cf ?_;refine gc 6 ?_;refine cf ?_;refine kc 4 [10, 8, 0, 1, 2, 4] 0 ?_
 have hso := iS (gl := gl) hE hm hS.1 k1 m1 s1 l1 a1 hI1 ctx false hctx (by omega) (by omega) hsh.2.1.1
 refine gc 6 ?_;refine o1 (bV bE bK ?_ (he := by exact (rfl)));refine go 2 ?_;refine oc (ay vh rfl rfl rfl rfl (hso) [0, 1] (bh (cu .nil)) rfl rfl rfl rfl (an (an (an (bd (an .nil))))) (fun s ob' hq => ?_) (fun s ob' hq => ?_))
 rotate_left
 ·obtain ⟨_, _, _, hq1, _⟩ := hq; cases hq1
 obtain ⟨⟨kl, sl, al⟩, c1, w1, hq1, rfl, hq2, hq3⟩ := hq; cases hq1; refine ⟨_, _, _, _, _, rfl, rfl, rfl, rfl, rfl, ?_⟩;refine ko 9 [26, 10, 8, 0, 1, 2, 4] 6 ?_;refine cj (fun h48 => ?_) (fun h48 => ?_)
 ·refine kc 0 [26, 10] 10 ?_;refine eo (.cb [aI.d, .v (.int .i64 c1)]) [0, 1] [aP es w1, aN] ?_
  ·exact ⟨aI, c1, w1, rfl, rfl, fun h => rfl, fun h => absurd h (by omega)⟩
 refine gc 3 ?_; obtain ⟨rfl, hWt1, hlv⟩ := hq3 (by omega)
 have hin2 := hI2 ctx false hctx (by omega) (by omega) hsh.2.1.2.1
 refine gc 6 ?_;refine o1 (bV bE bK ?_ (he := by exact (rfl)));refine go 2 ?_;refine oc (ay vY rfl rfl rfl rfl (hin2) [0, 1] (bh (cu .nil)) rfl rfl rfl rfl (an (an (an (bd (an .nil))))) (fun s ob' hq => ?_) (fun s ob' hq => ?_))
 rotate_left
 ·obtain ⟨_, _, _, hq1, _⟩ := hq; cases hq1
 obtain ⟨⟨k4, m4, s4, l4, a4⟩, c4, w4, hq1, rfl, hq7, hq8⟩ := hq; cases hq1; refine ⟨_, _, _, _, _, rfl, rfl, rfl, rfl, rfl, ?_⟩;refine ko 9 [26, 27, 10, 8, 0, 1, 2, 4] 6 ?_;refine cj (fun h51 => ?_) (fun h51 => ?_)
 ·refine kc 0 [26, 10] 10 ?_;refine eo (.cb [aI.d, .v (.int .i64 c4)]) [0, 1] [aP es w4, aN] ?_
  ·exact ⟨aI, c4, w4, rfl, rfl, fun h => rfl, fun h => absurd h (by omega)⟩
 refine gc 3 ?_; obtain ⟨rfl, hWt2, hHT2⟩ := hq8 (by omega)
 have hmu := rl (gl := gl) hE hL (c := (ctx.length : Int)) (Int.natCast_nonneg _) (most := most) (S := S) (n := dep (.mk k2 m2 s2 l2 a2)) (n2 := 0) hm false k4 m4 s4 l4 a4 k1 m1 s1 l1 a1 (by omega) (by omega) hHT2 (.base hWt1 (by omega))
 refine gz [0, 1, 2, 3] mixed ?_;refine A1 4 rfl (bV bE bK ⟨_, rfl, ?_⟩ (he := by exact (rfl)));refine ga [5, 6] ?_;refine A2 7 rfl (ay Ju rfl rfl rfl rfl (hmu) [0, 1] (bh (cu .nil)) rfl rfl rfl rfl (an (bd (bd (an .nil)))) (fun s ob' hq => ?_) (fun s ob' hq => ?_))
 rotate_left
 ·obtain ⟨_, _, hq1, _⟩ := hq; cases hq1
 obtain ⟨c5, w5, hq1, rfl, hq9, hq10⟩ := hq; cases hq1; refine ⟨_, _, _, _, _, rfl, rfl, rfl, rfl, rfl, ?_⟩;refine ga [8] ?_;refine aQ ?_;refine ke 2 [26, 10, 8, 0, 1, 2, 4] 6 ?_;refine cj (fun h54 => ?_) (fun h54 => ?_)
 ·refine kc 0 [26, 10] 10 ?_;refine eo (.cb [aI.d, .v (.int .i64 c5)]) [0, 1] [aP es w5, aN] ?_
  ·exact ⟨aI, c5, w5, rfl, rfl, fun h => rfl, fun h => absurd h (by omega)⟩
 refine gc 3 ?_; obtain rfl := hq9 (by omega); refine gz [0, 1, 2] mixed ?_;refine A1 3 rfl (bV bE bK ⟨_, rfl, ?_⟩ (he := by exact (rfl)));refine ga [4, 5, 6] ?_;refine A1 7 rfl (bV bE bK ⟨_, rfl, ?_⟩ (he := by exact (rfl)));refine ga [8] ?_;refine dj (rs := [9, 10]) (by kernel_rfl) rfl ⟨?_, ?_, trivial⟩
 ·skip
  refine A4 9 rfl (ay BQ rfl rfl rfl rfl (hsu) [0, 1] (bh (cu .nil)) rfl rfl rfl rfl (an (bd (bd .nil))) (fun s ob' hq => ?_) (fun s ob' hq => ?_))
  rotate_left
  ·obtain ⟨_, _, hq1, _⟩ := hq; cases hq1
  obtain ⟨⟨k6, m6, s6, l6, a6⟩, w6, hq1, rfl, hw6⟩ := hq; cases hq1; refine ⟨_, _, _, _, _, rfl, rfl, rfl, rfl, rfl, ?_⟩;refine A2 10 rfl (tE bM ?_);refine A2 11 rfl (eD bM ?_);refine aQ ?_;refine ke 2 [28, 10, 0, 1, 2, 4] 0 ?_
  skip
  have hin3 : ey Tryz.prog gl 36 [aP es w6, aN] [.bZ 0 0, .d (c6 ps), .d (.sl 5 (ba ctx)), .d (ae.mk k6 m6 s6 l6 a6).d, .d (.v (.int .i64 most))] (fun out ob' => ∃ (u : ae) (code : Int) (w' : Bool), out = .ret (.d (.cb [u.d, .v (.int .i64 code)])) ∧ ob' = [aP es w', aN] ∧ (code = 0 → w' = false ∧ Wt (eB es) ps (ae.mk k3 m3 s3 l3 a3) (ctx.length + 1) ∧ HT (eB es) ps S (dep T) u ctx.length)) := by
   rcases hw6 with ⟨rfl, _, h7, h8⟩ | ⟨rfl, h7⟩
   ·rw [h7] at h8 ⊢
    refine (hI3 ctx false hctx (by omega) (by omega) (Cq (Int.natCast_nonneg _) hWt2 (by omega) hsh.2.1.2.2.1)).mono fun o b hh => ?_; obtain ⟨u, code, w', r1, r2, r3, r4⟩ := hh
    exact ⟨u, code, w', r1, r2, fun e => ⟨(r4 e).1, Wt.HI (Int.natCast_nonneg _) hsh.2.1.2.2.1 (r4 e).2.1, (r4 e).2.2.mono (Nat.le_refl _) (by omega)⟩⟩
   ·rw [h7]
    refine (hIw ctx true hctx (by have : dep ib = 0 := rfl; omega) (by have : ib.size = 2 := rfl; omega) (Wt.sh (tJ (sg := eB es) (ps := ps) (c := 0)) (by have : ib.size = 2 := rfl; omega))).mono fun o b hh => ?_
    obtain ⟨u, code, w', r1, r2, r3, r4⟩ := hh; exact ⟨u, code, w', r1, r2, fun e => absurd (r3 (r4 e).1) (by decide)⟩
  refine gc 6 ?_;refine oc (ay vY rfl rfl rfl rfl (hin3) [0, 1] (bh (cu .nil)) rfl rfl rfl rfl (an (an (an (bd (an .nil))))) (fun s ob' hq => ?_) (fun s ob' hq => ?_))
  rotate_left
  ·obtain ⟨_, _, _, hq1, _⟩ := hq; cases hq1
  obtain ⟨⟨k8, m8, s8, l8, a8⟩, c8, w8, hq1, rfl, hq11⟩ := hq; cases hq1; refine ⟨_, _, _, _, _, rfl, rfl, rfl, rfl, rfl, ?_⟩;refine go 7 ?_;refine eo (.cb [(ae.mk k8 m8 s8 l8 a8).d, .v (.int .i64 c8)]) [0, 1] [aP es w8, aN] ?_
  ·refine ⟨_, c8, w8, rfl, rfl, fun h => rfl, fun e => ?_⟩
   obtain ⟨r1, r2, r3⟩ := hq11 e; refine ⟨r1, ?_, r3⟩
   rw [← hT]; exact Wt.J8 hWt1 hWt2 r2
 ·skip
  refine A4 10 rfl (tE bM ?_);refine A2 9 rfl (ay BQ rfl rfl rfl rfl (hsu) [0, 1] (bh (cu .nil)) rfl rfl rfl rfl (an (bd (bd .nil))) (fun s ob' hq => ?_) (fun s ob' hq => ?_))
  rotate_left
  ·obtain ⟨_, _, hq1, _⟩ := hq; cases hq1
  obtain ⟨⟨k6, m6, s6, l6, a6⟩, w6, hq1, rfl, hw6⟩ := hq; cases hq1; refine ⟨_, _, _, _, _, rfl, rfl, rfl, rfl, rfl, ?_⟩;refine A2 11 rfl (eD bM ?_);refine aQ ?_;refine ke 2 [28, 10, 0, 1, 2, 4] 0 ?_
  skip
  have hin3 : ey Tryz.prog gl 36 [aP es w6, aN] [.bZ 0 0, .d (c6 ps), .d (.sl 5 (ba ctx)), .d (ae.mk k6 m6 s6 l6 a6).d, .d (.v (.int .i64 most))] (fun out ob' => ∃ (u : ae) (code : Int) (w' : Bool), out = .ret (.d (.cb [u.d, .v (.int .i64 code)])) ∧ ob' = [aP es w', aN] ∧ (code = 0 → w' = false ∧ Wt (eB es) ps (ae.mk k3 m3 s3 l3 a3) (ctx.length + 1) ∧ HT (eB es) ps S (dep T) u ctx.length)) := by
   rcases hw6 with ⟨rfl, _, h7, h8⟩ | ⟨rfl, h7⟩
   ·rw [h7] at h8 ⊢
    refine (hI3 ctx false hctx (by omega) (by omega) (Cq (Int.natCast_nonneg _) hWt2 (by omega) hsh.2.1.2.2.1)).mono fun o b hh => ?_; obtain ⟨u, code, w', r1, r2, r3, r4⟩ := hh
    exact ⟨u, code, w', r1, r2, fun e => ⟨(r4 e).1, Wt.HI (Int.natCast_nonneg _) hsh.2.1.2.2.1 (r4 e).2.1, (r4 e).2.2.mono (Nat.le_refl _) (by omega)⟩⟩
   ·rw [h7]
    refine (hIw ctx true hctx (by have : dep ib = 0 := rfl; omega) (by have : ib.size = 2 := rfl; omega) (Wt.sh (tJ (sg := eB es) (ps := ps) (c := 0)) (by have : ib.size = 2 := rfl; omega))).mono fun o b hh => ?_
    obtain ⟨u, code, w', r1, r2, r3, r4⟩ := hh; exact ⟨u, code, w', r1, r2, fun e => absurd (r3 (r4 e).1) (by decide)⟩
  refine gc 6 ?_;refine oc (ay vY rfl rfl rfl rfl (hin3) [0, 1] (bh (cu .nil)) rfl rfl rfl rfl (an (an (an (bd (an .nil))))) (fun s ob' hq => ?_) (fun s ob' hq => ?_))
  rotate_left
  ·obtain ⟨_, _, _, hq1, _⟩ := hq; cases hq1
  obtain ⟨⟨k8, m8, s8, l8, a8⟩, c8, w8, hq1, rfl, hq11⟩ := hq; cases hq1; refine ⟨_, _, _, _, _, rfl, rfl, rfl, rfl, rfl, ?_⟩;refine go 7 ?_;refine eo (.cb [(ae.mk k8 m8 s8 l8 a8).d, .v (.int .i64 c8)]) [0, 1] [aP es w8, aN] ?_
  ·refine ⟨_, c8, w8, rfl, rfl, fun h => rfl, fun e => ?_⟩
   obtain ⟨r1, r2, r3⟩ := hq11 e; refine ⟨r1, ?_, r3⟩
   rw [← hT]; exact Wt.J8 hWt1 hWt2 r2
theorem uX (hE : cP es) (hL : ps.length ≤ 6) (hm : most ≤ 1000000) (hS : S ≤ 1000000000 ∧ 20000 ≤ S) (k1 m1 : Int) (s1 : ByteArray) (l1 : List aJ) (a1 : List ae) (k2 m2 : Int) (s2 : ByteArray) (l2 : List aJ) (a2 : List ae) (hI1 : v7 gl es ps most S (.mk k1 m1 s1 l1 a1)) (hI2 : v7 gl es ps most S (.mk k2 m2 s2 l2 a2)) : v7 gl es ps most S (.mk 3 0 .empty [] [.mk k1 m1 s1 l1 a1, .mk k2 m2 s2 l2 a2]) := by
 intro ctx w hctx hlen hz hsh
 have hap := vS (gl := gl) hE hL hm hS 0 .empty [] k1 m1 s1 l1 a1 k2 m2 s2 l2 a2 hI1 hI2 ctx false hctx hlen hz hsh
 refine bS Tryz.func36 Tryz.ntmps36 2 ?_;refine gc 16 ?_;refine cj (fun h1 => ?_) (fun h1 => ?_)
 ·refine kc 0 [10] 9 ?_;refine eo (.cb [aI.d, .v (.int .i64 14)]) [0, 1] [aP es w, aN] ?_
  ·exact ⟨aI, 14, w, rfl, rfl, fun h => h, fun h => absurd h (by omega)⟩
 refine kc 4 [10, 8, 0, 1, 2, 4] 0 ?_; obtain rfl := h1; refine gc 12 ?_;refine cf ?_;refine gc 6 ?_;refine cf ?_;refine kc 0 [35, 10, 8, 0, 1, 2, 4] 6 ?_;refine cf ?_;refine gc 6 ?_;refine ct ?_;refine kc 0 [10, 8, 0, 1, 2, 4] 7 ?_;refine oc (ay Lm rfl rfl rfl rfl (hap) [0, 1] (bh (cu .nil)) rfl rfl rfl rfl (an (an (an (bd (an .nil))))) (fun s ob' hq => ?_) (fun s ob' hq => ?_))
 rotate_left
 ·obtain ⟨_, _, _, hq1, _⟩ := hq; cases hq1
 obtain ⟨⟨k3, m3, s3, l3, a3⟩, c1, w1, hq1, rfl, hq2, hq3⟩ := hq; cases hq1; refine ⟨_, _, _, _, _, rfl, rfl, rfl, rfl, rfl, ?_⟩;refine go 9 ?_;refine eo (.cb [(ae.mk k3 m3 s3 l3 a3).d, .v (.int .i64 c1)]) [0, 1] [aP es w1, aN] ?_
 ·exact ⟨_, c1, w1, rfl, rfl, hq2, hq3⟩
theorem uW (hE : cP es) (hL : ps.length ≤ 6) (hm : most ≤ 1000000) (hS : S ≤ 1000000000 ∧ 20000 ≤ S) : ∀ (n : Nat) (t : ae), Ch t < n → v7 gl es ps most S t := by
 intro n
 induction n with
 | zero => intro t h; omega
 | succ n ih =>
  intro t hn ctx w hctx hlen hz hsh
  obtain ⟨k, m, s, ls, args, rfl⟩ := ae.case t
  rcases hsh.2.2 with h | h | h | h | h
  ·obtain ⟨rfl, _, rfl, rfl, ha⟩ := h
   obtain rfl := List.length_eq_zero_iff.1 ha
   exact vP hS.1 m ctx w hctx hlen hz hsh
  ·obtain ⟨rfl, rfl, rfl, hl, ha⟩ := h
   obtain rfl := List.length_eq_zero_iff.1 ha
   obtain ⟨⟨kl, sl, al⟩, rfl⟩ := List.length_eq_one_iff.1 hl
   exact oE hL hS.1 kl sl al ctx w hctx hlen hz hsh
  ·obtain ⟨rfl, rfl, _, ha⟩ := h
   obtain rfl := List.length_eq_zero_iff.1 ha
   exact tn hE hL hS s ls ctx w hctx hlen hz hsh
  ·obtain ⟨hk, rfl, rfl, rfl, ha⟩ := h
   match args, ha with
   | [⟨k1, m1, s1, l1, a1⟩, ⟨k2, m2, s2, l2, a2⟩], _ =>
    rcases hk with rfl | rfl | rfl
    ·have hw := Gz 0 .empty [] (.mk k1 m1 s1 l1 a1) (.mk k2 m2 s2 l2 a2)
     exact uX hE hL hm hS _ _ _ _ _ _ _ _ _ _ (ih _ (by omega)) (ih _ (by omega)) ctx w hctx hlen hz hsh
    ·have hw := Cg (k := 4) (.inl rfl) 0 .empty [] (.mk k1 m1 s1 l1 a1) (.mk k2 m2 s2 l2 a2)
     exact vR hE hm hS _ _ _ _ _ _ _ _ _ _ (ih _ (by omega)) (ih _ (by omega)) ctx w hctx hlen hz hsh
    ·have hw := Cg (k := 5) (.inr rfl) 0 .empty [] (.mk k1 m1 s1 l1 a1) (.mk k2 m2 s2 l2 a2)
     exact xW hE hm hS _ _ _ _ _ _ _ _ _ _ (ih _ (by omega)) (ih _ (by omega)) ctx w hctx hlen hz hsh
  ·obtain ⟨rfl, rfl, rfl, rfl, ha⟩ := h
   match args, ha with
   | [⟨k1, m1, s1, l1, a1⟩, ⟨k2, m2, s2, l2, a2⟩, ⟨k3, m3, s3, l3, a3⟩], _ =>
    have hw := GA 0 .empty [] (a := .mk k1 m1 s1 l1 a1) hsh.2.1.2.1 hsh.2.1.2.2.1
    exact vQ hE hL hm hS _ _ _ _ _ _ _ _ _ _ _ _ _ _ _ (ih _ (by omega)) (ih _ (by omega)) (ih _ (by omega)) ctx w hctx hlen hz hsh
theorem gD (hE : cP es) (hL : ps.length ≤ 6) (hm : most ≤ 1000000) (hS : S ≤ 1000000000 ∧ 20000 ≤ S) (k m : Int) (s : ByteArray) (ls : List aJ) (args : List ae) (ctx : List ae) (w : Bool) (hctx : qQ es ps S ctx) (hlen : ctx.length + dep (.mk k m s ls args) ≤ 1000000) (hz : (ae.mk k m s ls args).size ≤ S) (hsh : iU 4398046511104 (.mk k m s ls args)) :
 ey Tryz.prog gl 60 [aP es w, aN] [.bZ 0 0, .d (c6 ps), .d (.sl 5 (ba ctx)), .d (ae.mk k m s ls args).d, .d (.v (.int .i64 most))] (Ge es ps ctx.length (.mk k m s ls args) w) :=
 iS hE hm hS.1 k m s ls args (uW hE hL hm hS _ _ (Nat.lt_succ_self _)) ctx w hctx hlen hz hsh
end Go.Proofs.YtndbnldjidciiaaGreatDoor
namespace Go.Proofs.YtndbnldjidciiaaGreatDoor
open Go Go.Vd Go.RowKit
attribute [local irreducible] bl br de aj bI cY
variable {g gl : Nat → List D}
def JH (es : List cq) (nm : ByteArray) (p : Int) (a : ae) (w : Bool) (out : Out) (ob' : List Ob) : Prop :=
 ∃ (code : Int) (w' : Bool), out = .ret (.d (.v (.int .i64 code))) ∧ ob' = [aP es w', aN] ∧ (w' = false → w = false) ∧ (code = 0 → E2 nm p a)
set_option maxHeartbeats 800000 in
theorem vZ {es : List cq} (hE : cP es) (x : RD) (hL : x.pd.length ≤ 6) (hx : 0 ≤ x.ad ∧ x.ad ≤ 1000000000) {most S : Nat} (hm : most ≤ 1000000) (hS : S ≤ 1000000000 ∧ 20000 ≤ S) (k n : Int) (s : ByteArray) (ls : List aJ) (args : List ae) (ctx : List ae) (w : Bool) (hctx : qQ es x.pd S ctx) (hlen : ctx.length + (ae.mk k n s ls args).size ≤ 1000000) (hz : (ae.mk k n s ls args).size ≤ S) (hw : Wt (eB es) x.pd (.mk k n s ls args) ctx.length) (m : Nat) (hmm : m ≤ 1000000000) (kl : Int) (sl : ByteArray) (al : List aJ) (hlv : gQ x.pd (.mk kl sl al)) :
 ey Tryz.prog gl 171 [aP es w, aN] [.bZ 0 0, .d x.dec.d, .d (ae.mk k n s ls args).d, .d (.sl 5 (ba ctx)), .d (.v (.int .i64 m)), .d (aJ.mk kl sl al).d, .d (.v (.int .i64 most))] (JH es x.sd x.ad (.mk k n s ls args) w) := by
 have hdl := pZ (.mk k n s ls args)
 have hsh := hw.sh (B := 4398046511104) (by omega)
 have hhas := jw (gl := gl) x.sd _ k n s ls args (Nat.le_refl _) (by omega)
 have hpi := gJ (gl := gl) k n s ls args hsh (by omega)
 have hpz := dX _ (.mk k n s ls args) (Nat.le_refl _)
 have hso := gD (gl := gl) hE hL hm hS k n s ls args ctx w hctx (by omega) hz hsh
 have halw := oQ (gl := gl) hL kl sl al hlv
 have hcl := bf ctx
 obtain ⟨lw, hlw, hlf, hlp⟩ := id hlv
 generalize hA : ic (ph x.sd) (.mk k n s ls args) 0 = A at hhas
 refine bS Tryz.func171 Tryz.ntmps171 2 ?_;refine kc 8 [12, 9, 8, 0, 3, 4, 6] 5 ?_;refine oc (cv vj rfl rfl (hhas) (bd (an .nil)) ?_);refine ko 9 [29, 12, 9, 8, 0, 3, 4, 6] 0 ?_;refine xo (ι := Unit) (fun _ => []) (fun _ => [aP es w, aN, rG x, tO k n s ls args, lO kl sl al]) [12, 9, 8, 0, 3, 6] (fun _ => E2 x.sd x.ad (.mk k n s ls args)) rfl ?A1 ?B1
 case A1 =>
  refine cJ (fun h2 => ?_) (fun h2 => ?_)
  ·refine gc 1 ?_;refine bk () rfl ?_ [0, 1, 2, 3, 4] mz
   ·intro h
    rw [hA] at h
    subst h
    simp at h2
  refine gc 3 ?_;refine oc (cv pC rfl rfl (hpi) (bd .nil) ?_);refine ko 11 [17, 16, 12, 9, 8, 0, 3, 4, 6] 6 ?_;refine lp (ι := Nat × Int × Int × ByteArray × List aJ × List ae) (fun ⟨i, k1, m1, s1, l1, a1⟩ => [(18, int i)]) (fun ⟨i, k1, m1, s1, l1, a1⟩ => [aP es w, aN, rG x, tO k n s ls args, lO kl sl al, tO k1 m1 s1 l1 a1]) [17, 16, 12, 9, 8, 0, 3, 4, 6] (fun ⟨i, k1, m1, s1, l1, a1⟩ => i ≤ bu (.mk k n s ls args) ∧ ae.mk k1 m1 s1 l1 a1 = eU i (.mk k n s ls args)) (fun ⟨i, k1, m1, s1, l1, a1⟩ => bu (.mk k n s ls args) - i) ((0, k, n, s, ls, args)) ([0, 1, 2, 3, 4, 5]) rfl ?I2 ?M2 ?H2
  case I2 =>
   exact ⟨Nat.zero_le _, rfl⟩
  case M2 =>
   exact mz
  case H2 =>
   rintro ⟨i, k1, m1, s1, l1, a1⟩ hinv
   try dsimp only at hinv
   refine kc 0 [18, 17, 16, 12, 9, 8, 0, 3, 4, 6] 8 ?_;refine cJ (fun h6 => ?_) (fun h6 => ?_)
   ·refine kc 6 [17, 16, 12, 9, 8, 0, 3, 4, 6] 0 ?_; obtain rfl : i = bu (.mk k n s ls args) := (by omega)
    have hes := dE (bu (.mk k n s ls args)) (.mk k n s ls args)
    have hwe := (hw.vH _ (Nat.le_refl _)).1
    rw [← hinv.2] at hes hwe
    have hre := sj (gl := gl) x k1 m1 s1 l1 a1 m (((ba ctx).length : Int) + (bu (.mk k n s ls args) : Nat)) (hwe.spine _ (Nat.le_refl _)).1 (by omega) (by omega) hx (by omega) (by omega)
    refine gc 7 ?_;refine o1 (cw ?_);refine oc (T := fun _ => False) (bo HU rfl rfl rfl rfl (hre) (bd (bd (an (an .nil)))) (fun d hd => ?_)); obtain ⟨b, rfl, hb⟩ := hd; refine ko 3 [20, 12, 9, 8, 0, 3, 6] 6 ?_;refine cJ (fun h13 => ?_) (fun h13 => ?_)
    ·refine gc 1 ?_;refine bk () rfl ?_ [0, 1, 2, 3, 4] mz
     ·intro _
      obtain ⟨n', ls', ar, e1, e2⟩ := hb (by revert h13; cases b <;> simp)
      rw [hinv.2] at e1 e2
      exact ⟨n', ls', ar, e1, by omega⟩
    refine kc 0 [] 7 ?_;refine eo (.v (.int .i64 12)) [0, 1] [aP es w, aN] ?_
    ·exact ⟨12, w, rfl, rfl, fun h => h, fun h => absurd h (by omega)⟩
   refine gc 5 ?_
   obtain ⟨m5, s5, l5, ⟨kX, mX, sX, lX, aX⟩, ⟨kY, mY, sY, lY, aY⟩, g1, g2, g3, g4⟩ := gK i _ (show i < bu (.mk k n s ls args) by omega)
   have hes := dE (i + 1) (.mk k n s ls args)
   rw [g3, c7] at hes
   simp only [ai] at hes
   rw [← hinv.2] at g1
   cases g1
   have hsX : (ae.mk kX mX sX lX aX).size ≤ 1099511627776 := (by omega)
   have hhX := jw (gl := gl) x.sd _ kX mX sX lX aX (Nat.le_refl _) hsX
   generalize hB : ic (ph x.sd) (.mk kX mX sX lX aX) 0 = B at hhX
   refine gz [0, 1] mixed ?_;refine A1 2 rfl (bV bE bK ⟨_, rfl, ?_⟩ (he := by exact (rfl)));refine ga [3, 4, 5] ?_;refine A2 6 rfl (cv vj rfl rfl (hhX) (bd (an .nil)) ?_);refine ga [7] ?_;refine aQ ?_;refine ke 2 [19, 18, 17, 16, 12, 9, 8, 0, 3, 4, 6] 5 ?_;refine cj (fun h9 => ?_) (fun h9 => ?_)
   ·refine kc 0 [] 13 ?_;refine eo (.v (.int .i64 12)) [0, 1] [aP es w, aN] ?_
    ·exact ⟨12, w, rfl, rfl, fun h => h, fun h => absurd h (by omega)⟩
   refine gc 5 ?_;refine o1 (bV bE bK ?_ (he := by exact (rfl)));refine ko 5 [18, 17, 16, 12, 9, 8, 0, 3, 4, 6] 2 ?_;refine o1 (cw ?_);refine go 2 ?_;refine bk (i + 1, kY, mY, sY, lY, aY) rfl ?_ [0, 1, 2, 3, 4, 5] mz
   exact ⟨⟨by omega, g2.symm⟩, show _ - (i + 1) < _ - i by omega⟩
 case B1 =>
  rintro _ hcut
  try dsimp only at hcut
  refine kc 0 [12, 9, 8, 0, 3, 6] 3 ?_;refine oc (T := fun _ => False) (bo F7 rfl rfl rfl rfl (halw) (bd .nil) (fun d hd => ?_)); obtain ⟨b2, rfl⟩ := hd; refine go 9 ?_;refine cj (fun h16 => ?_) (fun h16 => ?_)
  ·refine kc 0 [] 7 ?_;refine eo (.v (.int .i64 0)) [0, 1] [aP es w, aN] ?_
   ·exact ⟨0, w, rfl, rfl, fun h => h, fun _ => hcut⟩
  refine kc 2 [12, 9, 8, 0, 3, 6] 8 ?_;refine oc (ay vh rfl rfl rfl rfl (hso) [0, 1] (bh (cu .nil)) rfl rfl rfl rfl (an (an (an (bd (an .nil))))) (fun s ob' hq => ?_) (fun s ob' hq => ?_))
  rotate_left
  ·obtain ⟨_, _, _, hq1, _⟩ := hq; cases hq1
  obtain ⟨⟨kr, sr', ar'⟩, code, w1, hq1, rfl, hq2, hq3⟩ := hq; cases hq1; refine ⟨_, _, _, _, _, rfl, rfl, rfl, rfl, rfl, ?_⟩;refine ko 9 [23, 22, 12] 6 ?_;refine cj (fun h19 => ?_) (fun h19 => ?_)
  ·refine kc 0 [23] 8 ?_;refine eo (.v (.int .i64 code)) [0, 1] [aP es w1, aN] ?_
   ·exact ⟨code, w1, rfl, rfl, hq2, fun h => absurd h h19⟩
  refine gc 3 ?_; obtain rfl : code = 0 := (by omega); obtain ⟨rfl, hWt, lv, hv, hvf, hvp⟩ := hq3 rfl
  have hleq := jI (gl := gl) lv lw (nn hL hvp hlp)
  rw [← hv, ← hlw] at hleq
  refine gc 3 ?_;refine oc (T := fun _ => False) (bo vk rfl rfl rfl rfl (hleq) (bd (bd .nil)) (fun d hd => ?_)); obtain ⟨b3, rfl⟩ := hd; refine ko 4 [24] 6 ?_;refine cj (fun h22 => ?_) (fun h22 => ?_)
  ·refine gc 7 ?_;refine eo (.v (.int .i64 13)) [0, 1] [aP es false, aN] ?_
   ·exact ⟨13, false, rfl, rfl, hq2, fun h => absurd h (by omega)⟩
  refine gc 8 ?_;refine eo (.v (.int .i64 0)) [0, 1] [aP es false, aN] ?_
  ·exact ⟨0, false, rfl, rfl, hq2, fun _ => hcut⟩
end Go.Proofs.YtndbnldjidciiaaGreatDoor
namespace Go.Proofs.YtndbnldjidciiaaGreatDoor
open Go Go.Vd Go.RowKit
attribute [local irreducible] bl br de aj bI cY
variable {g gl : Nat → List D}
def JE (es : List cq) (ps : List ByteArray) (nm : ByteArray) (p : Nat) (t : ae) (w : Bool) (out : Out) (ob' : List Ob) : Prop :=
 ∃ (code : Int) (w' : Bool), out = .ret (.d (.v (.int .i64 code))) ∧ ob' = [aP es w', aN] ∧ (w' = false → w = false) ∧ (code = 0 → Wt (eB es) ps t 0 ∧ p ≤ bu t ∧ AX nm p t)
variable {es : List cq} {S : Nat}
theorem CY {ps : List ByteArray} {i : Nat} {t : ae} (hw : Wt (eB es) ps t 0) (hi : i ≤ bu t) (hz : t.size ≤ S) : qQ es ps S (jm i t) := by
 intro j y hy
 have h1 := (hw.vH i hi).2 j y hy
 have h2 := dE i t
 have h3 := bC hy
 exact ⟨by simpa using h1, by omega⟩
set_option maxHeartbeats 1600000 in
theorem D4 (hE : cP es) (x : RD) (hL : x.pd.length ≤ 6) (p : Nat) (hx : x.ad = p) {most : Nat} (hm : most ≤ 1000000) (hS : S ≤ 900000 ∧ 20000 ≤ S) (m : Nat) (hw1 : Wt (eB es) x.pd (.mk x.k1 x.n1 x.s1 x.l1 x.a1) 0) (hz1 : (ae.mk x.k1 x.n1 x.s1 x.l1 x.a1).size ≤ S) (hpm : bu (.mk x.k1 x.n1 x.s1 x.l1 x.a1) = p + m) (nm : ByteArray) (k n : Int) (s : ByteArray) (ls : List aJ) (args : List ae) (w : Bool) (hz : (ae.mk k n s ls args).size ≤ S) (hsh : iU 4398046511104 (.mk k n s ls args)) (kl : Int) (sl : ByteArray) (al : List aJ) (hlv : gQ x.pd (.mk kl sl al)) :
 ey Tryz.prog gl 165 [aP es w, aN] [.bZ 0 0, .d x.dec.d, .d (.agg (.v (.string nm) :: (ae.mk k n s ls args).cells)), .d (.v (.int .i64 m)), .d (aJ.mk kl sl al).d, .d (.v (.int .i64 most))] (JE es x.pd x.sd p (.mk k n s ls args) w) := by
 have hdl := pZ (.mk k n s ls args)
 have hpi := gJ (gl := gl) k n s ls args hsh (by omega)
 have hpz := dX _ (.mk k n s ls args) (Nat.le_refl _)
 have hpz1 := dX _ (.mk x.k1 x.n1 x.s1 x.l1 x.a1) (Nat.le_refl _)
 have hso := gD (gl := gl) hE hL hm (by omega) k n s ls args [] w (fun i y hy => by simp at hy) (by simp only [List.length_nil]; omega) hz hsh
 refine bS Tryz.func165 Tryz.ntmps165 2 ?_;refine kc 8 [10, 8, 7, 0, 3, 5] 8 ?_;refine oc (ay vh rfl rfl rfl rfl (hso) [0, 1] (bh (cu .nil)) rfl rfl rfl rfl (an (an (JL (bd (an .nil))))) (fun s ob' hq => ?_) (fun s ob' hq => ?_))
 rotate_left
 ·obtain ⟨_, _, _, hq1, _⟩ := hq; cases hq1
 obtain ⟨⟨kr, sr', ar'⟩, code, w1, hq1, rfl, hq2, hq3⟩ := hq; cases hq1; refine ⟨_, _, _, _, _, rfl, rfl, rfl, rfl, rfl, ?_⟩;refine ko 9 [14, 10, 8, 7, 0, 3, 5] 6 ?_;refine cj (fun h2 => ?_) (fun h2 => ?_)
 ·refine kc 0 [14] 8 ?_;refine eo (.v (.int .i64 code)) [0, 1] [aP es w1, aN] ?_
  ·exact ⟨code, w1, rfl, rfl, hq2, fun h => absurd h h2⟩
 refine gc 3 ?_; obtain rfl : code = 0 := (by omega); obtain ⟨rfl, hWt, hlr⟩ := hq3 rfl
 have hWt0 : Wt (eB es) x.pd (.mk k n s ls args) 0 := hWt
 obtain rfl : w = false := hq2 rfl; refine gc 3 ?_;refine oc (cv pC rfl rfl (hpi) (bd .nil) ?_);refine ko 4 [15, 10, 8, 7, 0, 3, 5] 8 ?_;refine cj (fun h5 => ?_) (fun h5 => ?_)
 ·refine kc 0 [] 7 ?_;refine eo (.v (.int .i64 11)) [0, 1] [aP es false, aN] ?_
  ·exact ⟨11, false, rfl, rfl, fun h => h, fun h => absurd h (by omega)⟩
 refine kc 19 [17, 16, 15, 10, 8, 7, 0, 3, 5] 6 ?_;refine lp (ι := Nat × Int × Int × ByteArray × List aJ × List ae × Int × Int × ByteArray × List aJ × List ae) (fun ⟨i, k1, m1, s1, l1, a1, k2, m2, s2, l2, a2⟩ => [(18, int i)]) (fun ⟨i, k1, m1, s1, l1, a1, k2, m2, s2, l2, a2⟩ => [aP es false, aN, rG x, Gv nm k n s ls args, lO kl sl al, lO kr sr' ar', tO k1 m1 s1 l1 a1, tO k2 m2 s2 l2 a2]) [17, 16, 15, 10, 8, 7, 0, 3, 5] (fun ⟨i, k1, m1, s1, l1, a1, k2, m2, s2, l2, a2⟩ => i ≤ p ∧ ae.mk k1 m1 s1 l1 a1 = eU i (.mk k n s ls args) ∧ ae.mk k2 m2 s2 l2 a2 = eU i (.mk x.k1 x.n1 x.s1 x.l1 x.a1)) (fun ⟨i, k1, m1, s1, l1, a1, k2, m2, s2, l2, a2⟩ => p - i) ((0, k, n, s, ls, args, x.k1, x.n1, x.s1, x.l1, x.a1)) ([0, 1, 2, 3, 4, 5, 6, 7]) rfl ?I1 ?M1 ?H1
 case I1 =>
  exact ⟨Nat.zero_le _, rfl, rfl⟩
 case M1 =>
  exact mz
 case H1 =>
  rintro ⟨i, k1, m1, s1, l1, a1, k2, m2, s2, l2, a2⟩ hinv
  try dsimp only at hinv
  refine kc 0 [18, 17, 16, 15, 10, 8, 7, 0, 3, 5] 9 ?_;refine cj (fun h10 => ?_) (fun h10 => ?_)
  ·refine kc 5 [18, 17, 16, 15, 10, 8, 7, 0, 3, 5] 0 ?_
   obtain ⟨m5, s5, l5, ⟨kX, mX, sX, lX, aX⟩, ⟨kY, mY, sY, lY, aY⟩, g1, g2, g3, g4⟩ := gK i _ (show i < bu (.mk k n s ls args) by omega)
   obtain ⟨m6, s6, l6, ⟨kV, mV, sV, lV, aV⟩, ⟨kW, mW, sW, lW, aW⟩, f1, f2, f3, f4⟩ := gK i _ (show i < bu (.mk x.k1 x.n1 x.s1 x.l1 x.a1) by omega)
   have hes := dE (i + 1) (.mk k n s ls args)
   have hfs := dE (i + 1) (.mk x.k1 x.n1 x.s1 x.l1 x.a1)
   rw [g3, c7] at hes
   rw [f3, c7] at hfs
   have hxi : (jm (i + 1) (.mk k n s ls args))[i]? = some (.mk kX mX sX lX aX) := (by rw [g3, List.getElem?_append_right (by rw [dT _ _ (by omega)]; exact Nat.le_refl _), dT _ _ (by omega), Nat.sub_self]; rfl)
   have hyi : (jm (i + 1) (.mk x.k1 x.n1 x.s1 x.l1 x.a1))[i]? = some (.mk kV mV sV lV aV) := (by rw [f3, List.getElem?_append_right (by rw [dT _ _ (by omega)]; exact Nat.le_refl _), dT _ _ (by omega), Nat.sub_self]; rfl)
   have hwX := (hWt0.vH (i + 1) (by omega)).2 i _ hxi
   have hwV := (hw1.vH (i + 1) (by omega)).2 i _ hyi
   rw [Int.zero_add] at hwX hwV
   simp only [ai] at hes hfs
   rw [← hinv.2.1] at g1
   rw [← hinv.2.2] at f1
   cases g1; cases f1
   have heq := qq (gl := gl) hE hL (c := (i : Int)) (by omega) (S := S) (n := 0) (n2 := 0) hm false kX mX sX lX aX kV mV sV lV aV (by omega) (by omega) (.base hwX (by omega)) (.base hwV (by omega))
   refine gz [0, 1, 2] mixed ?_;refine A1 3 rfl (bV bE bK ⟨_, rfl, ?_⟩ (he := by exact (rfl)));refine ga [4, 5, 6] ?_;refine A1 7 rfl (bV bE bK ⟨_, rfl, ?_⟩ (he := by exact (rfl)));refine ga [8, 9] ?_;refine A2 10 rfl (ay Kq rfl rfl rfl rfl (heq) [0, 1] (bh (cu .nil)) rfl rfl rfl rfl (an (bd (bd (an .nil)))) (fun s ob' hq => ?_) (fun s ob' hq => ?_))
   rotate_left
   ·obtain ⟨_, _, _, hq1, _⟩ := hq; cases hq1
   obtain ⟨r, code, w1, hq1, rfl, h1', h2', h3'⟩ := hq; cases hq1; refine ⟨_, _, _, _, _, rfl, rfl, rfl, rfl, rfl, ?_⟩;refine ga [11, 12, 13, 14, 15] ?_;refine aQ ?_;refine ke 2 [20, 19, 18, 17, 16, 15, 10, 8, 7, 0, 3, 5] 6 ?_;refine cj (fun h13 => ?_) (fun h13 => ?_)
   ·refine kc 0 [20] 13 ?_;refine eo (.v (.int .i64 code)) [0, 1] [aP es w1, aN] ?_
    ·exact ⟨code, w1, rfl, rfl, h3', fun h => absurd h h13⟩
   refine gc 4 ?_; obtain rfl : code = 0 := (by omega); obtain rfl : w1 = false := h2' rfl
   refine gc 5 ?_;refine cj (fun h15 => ?_) (fun h15 => ?_)
   ·refine kc 0 [] 12 ?_;refine eo (.v (.int .i64 11)) [0, 1] [aP es false, aN] ?_
    ·exact ⟨11, false, rfl, rfl, fun h => h, fun h => absurd h (by omega)⟩
   refine kc 2 [18, 17, 16, 15, 10, 8, 7, 0, 3, 5] 4 ?_;refine o1 (bV bE bK ?_ (he := by exact (rfl)));refine ko 4 [18, 17, 16, 15, 10, 8, 7, 0, 3, 5] 3 ?_;refine o1 (bV bE bK ?_ (he := by exact (rfl)));refine ko 5 [18, 17, 16, 15, 10, 8, 7, 0, 3, 5] 2 ?_;refine o1 (cw ?_);refine go 2 ?_;refine bk (i + 1, kY, mY, sY, lY, aY, kW, mW, sW, lW, aW) rfl ?_ [0, 1, 2, 3, 4, 5, 6, 7] mz
   exact ⟨⟨by omega, g2.symm, f2.symm⟩, show _ - (i + 1) < _ - i by omega⟩
  refine kc 6 [16, 15, 10, 8, 7, 0, 3, 5] 0 ?_
  have hen := qK (gl := gl) (bu (.mk k n s ls args)) k n s ls args hsh (Nat.le_refl _) (by omega)
  have hese := dE (bu (.mk k n s ls args)) (.mk k n s ls args)
  have hwe := (hWt0.vH _ (Nat.le_refl _)).1
  obtain ⟨kE, mE, sE, lE, aE, hEe⟩ := ae.case (eU (bu (.mk k n s ls args)) (.mk k n s ls args))
  rw [hEe] at hen hese hwe
  have hre := sj (gl := gl) x kE mE sE lE aE m ((bu (.mk k n s ls args) : Nat)) (hwe.spine _ (Nat.le_refl _)).1 (by omega) (by omega) (by omega) (by omega) (by omega)
  refine gz [0, 1, 2, 4, 5, 6] mixed ?_;refine A2 3 rfl (cv An rfl rfl (hen) (bd (an .nil)) ?_);refine A2 (T := fun _ => False) 7 rfl (bo HU rfl rfl rfl rfl (hre) (an (bd (an (an .nil)))) (fun d hd => ?_))
  obtain ⟨b, rfl, hb⟩ := hd; refine ga [8] ?_;refine aQ ?_;refine ke 2 [21, 16, 15, 10, 8, 7, 0, 3, 5] 6 ?_;refine cj (fun h20 => ?_) (fun h20 => ?_)
  ·refine kc 0 [] 7 ?_;refine eo (.v (.int .i64 11)) [0, 1] [aP es false, aN] ?_
   ·exact ⟨11, false, rfl, rfl, fun h => h, fun h => absurd h (by omega)⟩
  refine kc 15 [22, 16, 15, 10, 7, 0, 3, 5] 6 ?_;refine lp (ι := Nat × Bool × Int × Int × ByteArray × List aJ × List ae) (fun ⟨i, w2, k3, m3, s3, l3, a3⟩ => [(23, int i), (22, .d (.sl 5 (ba (jm i (.mk k n s ls args)))))]) (fun ⟨i, w2, k3, m3, s3, l3, a3⟩ => [aP es w2, aN, rG x, Gv nm k n s ls args, lO kl sl al, lO kr sr' ar', tO k3 m3 s3 l3 a3, tO k2 m2 s2 l2 a2]) [16, 15, 10, 7, 0, 3, 5] (fun ⟨i, w2, k3, m3, s3, l3, a3⟩ => i ≤ bu (.mk k n s ls args) ∧ ae.mk k3 m3 s3 l3 a3 = eU i (.mk k n s ls args) ∧ ∀ (j : Nat) a, (p : Int) ≤ j → (jm i (.mk k n s ls args))[j]? = some a → E2 x.sd p a) (fun ⟨i, w2, k3, m3, s3, l3, a3⟩ => bu (.mk k n s ls args) - i) ((0, false, k, n, s, ls, args)) ([0, 1, 2, 3, 4, 5, 6, 7]) rfl ?I2 ?M2 ?H2
  case I2 =>
   exact ⟨Nat.zero_le _, rfl, fun j a h1 h2 => by simp [jm] at h2⟩
  case M2 =>
   refine mo ?_ (aH (eh rfl (by exact Fit.G2) (aH (aH (aH (aH (aH (aH (aH dF)))))))))
   repeat (first | exact cW | refine bh ?_ | refine cu ?_)
  case H2 =>
   rintro ⟨i, w2, k3, m3, s3, l3, a3⟩ hinv
   try dsimp only at hinv
   refine kc 0 [23, 22, 16, 15, 10, 7, 0, 3, 5] 8 ?_;refine cJ (fun h25 => ?_) (fun h25 => ?_)
   ·refine kc 5 [] 6 ?_;refine eo (.v (.int .i64 0)) [0, 1] [aP es w2, aN] ?_
    ·obtain rfl : i = bu (.mk k n s ls args) := (by omega)
     exact ⟨0, w2, rfl, rfl, fun h => rfl, fun _ => ⟨hWt0, by omega, hinv.2.2⟩⟩
   refine gc 5 ?_
   obtain ⟨m5, s5, l5, ⟨kX, mX, sX, lX, aX⟩, ⟨kY, mY, sY, lY, aY⟩, g1, g2, g3, g4⟩ := gK i _ (show i < bu (.mk k n s ls args) by omega)
   have hes := dE (i + 1) (.mk k n s ls args)
   rw [g3, c7] at hes
   have hxi : (jm (i + 1) (.mk k n s ls args))[i]? = some (.mk kX mX sX lX aX) := (by rw [g3, List.getElem?_append_right (by rw [dT _ _ (by omega)]; exact Nat.le_refl _), dT _ _ (by omega), Nat.sub_self]; rfl)
   have hwX := (hWt0.vH (i + 1) (by omega)).2 i _ hxi
   rw [Int.zero_add] at hwX
   simp only [ai] at hes
   have hxl := dT i (.mk k n s ls args) hinv.1
   have hxz := bA (jm i (.mk k n s ls args))
   rw [← hinv.2.1] at g1
   cases g1
   have har := vZ (gl := gl) hE x hL (by omega) hm (S := S) (by omega) kX mX sX lX aX (jm i (.mk k n s ls args)) w2 (CY hWt0 hinv.1 hz) (by omega) (by omega) (by rw [hxl]; exact hwX) m (by omega) kl sl al hlv
   have hexx := iO (gl := gl) (jm i (.mk k n s ls args)) kX mX sX lX aX (by omega)
   refine gc 3 ?_;refine o1 (bV bE bK ?_ (he := by exact (rfl)));refine ko 14 [106, 24, 23, 22, 16, 15, 10, 7, 0, 3, 5] 0 ?_;refine xo (ι := Bool) (fun w3 => []) (fun w3 => [aP es w3, aN, rG x, Gv nm k n s ls args, lO kl sl al, lO kr sr' ar', tO 5 m3 s3 l3 [.mk kX mX sX lX aX, .mk kY mY sY lY aY], tO k2 m2 s2 l2 a2, tO kX mX sX lX aX]) [24, 23, 22, 16, 15, 10, 7, 0, 3, 5] (fun w3 => p ≤ i → E2 x.sd p (.mk kX mX sX lX aX)) rfl ?A3 ?B3
   case A3 =>
    refine cJ (fun h28 => ?_) (fun h28 => ?_)
    ·refine gc 1 ?_;refine bk (w2) rfl ?_ [0, 1, 2, 3, 4, 5, 6, 7, 8] mz
     exact fun h => by omega
    refine gc 9 ?_;refine oc (ay Kx rfl rfl rfl rfl (har) [0, 1] (bh (cu .nil)) rfl rfl rfl rfl (an (bd (bd (an (an (bd (an .nil))))))) (fun s ob' hq => ?_) (fun s ob' hq => ?_))
    rotate_left
    ·obtain ⟨_, _, hq1, _⟩ := hq; cases hq1
    obtain ⟨code, w4, hq1, rfl, hq2, hq3⟩ := hq; cases hq1; refine ⟨_, _, _, _, _, rfl, rfl, rfl, rfl, rfl, ?_⟩;refine ko 3 [14, 24, 23, 22, 16, 15, 10, 7, 0, 3, 5] 6 ?_;refine cJ (fun h30 => ?_) (fun h30 => ?_)
    ·refine gc 1 ?_;refine bk (w4) rfl ?_ [0, 1, 2, 3, 4, 5, 6, 7, 8] mz
     exact fun _ => by rw [hx] at hq3; exact hq3 (by omega)
    refine kc 0 [14] 13 ?_;refine eo (.v (.int .i64 code)) [0, 1] [aP es w4, aN] ?_
    ·exact ⟨code, w4, rfl, rfl, fun h => rfl, fun h => absurd h h30⟩
   case B3 =>
    rintro w3 hcut
    try dsimp only at hcut
    refine kc 0 [24, 23, 22, 16, 15, 10, 7, 0, 3, 5] 1 ?_
    have hpos3 := hcut
    refine gc 3 ?_;refine oc (cv Ea rfl rfl (hexx) (an (bd .nil)) ?_);refine ko 3 [22, 23, 16, 15, 10, 7, 0, 3, 5] 3 ?_;refine o1 (bV bE bK ?_ (he := by exact (rfl)));refine ko 5 [22, 23, 16, 15, 10, 7, 0, 3, 5] 2 ?_;refine o1 (cw ?_);refine go 2 ?_;refine bk ((i + 1, w3, kY, mY, sY, lY, aY)) rfl ?_ ([0, 1, 2, 3, 4, 5, 6, 7]) ?_
    ·refine ⟨⟨by omega, g2.symm, fun j a h1 h2 => ?_⟩, show _ - (i + 1) < _ - i by omega⟩
     rw [g3] at h2
     rcases Nat.lt_or_ge j i with hj | hj
     ·rw [List.getElem?_append_left (by rw [dT _ _ (by omega)]; exact hj)] at h2
      exact hinv.2.2 j a h1 h2
     ·rw [List.getElem?_append_right (by rw [dT _ _ (by omega)]; exact hj)] at h2
      have h3 := (List.getElem?_eq_some_iff.1 h2).1
      rw [dT _ _ (by omega)] at h3
      simp only [List.length_cons, List.length_nil] at h3
      obtain rfl : j = i := by omega
      rw [dT _ _ (by omega), Nat.sub_self] at h2
      cases h2; exact hpos3 (by omega)
    ·refine mo ?_ (aH (eh rfl (by exact Fit.of_eq (by rw [g3]; rfl)) (aH (aH (aH (aH (aH (aH (aH dF)))))))))
     repeat (first | exact cW | refine bh ?_ | refine cu ?_)
end Go.Proofs.YtndbnldjidciiaaGreatDoor
namespace Go.Proofs.YtndbnldjidciiaaGreatDoor
open Go Go.Vd Go.RowKit
attribute [local irreducible] bl br de aj bI cY
variable {g gl : Nat → List D}
def Jz (es : List cq) (w : Bool) (out : Out) (ob' : List Ob) : Prop :=
 ∃ (b : Bool) (code : Int) (w' : Bool), out = .ret (.d (.cb [.v (.bool b), .v (.int .i64 code)])) ∧ ob' = [aP es w', aN] ∧ (w' = false → w = false)
set_option maxHeartbeats 1600000 in
theorem Bj {es : List cq} (hE : cP es) (x : RD) (hL : x.pd.length ≤ 6) (p : Nat) (hx : x.ad = p) (hp6 : p ≤ 1000000) {most S : Nat} (hm : most ≤ 1000000) (hS : S ≤ 900000 ∧ 20000 ≤ S) (hcs : ∀ c ∈ x.cd, Wt (eB es) x.pd c.2 0 ∧ c.2.size ≤ S) (w : Bool) (kl : Int) (sl : ByteArray) (al : List aJ) (hlv : gQ x.pd (.mk kl sl al)) :
 ey Tryz.prog gl 166 [aP es w, aN] [.bZ 0 0, .d x.dec.d, .d (aJ.mk kl sl al).d, .d (.v (.int .i64 most))] (Jz es w) := by
 have hnv := ux (gl := gl) hL kl sl al hlv
 have hcl := gd x.cd
 refine bS Tryz.func166 Tryz.ntmps166 2 ?_;refine kc 8 [6, 5, 0, 3] 3 ?_;refine oc (T := fun _ => False) (bo HX rfl rfl rfl rfl (hnv) (bd .nil) (fun d hd => ?_)); obtain ⟨b, rfl⟩ := hd; refine go 8 ?_
 refine' oo (yt := 29) (d := 25) 4 ?a1 ?b1 ?_
 case a1 =>
  intro hc hK
  refine go 4 ?_
  exact hK [_, _, _, _] rfl rfl
 case b1 =>
  intro _ hK; refine go 4 ?_; exact hK [_, _, _, _] rfl
 refine go 2 ?_;refine cj (fun h2 => ?_) (fun h2 => ?_)
 ·refine kc 0 [] 8 ?_;refine eo (.cb [.v (.bool true), .v (.int .i64 0)]) [0, 1] [aP es w, aN] ?_
  ·exact ⟨true, 0, w, rfl, rfl, fun h => h⟩
 refine kc 3 [5, 0, 3] 8 ?_;refine cj (fun h4 => ?_) (fun h4 => ?_)
 ·refine kc 0 [] 8 ?_;refine eo (.cb [.v (.bool false), .v (.int .i64 0)]) [0, 1] [aP es w, aN] ?_
  ·exact ⟨false, 0, w, rfl, rfl, fun h => h⟩
 refine kc 3 [5, 0, 3] 0 ?_
 have hone : 0 < x.cd.length := (by first | omega | (obtain ⟨_, h9⟩ := h2; omega))
 obtain ⟨cN, k, n, s, ls, args, hget⟩ := kn hone; obtain ⟨hWt0, hz⟩ := hcs _ (List.mem_of_getElem? hget)
 simp only at hWt0 hz
 have hdl := pZ (.mk k n s ls args)
 have hsh := hWt0.sh (B := 4398046511104) (by omega)
 have hpi := gJ (gl := gl) k n s ls args hsh (by omega)
 have hpz := dX _ (.mk k n s ls args) (Nat.le_refl _)
 have hen := qK (gl := gl) (bu (.mk k n s ls args)) k n s ls args hsh (Nat.le_refl _) (by omega)
 have hese := dE (bu (.mk k n s ls args)) (.mk k n s ls args)
 have hwe := (hWt0.vH _ (Nat.le_refl _)).1
 obtain ⟨kE, mE, sE, lE, aE, hEe⟩ := ae.case (eU (bu (.mk k n s ls args)) (.mk k n s ls args))
 rw [hEe] at hen hese hwe
 have hsp := et (gl := gl) kE mE sE lE aE (hwe.spine _ (Nat.le_refl _)).1 (by omega)
 have hsl := eV _ (.mk kE mE sE lE aE) (Nat.le_refl _)
 rcases hSp : bt (.mk kE mE sE lE aE) with ⟨⟨kh, mh, sh, lh, ah⟩, az⟩
 rw [hSp] at hsp hsl
 simp only at hsl
 have hsl2 := bA az
 have hasl := bf az
 refine gc 3 ?_;refine o1 (bV pG qc ?_ (he := by exact (gW (i := 0) hget)));refine ko 6 [11, 5, 0, 3] 3 ?_;refine oc (cv pC rfl rfl (hpi) (bd .nil) ?_);refine go 7 ?_;refine oc (cv An rfl rfl (hen) (bd (an .nil)) ?_);refine oc (cv vX rfl rfl (hsp) (an .nil) ?_);refine ko 8 [14, 12, 11, 5, 0, 3] 12 ?_;refine lp (ι := Nat × Bool × Int × Int × ByteArray × List aJ × List ae) (fun ⟨i, w2, k3, m3, s3, l3, a3⟩ => [(16, int i), (15, .d (.sl 5 (ba (jm i (.mk k n s ls args)))))]) (fun ⟨i, w2, k3, m3, s3, l3, a3⟩ => [aP es w2, aN, rG x, lO kl sl al, tO k3 m3 s3 l3 a3, tO kh mh sh lh ah]) [14, 12, 11, 5, 0, 3] (fun ⟨i, w2, k3, m3, s3, l3, a3⟩ => i ≤ bu (.mk k n s ls args) ∧ ae.mk k3 m3 s3 l3 a3 = eU i (.mk k n s ls args) ∧ (w2 = false → w = false)) (fun ⟨i, w2, k3, m3, s3, l3, a3⟩ => bu (.mk k n s ls args) - i) ((0, w, k, n, s, ls, args)) ([0, 1, 2, 3, 4, 5]) rfl ?I4 ?M4 ?H4
 case I4 =>
  exact ⟨Nat.zero_le _, rfl, fun h => h⟩
 case M4 =>
  refine mo ?_ (aH (eh rfl (by exact Fit.G2) (aH (aH (aH (aH (aH (aH dF))))))))
  repeat (first | exact cW | refine bh ?_ | refine cu ?_)
 case H4 =>
  rintro ⟨i, w2, k3, m3, s3, l3, a3⟩ hinv
  try dsimp only at hinv
  refine kc 0 [16, 15, 14, 12, 11, 5, 0, 3] 8 ?_;refine cJ (fun h11 => ?_) (fun h11 => ?_)
  ·refine kc 5 [] 7 ?_;refine eo (.cb [.v (.bool true), .v (.int .i64 0)]) [0, 1] [aP es w2, aN] ?_
   ·exact ⟨true, 0, w2, rfl, rfl, hinv.2.2⟩
  refine gc 5 ?_
  obtain ⟨m5, s5, l5, ⟨kX, mX, sX, lX, aX⟩, ⟨kY, mY, sY, lY, aY⟩, g1, g2, g3, g4⟩ := gK i _ (show i < bu (.mk k n s ls args) by omega)
  have hes := dE (i + 1) (.mk k n s ls args)
  rw [g3, c7] at hes
  have hxi : (jm (i + 1) (.mk k n s ls args))[i]? = some (.mk kX mX sX lX aX) := (by rw [g3, List.getElem?_append_right (by rw [dT _ _ (by omega)]; exact Nat.le_refl _), dT _ _ (by omega), Nat.sub_self]; rfl)
  have hwX := (hWt0.vH (i + 1) (by omega)).2 i _ hxi
  rw [Int.zero_add] at hwX
  simp only [ai] at hes
  have hxl := dT i (.mk k n s ls args) hinv.1
  have hxz := bA (jm i (.mk k n s ls args))
  have hdX := pZ (.mk kX mX sX lX aX)
  rw [← hinv.2.1] at g1
  cases g1
  have hso := gD (gl := gl) hE hL hm (S := S) (by omega) kX mX sX lX aX (jm i (.mk k n s ls args)) w2 (CY hWt0 hinv.1 hz) (by omega) (by omega) (hwX.sh (by omega))
  have hexx := iO (gl := gl) (jm i (.mk k n s ls args)) kX mX sX lX aX (by omega)
  have hw2 := hinv.2.2
  have hi0 := hinv.1
  refine gc 3 ?_;refine o1 (bV bE bK ?_ (he := by exact (rfl)));refine ko 14 [61, 17, 16, 15, 14, 12, 11, 5, 0, 3] 0 ?_;refine xo (ι := Bool) (fun w3 => []) (fun w3 => [aP es w3, aN, rG x, lO kl sl al, tO 5 m3 s3 l3 [.mk kX mX sX lX aX, .mk kY mY sY lY aY], tO kh mh sh lh ah, tO kX mX sX lX aX]) [17, 16, 15, 14, 12, 11, 5, 0, 3] (fun w3 => w3 = false → w = false) rfl ?A5 ?B5
  case A5 =>
   refine cJ (fun h14 => ?_) (fun h14 => ?_)
   ·refine gc 1 ?_;refine bk (w2) rfl ?_ [0, 1, 2, 3, 4, 5, 6] mz
    exact hw2
   refine gc 8 ?_;refine oc (ay vh rfl rfl rfl rfl (hso) [0, 1] (bh (cu .nil)) rfl rfl rfl rfl (an (an (an (bd (an .nil))))) (fun s ob' hq => ?_) (fun s ob' hq => ?_))
   rotate_left
   ·obtain ⟨_, _, _, hq1, _⟩ := hq; cases hq1
   obtain ⟨⟨kr, sr', ar'⟩, code, w4, hq1, rfl, hq2, hq3⟩ := hq; cases hq1; refine ⟨_, _, _, _, _, rfl, rfl, rfl, rfl, rfl, ?_⟩;refine ko 9 [19, 18, 17, 16, 15, 14, 12, 11, 5, 0, 3] 6 ?_;refine cj (fun h16 => ?_) (fun h16 => ?_)
   ·refine kc 0 [19] 15 ?_;refine eo (.cb [.v (.bool false), .v (.int .i64 code)]) [0, 1] [aP es w4, aN] ?_
    ·exact ⟨false, code, w4, rfl, rfl, fun h => hw2 (hq2 h)⟩
   refine gc 3 ?_; obtain rfl : code = 0 := (by omega); obtain ⟨rfl, hWt, hlr⟩ := hq3 rfl
   have halw := oQ (gl := gl) hL kr sr' ar' hlr
   refine gc 2 ?_;refine oc (T := fun _ => False) (bo F7 rfl rfl rfl rfl (halw) (bd .nil) (fun d hd => ?_)); obtain ⟨b2, rfl⟩ := hd; refine ko 12 [21, 20, 17, 16, 15, 14, 12, 11, 5, 0, 3] 0 ?_;refine lP (ι := Nat × Bool) (fun ⟨j, fi⟩ => [(21, int j), (20, .d (.v (.bool fi)))]) [17, 16, 15, 14, 12, 11, 5, 0, 3] (fun ⟨j, fi⟩ => True) (fun ⟨j, fi⟩ => az.length - j) ((p, b2)) rfl ?I6 ?M6 ?H6
   case I6 =>
    trivial
   case M6 =>
    refine mo ?_ (eh rfl (by exact Fit.of_eq (by rw [hx]; rfl)) (aH (aH (aH (aH (aH (aH (aH (aH (aH (aH dF)))))))))))
    repeat (first | exact cW | refine bh ?_ | refine cu ?_)
   case H6 =>
    rintro ⟨j, fi⟩ hinv
    try dsimp only at hinv
    refine kc 0 [21, 20, 17, 16, 15, 14, 12, 11, 5, 0, 3] 9 ?_;refine cJ (fun h20 => ?_) (fun h20 => ?_)
    ·refine kc 5 [20, 17, 16, 15, 14, 12, 11, 5, 0, 3] 6 ?_;refine cJ (fun h23 => ?_) (fun h23 => ?_)
     ·refine gc 1 ?_;refine bk (false) rfl ?_ [0, 1, 2, 3, 4, 5, 6] mz
      exact fun h => hw2 (hq2 h)
     refine kc 0 [] 13 ?_;refine eo (.cb [.v (.bool false), .v (.int .i64 0)]) [0, 1] [aP es false, aN] ?_
     ·exact ⟨false, 0, false, rfl, rfl, fun h => hw2 (hq2 h)⟩
    refine kc 4 [21, 20, 17, 16, 15, 14, 12, 11, 5, 0, 3] 0 ?_
    obtain ⟨k9, m9, s9, l9, a9, hget9⟩ := bQ (show j < az.length by omega); refine gc 3 ?_
    refine' oo (yt := 104) (d := 86) 18 ?a2 ?b2 ?_
    case a2 =>
     intro hc hK
     refine go 2 ?_;refine gy ?_;refine o1 (bV bE bK ?_ (he := by exact (bY hget9)));refine go 4 ?_
     refine' oa (yt := 103) (d := 93) 10 ?a3 ?b3 ?_ (hg := .yes rfl rfl rfl rfl)
     case a3 =>
      intro hc hK
      refine go 2 ?_;refine gy ?_;refine o1 (bV bE bK ?_ (he := by exact (bY hget9)));refine go 3 ?_;refine gy ?_;refine o1 (nT ?_);refine go 1 ?_;refine gy ?_;refine o1 (nT ?_);refine go 1 ?_; exact hK [_, _, _, _, _, _, _, _, _, _] rfl rfl
     case b3 =>
      intro _ hK; refine go 10 ?_; exact hK [_, _, _, _, _, _, _, _, _, _] rfl
     exact hK [_, _, _, _, _, _, _, _] rfl rfl
    case b2 =>
     intro _ hK; refine go 18 ?_
     exact hK [_, _, _, _, _, _, _, _, _, _, _, _, _, _, _, _, _, _] rfl
    refine go 6 ?_;refine o1 (cw ?_);refine go 2 ?_;refine bi (j + 1, (fi || (decide (k9 = 0) && decide (m9 = (bu (.mk k n s ls args) : Int) - 1 - i)))) rfl ?_ mz
    exact ⟨trivial, show _ - (j + 1) < _ - j by omega⟩
  case B5 =>
   rintro w3 hcut
   try dsimp only at hcut
   refine kc 0 [17, 16, 15, 14, 12, 11, 5, 0, 3] 4 ?_;refine oc (cv Ea rfl rfl (hexx) (an (bd .nil)) ?_);refine ko 3 [15, 16, 14, 12, 11, 5, 0, 3] 3 ?_;refine o1 (bV bE bK ?_ (he := by exact (rfl)));refine ko 5 [15, 16, 14, 12, 11, 5, 0, 3] 2 ?_;refine o1 (cw ?_);refine go 2 ?_;refine bk ((i + 1, w3, kY, mY, sY, lY, aY)) rfl ?_ ([0, 1, 2, 3, 4, 5]) ?_
   ·exact ⟨⟨by omega, g2.symm, hcut⟩, show _ - (i + 1) < _ - i by omega⟩
   ·refine mo ?_ (aH (eh rfl (by exact Fit.of_eq (by rw [g3]; rfl)) (aH (aH (aH (aH (aH (aH dF))))))))
    repeat (first | exact cW | refine bh ?_ | refine cu ?_)
end Go.Proofs.YtndbnldjidciiaaGreatDoor
namespace Go.Proofs.YtndbnldjidciiaaGreatDoor
open Go Go.Vd Go.RowKit
attribute [local irreducible] bl br de aj bI cY
variable {g gl : Nat → List D}
def pk (n : Nat) : ByteArray := if h : n < 10 then ⟨#[UInt8.ofNat (48 + n % 10)]⟩ else pk (n / 10) ++ ⟨#[UInt8.ofNat (48 + n % 10)]⟩
variable {n : Nat}
theorem qL (h : n < 10) : pk n = ⟨#[UInt8.ofNat (48 + n % 10)]⟩ := by rw [pk, dif_pos h]
theorem pc (h : ¬ n < 10) : pk n = pk (n / 10) ++ ⟨#[UInt8.ofNat (48 + n % 10)]⟩ := by rw [pk, dif_neg h]
theorem w9 (n : Nat) : (pk n).size ≤ n + 1 := by
 induction n using Nat.strongRecOn with
 | _ n ih =>
  by_cases h : n < 10
  ·rw [qL h]; show 1 ≤ _; omega
  ·rw [pc h, ByteArray.size_append]
   have := ih (n / 10) (by omega)
   have h1 : (ByteArray.mk #[UInt8.ofNat (48 + n % 10)]).size = 1 := rfl
   omega
end Go.Proofs.YtndbnldjidciiaaGreatDoor
namespace Go.Proofs.YtndbnldjidciiaaGreatDoor
open Go Go.Vd Go.RowKit
def FW (l : List UInt8) : Nat := l.foldl (fun a b => 10 * a + (b.toNat - 48)) 0
theorem D1 (l : List UInt8) (b : UInt8) : FW (l ++ [b]) = 10 * FW l + (b.toNat - 48) := by simp [FW]
theorem Ad (n : Nat) : (UInt8.ofNat (48 + n % 10)).toNat - 48 = n % 10 := by
 have : (UInt8.ofNat (48 + n % 10)).toNat = (48 + n % 10) % 256 := rfl
 rw [this]; omega
theorem xd (n : Nat) : FW (pk n).data.toList = n := by
 induction n using Nat.strongRecOn with
 | _ n ih =>
  by_cases h : n < 10
  ·rw [qL h]
   show 10 * 0 + ((UInt8.ofNat (48 + n % 10)).toNat - 48) = n
   rw [Ad]; omega
  ·rw [pc h, ByteArray.data_append, Array.toList_append]
   show FW (_ ++ [UInt8.ofNat (48 + n % 10)]) = n
   rw [D1, ih _ (by omega), Ad]; omega
variable {m n : Nat}
theorem FT (h : pk m = pk n) : m = n := by rw [← xd m, h, xd]
theorem nM {a b c : ByteArray} (h : a ++ b = a ++ c) : b = c := by
 have h1 := congrArg (fun x : ByteArray => x.data.toList) h
 simp only [ByteArray.data_append, Array.toList_append] at h1
 have h2 := List.append_cancel_left h1
 exact ByteArray.ext (Array.toList_inj.1 h2)
def rN : Nat → ByteArray
 | 0 => ⟨#[114]⟩
 | n + 1 => ⟨#[114]⟩ ++ pk (n + 1)
theorem Ae (n : Nat) : pk n ≠ .empty := by
 intro h
 by_cases h9 : n < 10
 ·rw [qL h9] at h; have := congrArg ByteArray.size h; exact absurd (show (1 : Nat) = 0 from this) (by decide)
 ·rw [pc h9] at h
  have := congrArg ByteArray.size h
  rw [ByteArray.size_append] at this
  have h1 : (ByteArray.mk #[UInt8.ofNat (48 + n % 10)]).size = 1 := rfl
  have h2 : ByteArray.empty.size = 0 := rfl
  omega
theorem IF (h : rN m = rN n) : m = n := by
 match m, n with
 | 0, 0 => rfl
 | 0, n + 1 =>
  have : (⟨#[114]⟩ : ByteArray) ++ .empty = ⟨#[114]⟩ ++ pk (n + 1) := h
  exact absurd (nM this).symm (Ae _)
 | m + 1, 0 =>
  have : (⟨#[114]⟩ : ByteArray) ++ pk (m + 1) = ⟨#[114]⟩ ++ .empty := h
  exact absurd (nM this) (Ae _)
 | m + 1, n + 1 => exact FT (nM h)
theorem J3 (n : Nat) : rN n ≠ .empty := by
 intro h
 have h0 : ByteArray.empty.size = 0 := rfl
 have h1 : (ByteArray.mk #[114]).size = 1 := rfl
 have := congrArg ByteArray.size h
 match n with
 | 0 => exact absurd (show (1 : Nat) = 0 from this) (by decide)
 | n + 1 =>
  change ((⟨#[114]⟩ : ByteArray) ++ pk (n + 1)).size = 0 at this
  rw [ByteArray.size_append] at this; omega
theorem EW {l : List ByteArray} {k : Nat} (h : ∀ j, j < k → rN j ∈ l) : k ≤ l.length := by
 have h1 : ((List.range k).map rN).Nodup := by
  unfold List.Nodup
  rw [List.pairwise_map]
  exact List.nodup_range.imp fun h e => h (IF e)
 have h2 := rk (b := l) h1 fun x hx => by
  obtain ⟨j, hj, rfl⟩ := List.mem_map.1 hx
  exact h j (List.mem_range.1 hj)
 simpa using h2
structure As (x : RD) : Prop where
 nm : x.sd.size ≤ 200000
 pn : x.pd.length ≤ 1000000
 pd : ∀ q ∈ x.pd, q ≠ .empty
 ty : iU 99999 (.mk x.k1 x.n1 x.s1 x.l1 x.a1) ∧ (ae.mk x.k1 x.n1 x.s1 x.l1 x.a1).size ≤ 800001
 vl : x.kd = 2 → iU 99999 (.mk x.k2 x.n2 x.s2 x.l2 x.a2) ∧ (ae.mk x.k2 x.n2 x.s2 x.l2 x.a2).size ≤ 800001
 ar : 0 ≤ x.ad ∧ x.ad ≤ 99
 cs : ∀ c ∈ x.cd, iU 99999 c.2 ∧ c.2.size ≤ 800001 ∧ c.1.size ≤ 200000
 Li : Aj x.cd ≤ 2000000
 cl : x.cd.length ≤ 400000
 k : x.kd = 1 ∨ x.kd = 2 ∨ x.kd = 3
 nc : x.kd ≠ 3 → x.cd = []
 vz : (ae.mk x.k2 x.n2 x.s2 x.l2 x.a2).size ≤ 800001
def EK (es : List cq) (d : dp) : Sg := fun s => if s = d.nm ∨ tl s (d.cs.map (·.1)) = true then some d.ps.length else eB es s
theorem AM (es : List cq) (d : dp) : EK es d d.nm = some d.ps.length := if_pos (.inl rfl)
theorem EI (es : List cq) (d : dp) {c : ByteArray × ae} (h : c ∈ d.cs) : EK es d c.1 = some d.ps.length := if_pos (.inr (gP.2 (List.mem_map_of_mem h)))
variable {es : List cq} {e : cq}
theorem Iz (hk : ∀ e ∈ es, e.d.k ≠ 0) (hd : e.d.k = 3) (hn : ∀ y ∈ cQ e.d, y ∉ cX es) (hnd : (cQ e.d).Nodup) : v5 (EK es e.d) (eB (es ++ [e])) := by
 intro s n hs
 unfold EK at hs
 split at hs
 ·rename_i h
  rcases h with rfl | h
  ·rw [AL hk (hn _ (by simp [cQ])), HL (.inr (.inr hd)), hs]
  ·have h := gP.1 h
   obtain ⟨c, hc, rfl⟩ := List.mem_map.1 h
   rw [AL hk (hn _ (by unfold cQ; exact List.mem_cons_of_mem _ (List.mem_append_left _ h))), GO hc ?_, hs]
   intro h2
   unfold cQ at hnd
   exact (List.nodup_cons.1 hnd).1 (List.mem_append_left _ (by rw [← h2]; exact h))
 ·exact pQ _ _ _ _ hs
theorem EJ (hk : ∀ e ∈ es, e.d.k ≠ 0) (hn : ∀ y ∈ cQ e.d, y ∉ cX es) : v5 (eB (es ++ [F9 e])) (EK es e.d) := by
 intro s n hs
 have hnm : e.d.nm ∉ cX es := hn _ (by simp [cQ])
 by_cases h : s = e.d.nm
 ·subst h
  rw [AL hk hnm] at hs
  have h3 := HL (e := F9 e) (.inl rfl)
  rw [show (F9 e).d.nm = e.d.nm from rfl] at h3
  rw [AM, ← hs, h3]; rfl
 ·have h0 : (bB s es).1 ≠ 0 := fun h0 => by
   have h1 := yK hs
   rw [jR hk h0, bB, if_neg (show ¬ (F9 e).d.nm = s from fun g => h g.symm)] at h1
   exact h1 rfl
  have h2 : ¬ (s = e.d.nm ∨ tl s (e.d.cs.map (·.1)) = true) := fun g => by
   rcases g with g | g
   ·exact h g
   ·have g := gP.1 g
    exact h0 ((jP hk).2 (hn _ (by unfold cQ; exact List.mem_cons_of_mem _ (List.mem_append_left _ g))))
  unfold EK
  rw [if_neg h2]
  rw [xz (nF h0)] at hs; exact hs
structure Gp (es : List cq) (d : dp) (rp : List ByteArray) (rt : ae) : Prop where
 new : ∀ y ∈ cQ d, y ∉ cX es
 nd : (cQ d).Nodup
 ps : d.ps.length ≤ 6
 ty : Wt (eB es) d.ps d.ty 0
 ar : d.ar ≤ bu d.ty
 cs : ∀ c ∈ d.cs, Wt (EK es d) d.ps c.2 0 ∧ d.ar ≤ bu c.2 ∧ AX d.nm d.ar c.2
 LR : rp.length ≤ 7
 LC : Wt (EK es d) rp rt 0 ∧ rt.size ≤ 1000000000
variable {x : RD}
theorem Gp.env (hF : gY es) (hl : es.length < 1000000) (hx : As x) (hk : x.kd = 3) {rp : List ByteArray} {rt : ae} (h : Gp es x.dec rp rt) : gY (es ++ [⟨x.dec, rp, rt⟩]) := by
 have hk0 := hF.ok.k0
 have hle : v5 (EK es x.dec) (eB (es ++ [⟨x.dec, rp, rt⟩])) := Iz (e := ⟨x.dec, rp, rt⟩) hk0 hk h.new h.nd
 refine hF.app hl h.new h.nd ⟨.inr (.inr hk), h.ps, ?_, ⟨h.ty.mono (pQ _ _) (fun _ h => h) (Int.le_refl _), hx.ty.2⟩, fun g => ?_, ?_, fun _ => ⟨hx.ar.1, h.ar⟩, fun c hc => ⟨(h.cs c hc).1.mono hle (fun _ h => h) (Int.le_refl _), (hx.cs c hc).2.1, (h.cs c hc).2.1⟩, h.LR, fun _ => ⟨h.LC.1.mono hle (fun _ h => h) (Int.le_refl _), ?_⟩⟩ (fun _ c hc => (h.cs c hc).2.2) (fun g => absurd hk g) hx.vz
 ·exact Nat.le_trans hx.nm (by decide)
 ·exact absurd (hk.symm.trans g) (by decide)
 ·exact Nat.le_trans hx.cl (by decide)
 ·exact Nat.le_trans h.LC.2 (by decide)
structure Gg (es : List cq) (d : dp) : Prop where
 new : d.nm ∉ cX es
 ps : d.ps.length ≤ 6
 ty : Wt (eB es) d.ps d.ty 0
 vl : d.k = 2 → Wt (eB es) d.ps d.vl 0
theorem Gg.env (hF : gY es) (hl : es.length < 1000000) (hx : As x) (hk : x.kd ≠ 3) (h : Gg es x.dec) : gY (es ++ [⟨x.dec, [], aI⟩]) := by
 have hnd : cQ x.dec = [x.sd] := by
  unfold cQ
  rw [if_neg (show ¬ x.dec.k = 3 from hk), show x.dec.cs = [] from hx.nc hk]; rfl
 have hnc : ∀ c ∈ x.dec.cs, False := fun c hc => by rw [show x.dec.cs = [] from hx.nc hk] at hc; cases hc
 refine hF.app hl (fun y hy => ?_) (by show (cQ x.dec).Nodup; rw [hnd]; simp) ⟨?_, h.ps, ?_, ⟨h.ty.mono (pQ _ _) (fun _ h => h) (Int.le_refl _), hx.ty.2⟩, fun g => ⟨(h.vl g).mono (pQ _ _) (fun _ h => h) (Int.le_refl _), (hx.vl g).2⟩, ?_, fun g => absurd g hk, fun c hc => (hnc c hc).elim, Nat.zero_le _, fun g => absurd g hk⟩ (fun g => absurd g hk) (fun _ => hx.nc hk) hx.vz
 ·change y ∈ cQ x.dec at hy
  rw [hnd] at hy
  simp only [List.mem_singleton] at hy; subst hy; exact h.new
 ·exact hx.k
 ·exact Nat.le_trans hx.nm (by decide)
 ·exact Nat.le_trans hx.cl (by decide)
theorem Wt.EG {sg : Sg} {ps : List ByteArray} {n c : Int} {s : ByteArray} {ls : List aJ} {args : List ae} (h : Wt sg ps (.mk 1 n s ls args) c) : ∃ l, ls = [l] ∧ gQ ps l := by
 rcases h.2.2 with g | g | g | g | g
 ·exact absurd g.1 (by decide)
 ·obtain ⟨_, _, _, hl, _⟩ := g
  obtain ⟨l, rfl⟩ := List.length_eq_one_iff.1 hl
  exact ⟨l, rfl, h.1 l (by simp)⟩
 ·exact absurd g.1 (by decide)
 ·exact absurd g.1 (by decide)
 ·exact absurd g.1 (by decide)
end Go.Proofs.YtndbnldjidciiaaGreatDoor
namespace Go.Proofs.YtndbnldjidciiaaGreatDoor
open Go Go.Vd Go.RowKit
attribute [local irreducible] bl br de aj bI cY
variable {g gl : Nat → List D}
theorem Hl (n : Nat) : [[D.v (.int .u8 (IntKind.wrap .u8 (48 + (n : Int) % 10)))]] = ll ⟨#[UInt8.ofNat (48 + n % 10)]⟩ := by
 have h : IntKind.wrap .u8 (48 + (n : Int) % 10) = ((UInt8.ofNat (48 + n % 10)).toNat : Int) := by
  unfold IntKind.wrap
  simp [IntKind.bits, IntKind.signed]
 rw [h]; rfl
theorem Ac (n : Nat) (hn : n ≤ 1099511627776) : cD Tryz.prog gl 168 [.v (.int .i64 n)] (· = .v (.string (pk n))) := by
 induction n using Nat.strongRecOn with
 | _ n ih =>
  have hsz := w9 (n / 10)
  have h1s : (ByteArray.mk #[UInt8.ofNat (48 + n % 10)]).size = 1 := rfl
  refine bD Tryz.func168 Tryz.ntmps168 ?_;refine gc 8 ?_;refine o1 (FN ?_);refine o1 (cw ?_);refine o1 (CP Lz LM rfl rfl ?_);refine oc (gR HK [.tmp 7] LO ?_);refine o1 (ye HK.under Lz rO rfl rfl (Hl n) (by intro e; have := congrArg ByteArray.size e; rw [h1s] at this; cases this) ?_);refine ko 4 [3, 0] 6 ?_;refine cj (fun h2 => ?_) (fun h2 => ?_)
  ·refine gc 8 ?_;refine ez ?_
   rw [qL (by omega)]
  refine gc 5 ?_;refine o1 (Br rfl rfl rfl (by omega) ?_);refine oc (cv HV rfl rfl (ih (n / 10) (by omega) (by omega)) (an .nil) ?_);refine go 1 ?_;refine o1 (pY ?_ (hb := by (try simp only [ByteArray.size_append, ni, List.size_toArray, List.length_cons, List.length_nil]); omega));refine go 4 ?_;refine ez ?_
  rw [pc (n := n) (by omega)]
end Go.Proofs.YtndbnldjidciiaaGreatDoor
namespace Go.Proofs.YtndbnldjidciiaaGreatDoor
open Go Go.Vd Go.RowKit
attribute [local irreducible] bl br de aj bI cY
variable {g gl : Nat → List D}
def sR : Ob := .row 9 1
def Aa (k : Nat) (es : List cq) (w : Bool) : Ob := .cells [.own k 21 (nR es), .d (.v (.bool w))] 47
def JC (es : List cq) (d : dp) (w : Bool) (out : Out) (ob' : List Ob) : Prop :=
 ∃ (rp : List ByteArray) (rt : ae) (code : Int) (w' : Bool), out = .ret (.d (.cb [c6 rp, rt.d, .v (.int .i64 code)])) ∧ ob' = [aP es w', aN] ∧ (w' = false → w = false) ∧ (code = 0 → Gp es d rp rt)
def nH (x : RD) : List ByteArray := x.sd :: (x.cd.map (·.1) ++ [x.sd ++ tk])
variable {x : RD}
theorem o9 (hk : x.kd = 3) : cQ x.dec = nH x := by
 unfold cQ nH
 rw [if_pos (show x.dec.k = 3 from hk)]; rfl
variable {i : Nat}
theorem DT {c : ByteArray × ae} (h : x.cd[i]? = some c) : strs (x.sd :: (x.cd.take i).map (·.1)) ++ [[.v (.string c.1)]] = strs (x.sd :: (x.cd.take (i + 1)).map (·.1)) := by
 rw [List.take_add_one, h]
 simp [strs]
theorem FM (x : RD) : strs (x.sd :: (x.cd.take x.cd.length).map (·.1)) ++ [[.v (.string (x.sd ++ tk))]] = strs (nH x) := by
 rw [List.take_length]; simp [strs, nH]
variable {es : List cq}
theorem FL {l : List ByteArray} (hi : i < l.length) (h1 : ∀ y ∈ l.take i, y ∉ cX es) (h2 : l[i] ∉ cX es) : ∀ y ∈ l.take (i + 1), y ∉ cX es := by
 intro y hy
 rw [List.take_add_one, List.getElem?_eq_getElem hi] at hy
 rcases List.mem_append.1 hy with hy | hy
 ·exact h1 y hy
 ·simp only [Option.toList_some, List.mem_singleton] at hy; subst hy; exact h2
theorem Eh (es : List cq) (x : RD) (rp : List ByteArray) (rt : ae) : nR (es ++ [F9 ⟨x.dec, rp, rt⟩]) = nR es ++ [[.v (.int .i64 1), .v (.string x.sd), .sl 1 (strs x.pd), .v (.int .i64 x.k1), .v (.int .i64 x.n1), .v (.string x.s1), .sl 3 (bF x.l1), .sl 5 (ba x.a1), .v (.int .i64 0), .v (.int .i64 0), .v (.string .empty), .sl 3 [], .sl 5 [], .v (.int .i64 0), .sl 6 [], .sl 1 [], .v (.int .i64 0), .v (.int .i64 0), .v (.string .empty), .sl 3 [], .sl 5 []]] := by
 rw [Ab]; rfl
set_option maxHeartbeats 4000000 in
theorem zZ (hE : cP es) (hel : es.length < 1000000) (x : RD) (hx : As x) (hk : x.kd = 3) {most : Nat} (hm : most ≤ 1000000) (w : Bool) :
 ey Tryz.prog gl 148 [aP es w, aN] [.bZ 0 0, .d x.dec.d, .d (.v (.int .i64 most))] (JC es x.dec w) := by
 have hcl := gd x.cd
 have hcl2 := hx.cl
 have hpn := hx.pn
 have hsd := hx.nm
 have htz := hx.ty.2
 have hsh := jG (B' := 4398046511104) (by decide) hx.ty.1
 have hdl := pZ (.mk x.k1 x.n1 x.s1 x.l1 x.a1)
 have hpi := gJ (gl := gl) x.k1 x.n1 x.s1 x.l1 x.a1 hsh (by omega)
 have hpz := dX _ (.mk x.k1 x.n1 x.s1 x.l1 x.a1) (Nat.le_refl _)
 have hen := qK (gl := gl) (bu (.mk x.k1 x.n1 x.s1 x.l1 x.a1)) x.k1 x.n1 x.s1 x.l1 x.a1 hsh (Nat.le_refl _) (by omega)
 have htw := tM (gl := gl) x.pd (by omega)
 have hel2 := oH es
 have hpl9 := bU x.pd
 obtain ⟨p, hp⟩ : ∃ p : Nat, x.ad = p := ⟨x.ad.toNat, by have := hx.ar.1; omega⟩
 have hp99 : p ≤ 99 := (by have := hx.ar.2; omega)
 have hfl : (nH x).length = x.cd.length + 2 := by simp [nH]
 have hfs := bU (nH x)
 obtain ⟨kE, mE, sE, lE, aE, hEe⟩ := ae.case (eU (bu (.mk x.k1 x.n1 x.s1 x.l1 x.a1)) (.mk x.k1 x.n1 x.s1 x.l1 x.a1))
 rw [hEe] at hen
 refine bS Tryz.func148 Tryz.ntmps148 2 ?_;refine gc 12 ?_;refine oc (gR ng [.tmp 30] AB ?_);refine ko 4 [9, 7, 4, 0, 2] 6 ?_;refine lp (ι := Nat) (fun i => [(10, int i), (9, .own 4 1 (strs (x.sd :: (x.cd.take i).map (·.1))))]) (fun i => [aP es w, aN, rG x, zO, sR]) [7, 4, 0, 2] (fun i => i ≤ x.cd.length) (fun i => x.cd.length - i) (0) ([0, 1, 2, 3, 4]) rfl ?I5 ?M5 ?H5
 case I5 =>
  exact Nat.zero_le _
 case M5 =>
  exact mz
 case H5 =>
  rintro i hinv
  try dsimp only at hinv
  refine kc 0 [10, 9, 7, 4, 0, 2] 10 ?_;refine cj (fun h3 => ?_) (fun h3 => ?_)
  ·refine kc 4 [10, 9, 7, 4, 0, 2] 0 ?_; obtain ⟨cN, cK, cM, cS, cL, cA, hget⟩ := kn (show i < x.cd.length by omega)
   have hsl0 := bU (x.sd :: (x.cd.take i).map (·.1))
   have hsl1 : (x.sd :: (x.cd.take i).map (·.1)).length ≤ x.cd.length + 1 := (by simp only [List.length_cons, List.length_map, List.length_take]; omega)
   refine gc 5 ?_;refine o1 (bV pG qc ?_ (he := by exact (gW hget)));refine go 2 ?_;refine oc (gR ng [.tmp 45] AB ?_);refine oc (rj ng rfl rfl rfl rfl rfl rfl rfl (.inl rfl) (by decide) (by simp) (by (rw [hsl0]; simp only [maxLen, List.length_cons, List.length_nil] at hsl1 ⊢; omega)) rfl rfl rfl ?_);refine ko 4 [9, 10, 7, 4, 0, 2] 2 ?_;refine o1 (cw ?_);refine go 2 ?_;refine bk (i + 1) rfl ?_ ([0, 1, 2, 3, 4]) ?_
   ·exact ⟨by omega, by omega⟩
   ·refine mo ?_ (aH (eh rfl (by exact Fit.of_eq (by rw [← DT hget]; rfl)) (aH (aH (aH (aH dF))))))
    repeat (first | exact cW | refine bh ?_ | refine cu ?_)
  refine kc 6 [9, 7, 4, 0, 2] 0 ?_
  obtain rfl : i = x.cd.length := (by omega)
  have hsl0 := bU (x.sd :: (x.cd.take x.cd.length).map (·.1))
  have hsl1 : (x.sd :: (x.cd.take x.cd.length).map (·.1)).length ≤ x.cd.length + 1 := (by simp only [List.length_cons, List.length_map, List.length_take]; omega)
  refine gc 4 ?_;refine o1 (pY ?_ (hb := by (try simp only [ByteArray.size_append, ni, List.size_toArray, List.length_cons, List.length_nil]); omega));refine oc (gR ng [.tmp 51] AB ?_);refine oc (rj ng rfl rfl rfl rfl rfl rfl rfl (.inl rfl) (by decide) (by simp) (by (rw [hsl0]; simp only [maxLen, List.length_cons, List.length_nil] at hsl1 ⊢; omega)) rfl rfl rfl ?_);refine ko 4 [9, 7, 4, 0, 2] 6 ?_;refine lp (ι := Nat) (fun i => [(11, int i), (9, .own 4 1 (strs (nH x)))]) (fun i => [aP es w, aN, rG x, zO, sR]) [7, 4, 0, 2] (fun i => i ≤ (nH x).length ∧ (∀ y ∈ (nH x).take i, y ∉ cX es) ∧ ((nH x).take i).Nodup) (fun i => (nH x).length - i) (0) ([0, 1, 2, 3, 4]) rfl ?I6 ?M6 ?H6
  case I6 =>
   exact ⟨Nat.zero_le _, fun y hy => by simp at hy, by simp⟩
  case M6 =>
   refine mo ?_ (aH (eh rfl (by exact Fit.of_eq (by rw [← FM]; rfl)) (aH (aH (aH (aH dF))))))
   repeat (first | exact cW | refine bh ?_ | refine cu ?_)
  case H6 =>
   rintro i hinv
   try dsimp only at hinv
   refine kc 0 [11, 9, 7, 4, 0, 2] 9 ?_;refine cj (fun h8 => ?_) (fun h8 => ?_)
   ·refine kc 5 [11, 9, 7, 4, 0, 2] 0 ?_
    have hi : i < (nH x).length := (by omega)
    have hst := wi (nH x) i
    have hkn := uO (gl := gl) es w (nH x)[i] hE.b
    have ham := iJ (gl := gl) (nH x)[i] ((nH x).take i) (by rw [List.length_take]; omega)
    refine gc 4 ?_;refine o1 (wU jW lF ?_ (he := by exact (fX hi)));refine go 1 ?_;refine oc (ck HZ rfl rfl (hkn) [0, 1] rfl (bh (cu .nil)) (an (an .nil)) ?_);refine ko 4 [12, 11, 9, 7, 4, 0, 2] 0 ?_;refine gz [0, 1] mixed ?_;refine A1 2 rfl (wU jW lF ⟨_, rfl, ?_⟩ (he := by exact (fX hi)));refine ga [3, 4, 5] ?_;refine A1 6 rfl (gT jW lF rfl rfl rfl rfl rfl rfl (by omega) (hst) ⟨_, rfl, ?_⟩);refine A2 7 rfl (cv xm rfl rfl (ham) (an (an .nil)) ?_);refine ga [8] ?_;refine aQ ?_;refine ke 1 [13, 12, 11, 9, 7, 4, 0, 2] 4 ?_
    refine' oo (yt := 76) (d := 75) 1 ?a1 ?b1 ?_
    case a1 =>
     intro hc hK
     refine go 1 ?_; exact hK [_] rfl rfl
    case b1 =>
     intro _ hK; refine go 1 ?_; exact hK [_] rfl
    refine go 2 ?_;refine cJ (fun h12 => ?_) (fun h12 => ?_)
    ·refine kc 3 [11, 9, 7, 4, 0, 2] 2 ?_;refine o1 (cw ?_);refine go 2 ?_;refine bk (i + 1) rfl ?_ [0, 1, 2, 3, 4] mz
     exact ⟨⟨by omega, FL hi hinv.2.1 ((jP hE.k0).1 (by simpa using h12.1)), uw hi hinv.2.2 (by simpa using h12.2)⟩, by omega⟩
    refine kc 0 [7] 14 ?_;refine eo (.cb [c6 [], aI.d, .v (.int .i64 3)]) [0, 1] [aP es w, aN] ?_
    ·exact ⟨[], aI, 3, w, rfl, rfl, fun h => h, fun h => absurd h (by omega)⟩
   refine kc 6 [7, 4, 0, 2] 0 ?_
   obtain rfl : i = (nH x).length := (by omega)
   have hnames := hinv.2
   rw [List.take_length] at hnames
   refine gc 3 ?_;refine oc (T := fun _ => False) (bo HY rfl rfl rfl rfl (htw) (an .nil) (fun d hd => ?_)); obtain ⟨b, rfl, hb⟩ := hd; refine go 9 ?_;refine cj (fun h15 => ?_) (fun h15 => ?_)
   ·refine kc 0 [7] 10 ?_;refine eo (.cb [c6 [], aI.d, .v (.int .i64 5)]) [0, 1] [aP es w, aN] ?_
    ·exact ⟨[], aI, 5, w, rfl, rfl, fun h => h, fun h => absurd h (by omega)⟩
   refine kc 3 [7, 4, 0, 2] 0 ?_
   have hL : x.pd.length ≤ 6 := (hb (by revert h15; cases b <;> simp)).1
   have hso := gD (gl := gl) hE hL hm (S := 800001) (by decide) x.k1 x.n1 x.s1 x.l1 x.a1 [] w (fun i y hy => by simp at hy) (by simp only [List.length_nil]; omega) htz hsh
   refine gc 7 ?_;refine oc (ay vh rfl rfl rfl rfl (hso) [0, 1] (bh (cu .nil)) rfl rfl rfl rfl (an (an (JL (bd (an .nil))))) (fun s ob' hq => ?_) (fun s ob' hq => ?_))
   rotate_left
   ·obtain ⟨_, _, _, hq1, _⟩ := hq; cases hq1
   obtain ⟨⟨kr, sr', ar'⟩, code, w1, hq1, rfl, hq2, hq3⟩ := hq; cases hq1; refine ⟨_, _, _, _, _, rfl, rfl, rfl, rfl, rfl, ?_⟩;refine ko 9 [16, 7, 4, 0, 2] 6 ?_;refine cj (fun h18 => ?_) (fun h18 => ?_)
   ·refine kc 0 [16, 7] 11 ?_;refine eo (.cb [c6 [], aI.d, .v (.int .i64 code)]) [0, 1] [aP es w1, aN] ?_
    ·exact ⟨[], aI, code, w1, rfl, rfl, hq2, fun h => absurd h h18⟩
   refine gc 3 ?_; obtain rfl : code = 0 := (by omega); obtain ⟨rfl, hWt, hlr⟩ := hq3 rfl
   have hWt0 : Wt (eB es) x.pd (.mk x.k1 x.n1 x.s1 x.l1 x.a1) 0 := hWt
   obtain rfl : w = false := hq2 rfl; refine gc 3 ?_;refine oc (cv pC rfl rfl (hpi) (bd .nil) ?_);refine ko 3 [17, 7, 4, 0, 2] 5 ?_;refine oc (cv An rfl rfl (hen) (bd (an .nil)) ?_);refine ko 5 [18, 17, 7, 4, 0, 2] 7 ?_
   refine' oo (yt := 112) (d := 109) 3 ?a2 ?b2 ?_
   case a2 =>
    intro hc hK
    refine go 3 ?_; exact hK [_, _, _] rfl rfl
   case b2 =>
    intro _ hK; refine go 3 ?_; exact hK [_, _, _] rfl
   refine go 2 ?_;refine cj (fun h22 => ?_) (fun h22 => ?_)
   ·refine kc 0 [7] 10 ?_;refine eo (.cb [c6 [], aI.d, .v (.int .i64 11)]) [0, 1] [aP es false, aN] ?_
    ·exact ⟨[], aI, 11, false, rfl, rfl, fun h => h, fun h => absurd h (by omega)⟩
   refine kc 3 [18, 17, 7, 4, 0, 2] 0 ?_
   obtain ⟨h22a, rfl⟩ : ¬ ((bu (.mk x.k1 x.n1 x.s1 x.l1 x.a1) : Int) < x.ad) ∧ kE = 1 := (by first | exact ⟨by omega, by omega⟩)
   have hwe := (hWt0.vH _ (Nat.le_refl _)).1
   rw [hEe] at hwe
   obtain ⟨⟨kl, sl, al⟩, rfl, hlv⟩ := hwe.EG
   have halw := oQ (gl := gl) hL kl sl al hlv
   have hnev := ux (gl := gl) hL kl sl al hlv
   obtain ⟨M, hM⟩ : ∃ M : Nat, bu (.mk x.k1 x.n1 x.s1 x.l1 x.a1) = p + M := ⟨bu (.mk x.k1 x.n1 x.s1 x.l1 x.a1) - p, by omega⟩
   have hMz : M ≤ 800001 := (by omega)
   have hMi : (M : Int) = (bu (.mk x.k1 x.n1 x.s1 x.l1 x.a1) : Int) - x.ad := (by omega)
   have hE2 : cP (es ++ [F9 ⟨x.dec, [], aI⟩]) := hE.ax hel (by
    have := hnames.1 x.sd (by simp [nH]); exact this) hL (by show x.sd.size ≤ _; omega) ⟨hWt0, htz⟩
   have hw2 : Wt (eB (es ++ [F9 ⟨x.dec, [], aI⟩])) x.pd (.mk x.k1 x.n1 x.s1 x.l1 x.a1) 0 := hWt0.mono (pQ _ _) (fun _ h => h) (Int.le_refl _)
   refine gc 3 ?_;refine o1 (bV ee ei ?_ (he := by exact (rfl)));refine ko 5 [19, 17, 7, 4, 0, 2] 3 ?_;refine oc (T := fun _ => False) (bo F7 rfl rfl rfl rfl (halw) (bd .nil) (fun d hd => ?_)); obtain ⟨b1, rfl⟩ := hd; refine go 6 ?_;refine oc (T := fun _ => False) (bo HX rfl rfl rfl rfl (hnev) (bd .nil) (fun d hd => ?_)); obtain ⟨b2, rfl⟩ := hd; refine ko 4 [21, 20, 19, 17, 7, 4, 0, 2] 5 ?_
   refine' oa (yt := 127) (d := 125) 2 ?a3 ?b3 ?_
   case a3 =>
    intro hc hK
    refine go 2 ?_; exact hK [_, _] rfl rfl
   case b3 =>
    intro _ hK; refine go 2 ?_; exact hK [_, _] rfl
   refine go 1 ?_
   refine' oo (yt := 133) (d := 129) 4 ?a4 ?b4 ?_
   case a4 =>
    intro hc hK
    refine go 4 ?_; exact hK [_, _, _, _] rfl rfl
   case b4 =>
    intro _ hK; refine go 4 ?_; exact hK [_, _, _, _] rfl
   refine go 2 ?_;refine cj (fun h27 => ?_) (fun h27 => ?_)
   ·refine kc 0 [7] 10 ?_;refine eo (.cb [c6 [], aI.d, .v (.int .i64 11)]) [0, 1] [aP es false, aN] ?_
    ·exact ⟨[], aI, 11, false, rfl, rfl, fun h => h, fun h => absurd h (by omega)⟩
   refine kc 2 [19, 17, 7, 4, 0, 2] 5 ?_;refine o1 (nT ?_);refine ko 3 [22, 19, 7, 4, 0, 2] 8 ?_;refine gz [0, 1, 2, 3, 4, 5, 6, 7, 8] mixed ?_;refine A2 (T := fun _ => False) 9 rfl (gL AH rfl rfl rfl rfl rfl rfl (by simp only [List.length_cons, List.length_nil, Nat.reduceAdd]; rfl) rfl rfl (by decide) (by (simp only [maxLen, List.length_cons, List.length_nil]; omega)) rfl rfl rfl ?_);refine ga [10, 11] ?_;refine A2 12 rfl (eD EB ?_);refine aQ ?_;refine ke 2 [23, 22, 19, 7, 4, 2] 0 ?_;refine gz [0, 1, 2, 3, 4, 5, 6, 7, 8, 9, 10, 11, 12] mixed ?_;refine A2 13 rfl (gR AH [.tmp 166] AD ?_);refine A2 14 rfl (nU AH ?_);refine ga [15, 16] ?_;refine A2 17 rfl (eD EB ?_);refine aQ ?_;refine ke 3 [23, 22, 19, 7, 4, 2] 0 ?_
   skip
   have hfw : ∀ ob, Fit ob (SV.own 9 21 (nR es ++ [[D.v (.int .i64 1), .v (.string x.sd), .sl 1 (strs x.pd), .v (.int .i64 x.k1), .v (.int .i64 x.n1), .v (.string x.s1), .sl 3 (bF x.l1), .sl 5 (ba x.a1), .v (.int .i64 0), .v (.int .i64 0), .v (.string .empty), .v (.slice none 0 0), .v (.slice none 0 0), .v (.int .i64 0), .v (.slice none 0 0), .v (.slice none 0 0), .v (.int .i64 0), .v (.int .i64 0), .v (.string .empty), .v (.slice none 0 0), .v (.slice none 0 0)]])) (SV.own 9 21 (nR (es ++ [F9 ⟨x.dec, [], aI⟩]))) := fun ob => by
    rw [Eh]
    refine Fit.own (nJ ?_ _)
    repeat (first | exact .nil | exact .cons .nil .nil | refine .cons (.refl _) ?_ | refine .cons .nil ?_)
   refine gc 5 ?_;refine lp (ι := Nat × Bool) (fun ⟨i, w2⟩ => [(24, int i)]) (fun ⟨i, w2⟩ => [aP es false, aN, rG x, zO, sR, lO kr sr' ar', tO 1 mE sE [.mk kl sl al] aE, lO kl sl al, Aa 9 (es ++ [F9 ⟨x.dec, [], aI⟩]) w2, aN]) [23, 22, 19, 7, 4, 2] (fun ⟨i, w2⟩ => i ≤ x.cd.length ∧ ∀ c ∈ x.cd.take i, Wt (eB (es ++ [F9 ⟨x.dec, [], aI⟩])) x.pd c.2 0 ∧ p ≤ bu c.2 ∧ AX x.sd p c.2) (fun ⟨i, w2⟩ => x.cd.length - i) ((0, false)) ([0, 1, 2, 3, 4, 5, 6, 7, 8, 9]) rfl ?I7 ?M7 ?H7
   case I7 =>
    exact ⟨Nat.zero_le _, fun c hc => by simp at hc⟩
   case M7 =>
    refine mo ?_ (aH (aH (aH (aH (aH (aH (aH dF)))))))
    repeat (first | exact cW | exact zX | refine bh ?_ | refine cu ?_ | refine BU ?_ ?_ | refine an ?_ | refine .cons (hfw _) ?_)
   case H7 =>
    rintro ⟨i, w2⟩ hinv
    try dsimp only at hinv
    refine kc 0 [24, 23, 22, 19, 7, 4, 2] 10 ?_;refine cj (fun h34 => ?_) (fun h34 => ?_)
    ·refine kc 5 [24, 23, 22, 19, 7, 4, 2] 0 ?_; obtain ⟨cN, cK, cM, cS, cL, cA, hget⟩ := kn (show i < x.cd.length by omega)
     obtain ⟨g1, g2, g3⟩ := hx.cs _ (List.mem_of_getElem? hget)
     have hct := D4 (gl := gl) hE2 x hL p hp hm (S := 800001) (by decide) M hw2 htz hM cN cK cM cS cL cA w2 g2 (jG (by decide) g1) kl sl al hlv
     rw [hMi] at hct
     refine gz [0, 1, 2, 3, 4] mixed ?_;refine A1 5 rfl (bV pG qc ⟨_, rfl, ?_⟩ (he := by exact (gW hget)));refine ga [6, 7, 8, 9] ?_;refine A2 10 rfl (ay Kz rfl rfl rfl rfl (hct) [8, 9] (bh (cu .nil)) rfl rfl rfl rfl (an (bd (bd (an (bd (an .nil)))))) (fun s ob' hq => ?_) (fun s ob' hq => ?_))
     rotate_left
     ·obtain ⟨_, _, hq1, _⟩ := hq; cases hq1
     obtain ⟨code, w4, hq1, rfl, hq2, hq3⟩ := hq; cases hq1; refine ⟨_, _, _, _, _, rfl, rfl, rfl, rfl, rfl, ?_⟩;refine ga [11] ?_;refine aQ ?_;refine ke 1 [16, 24, 23, 22, 19, 7, 4, 2] 6 ?_;refine cJ (fun h37 => ?_) (fun h37 => ?_)
     ·refine gc 5 ?_;refine o1 (cw ?_);refine go 2 ?_;refine bk (i + 1, w4) rfl ?_ [0, 1, 2, 3, 4, 5, 6, 7, 8, 9] mz
      ·refine ⟨⟨by omega, fun c hc => ?_⟩, show _ - (i + 1) < _ - i by omega⟩
       rw [List.take_add_one, hget] at hc
       rcases List.mem_append.1 hc with hc | hc
       ·exact hinv.2 c hc
       ·simp only [Option.toList_some, List.mem_singleton] at hc; subst hc; exact hq3 (by omega)
     refine kc 0 [16, 7] 15 ?_;refine eo (.cb [c6 [], aI.d, .v (.int .i64 code)]) [0, 1] [aP es false, aN] ?_
     ·exact ⟨[], aI, code, false, rfl, rfl, fun h => h, fun h => absurd h h37⟩
    refine kc 6 [23, 22, 19, 7, 4, 2] 0 ?_; obtain rfl : i = x.cd.length := (by omega)
    have hcts := hinv.2
    rw [List.take_length] at hcts
    have hla := Bj (gl := gl) hE2 x hL p hp (by omega) hm (S := 800001) (by decide) (fun c hc => ⟨(hcts c hc).1, (hx.cs c hc).2.1⟩) w2 kl sl al hlv
    refine gc 5 ?_;refine oc (ay Ky rfl rfl rfl rfl (hla) [8, 9] (bh (cu .nil)) rfl rfl rfl rfl (an (bd (bd (an .nil)))) (fun s ob' hq => ?_) (fun s ob' hq => ?_))
    rotate_left
    ·obtain ⟨_, _, _, hq1, _⟩ := hq; cases hq1
    obtain ⟨b3, code, w4, hq1, rfl, hq2⟩ := hq; cases hq1; refine ⟨_, _, _, _, _, rfl, rfl, rfl, rfl, rfl, ?_⟩;refine ko 8 [16, 25, 22, 7, 4] 6 ?_;refine cj (fun h40 => ?_) (fun h40 => ?_)
    ·refine kc 0 [16, 7] 11 ?_;refine eo (.cb [c6 [], aI.d, .v (.int .i64 code)]) [0, 1] [aP es false, aN] ?_
     ·exact ⟨[], aI, code, false, rfl, rfl, fun h => h, fun h => absurd h h40⟩
    refine gc 9 ?_;refine cj (fun h42 => ?_) (fun h42 => ?_)
    ·refine kc 1 [22, 7, 4] 0 ?_
     have hax := EJ (e := ⟨x.dec, [], aI⟩) hE.k0 (by rw [o9 hk]; exact hnames.1)
     have hrec := px (gl := gl) (sg := EK es x.dec) (ps := x.pd) x p M hp 0 .empty [] ⟨.zero, rfl, ⟨by decide, by decide, fun e => absurd e (by decide), trivial⟩, fun p h => h.elim⟩ (by decide) (hw2.mono hax (fun _ h => h) (Int.le_refl _)) (by omega) hM (fun c hc => ⟨(hcts c hc).1.mono hax (fun _ h => h) (Int.le_refl _), (hcts c hc).2.1, EI es x.dec hc, by have := (hx.cs c hc).2.1; omega⟩) hx.Li (AM es x.dec) (fun q hq => ⟨hq, hx.pd q hq⟩) hL
     rw [hMi] at hrec
     refine gz [0, 1, 2, 3, 4] mixed ?_;refine A2 (T := fun _ => False) 5 rfl (bo HW rfl rfl rfl rfl (hrec) (bd (an (.cons (.Jm rfl (by repeat (first | exact .refl _ | exact .nil | refine .agg ?_ | refine .cons ?_ ?_))) .nil))) (fun d hd => ?_))
     obtain ⟨⟨kT, mT, sT, lT, aT⟩, rfl, hT1, hT2⟩ := hd; refine ga [6] ?_;refine A2 7 rfl (eD bM ?_);refine ga [8] ?_;refine aQ ?_;refine ge 3 ?_;refine eo (.cb [c6 x.pd, (ae.mk kT mT sT lT aT).d, .v (.int .i64 0)]) [0, 1] [aP es false, aN] ?_
     ·exact ⟨x.pd, _, 0, false, rfl, rfl, fun h => h, fun _ => ⟨by rw [o9 hk]; exact hnames.1, by rw [o9 hk]; exact hnames.2, hL, hWt0, by show x.ad ≤ (bu (.mk x.k1 x.n1 x.s1 x.l1 x.a1) : Int); omega, fun c hc => ⟨(hcts c hc).1.mono hax (fun _ h => h) (Int.le_refl _), by show x.ad ≤ _; rw [hp]; exact Int.ofNat_le.2 (hcts c hc).2.1, by show AX x.sd x.ad c.2; rw [hp]; exact (hcts c hc).2.2⟩, by omega, hT1, hT2⟩⟩
    refine kc 2 [22, 7, 4] 12 ?_;refine lP (ι := Nat) (fun k => [(26, .d (.v (.string (rN k)))), (27, int k)]) [22, 7, 4] (fun k => ∀ j, j < k → rN j ∈ x.pd) (fun k => x.pd.length + 1 - k) (0) rfl ?I8 ?M8 ?H8
    case I8 =>
     exact fun j h => absurd h (Nat.not_lt_zero _)
    case M8 =>
     exact mz
    case H8 =>
     rintro k hinv
     try dsimp only at hinv
     refine kc 0 [26, 27, 22, 7, 4] 2 ?_
     have hk7 := EW hinv
     have ham := iJ (gl := gl) (rN k) x.pd (by omega)
     have hdg := Ac (gl := gl) (k + 1) (by omega)
     have hds := w9 (k + 1)
     refine gc 4 ?_;refine oc (cv xm rfl rfl (ham) (an (an .nil)) ?_);refine go 2 ?_;refine cj (fun h46 => ?_) (fun h46 => ?_)
     ·refine kc 3 [27, 22, 7, 4] 3 ?_;refine o1 (cw ?_);refine go 5 ?_;refine oc (cv HV rfl rfl (hdg) (an .nil) ?_);refine o1 (pY ?_ (hb := by (try simp only [ByteArray.size_append, ni, List.size_toArray, List.length_cons, List.length_nil]); omega));refine go 3 ?_;refine bi (k + 1) rfl ?_ mz
      ·have hin : rN k ∈ x.pd := gP.1 (by simpa using h46)
       have hk9 : ∀ j, j < k + 1 → rN j ∈ x.pd := fun j hj => by
        rcases Nat.lt_or_ge j k with h | h
        ·exact hinv j h
        ·obtain rfl : j = k := by omega
         exact hin
       have hk8 := EW hk9
       exact ⟨hk9, by omega⟩
     refine kc 5 [26, 22, 7, 4] 3 ?_;refine oc (gR ng [.tmp 222] AB ?_);refine go 8 ?_;refine oc (lj ng rfl rfl rfl (.inl rfl) rfl rfl rfl (.inl rfl) (by decide) (by (simp only [maxLen, List.length_cons, List.length_nil]; omega)) rfl rfl rfl ?_);refine ko 4 [28, 26, 22, 7, 4] 0 ?_
     have hax := EJ (e := ⟨x.dec, [], aI⟩) hE.k0 (by rw [o9 hk]; exact hnames.1)
     have hps : ∀ q ∈ x.pd, q ∈ rN k :: x.pd := fun q hq => List.mem_cons_of_mem _ hq
     have hrec := px (gl := gl) (sg := EK es x.dec) (ps := rN k :: x.pd) x p M hp 4 (rN k) [] ⟨.param (rN k), rfl, ⟨by decide, by decide, fun _ => J3 k, trivial⟩, fun q hq => by have h9 : q = rN k := hq; rw [h9]; exact List.mem_cons_self⟩ (by simp only [aJ.size, aS]; omega) (hw2.mono hax hps (Int.le_refl _)) (by omega) hM (fun c hc => ⟨(hcts c hc).1.mono hax hps (Int.le_refl _), (hcts c hc).2.1, EI es x.dec hc, by have := (hx.cs c hc).2.1; omega⟩) hx.Li (AM es x.dec) (fun q hq => ⟨hps q hq, hx.pd q hq⟩) hL
     rw [hMi] at hrec
     refine gc 6 ?_;refine oc (T := fun _ => False) (bo HW rfl rfl rfl rfl (hrec) (bd (an (.cons (.Jm rfl (by repeat (first | exact .refl _ | exact .nil | refine .agg ?_ | refine .cons ?_ ?_))) .nil))) (fun d hd => ?_))
     obtain ⟨⟨kT, mT, sT, lT, aT⟩, rfl, hT1, hT2⟩ := hd; refine go 6 ?_;refine eo (.cb [c6 (rN k :: x.pd), (ae.mk kT mT sT lT aT).d, .v (.int .i64 0)]) [0, 1] [aP es false, aN] ?_
     ·exact ⟨rN k :: x.pd, _, 0, false, rfl, rfl, fun h => h, fun _ => ⟨by rw [o9 hk]; exact hnames.1, by rw [o9 hk]; exact hnames.2, hL, hWt0, by show x.ad ≤ (bu (.mk x.k1 x.n1 x.s1 x.l1 x.a1) : Int); omega, fun c hc => ⟨(hcts c hc).1.mono hax (fun _ h => h) (Int.le_refl _), by show x.ad ≤ _; rw [hp]; exact Int.ofNat_le.2 (hcts c hc).2.1, by show AX x.sd x.ad c.2; rw [hp]; exact (hcts c hc).2.2⟩, by simp only [List.length_cons]; omega, hT1, hT2⟩⟩
end Go.Proofs.YtndbnldjidciiaaGreatDoor
namespace Go.Proofs.YtndbnldjidciiaaGreatDoor
open Go Go.Vd Go.RowKit
attribute [local irreducible] bl br de aj bI cY
variable {g gl : Nat → List D}
theorem z8 (s : ByteArray) (i : Nat) : (s.extract i (i + 1)).size ≤ 1 := by rw [ByteArray.size_extract]; omega
theorem uL (s : ByteArray) (hs : s.size ≤ 1099511627776) :
 ey Tryz.prog gl 23 [] [.d (.v (.string s))] fun out ob' => ∃ l : List ByteArray, out = .ret (.own 0 1 (strs l)) ∧ ob' = [sR] ∧ l.length ≤ s.size + 1 := by
 refine bS Tryz.func23 Tryz.ntmps23 0 ?_;refine kc 22 [5, 4, 3, 0] 0 ?_;refine bq 9 1 rfl ?_;refine lp (ι := Nat × ByteArray × List ByteArray) (fun ⟨i, wd, l⟩ => [(5, int i), (4, .d (.v (.string wd))), (3, .own 0 1 (strs l))]) (fun ⟨i, wd, l⟩ => [sR]) [0] (fun ⟨i, wd, l⟩ => i ≤ s.size + 1 ∧ wd.size ≤ i ∧ l.length ≤ i) (fun ⟨i, wd, l⟩ => s.size + 1 - i) ((0, .empty, [])) ([0]) rfl ?I7 ?M7 ?H7
 case I7 =>
  exact ⟨Nat.zero_le _, Nat.le_refl _, Nat.le_refl _⟩
 case M7 =>
  refine mo ?_ (aH (aH (eh rfl (by exact Fit.nil rfl) (aH dF))))
  repeat (first | exact cW | refine p6 ?_)
 case H7 =>
  rintro ⟨i, wd, l⟩ hinv
  try dsimp only at hinv
  refine kc 0 [5, 4, 3, 0] 9 ?_;refine cJ (fun h4 => ?_) (fun h4 => ?_)
  ·refine kc 5 [3] 7 ?_;refine fR ?_;refine jS ⟨_, _, rfl, rfl, rfl⟩ [0] (.own 0 1 (strs l)) ([sR]) rfl rfl rfl ?_ rfl ?_ ?_
   ·repeat (first | exact cW | refine cu ?_)
   ·exact .refl _
   ·exact ⟨l, rfl, rfl, by omega⟩
  refine kc 3 [5, 4, 3, 0] 0 ?_;refine xo (ι := ByteArray × List ByteArray) (fun ⟨wd2, l2⟩ => [(4, .d (.v (.string wd2))), (3, .own 0 1 (strs l2))]) (fun ⟨wd2, l2⟩ => [sR]) [5, 0] (fun ⟨wd2, l2⟩ => wd2.size ≤ i + 1 ∧ l2.length ≤ i + 1) rfl ?A8 ?B8
  case A8 =>
   refine gc 3 ?_
   have hi : i ≤ s.size := (by omega)
   have hsl := bU l
   have hx1 := z8 s i
   have hx2 : (s.extract (i : Int).toNat ((i : Int) + 1).toNat).size ≤ 1 := (by rw [ByteArray.size_extract]; omega)
   refine gc 6 ?_
   refine' oa (yt := 20) (d := 16) 4 ?a1 ?b1 ?_
   case a1 =>
    intro hc hK
    refine go 2 ?_;refine gy ?_;refine o1 (BT rO ?_);refine go 1 ?_
    exact hK [_, _, _, _] rfl rfl
   case b1 =>
    intro _ hK; refine go 4 ?_; exact hK [_, _, _, _] rfl
   refine go 2 ?_;refine cj (fun h6 => ?_) (fun h6 => ?_)
   ·refine kc 0 [5, 4, 3, 0] 6 ?_;refine o1 (cw ?_);refine o1 (oG rO ?_);refine o1 (pY ?_ (hb := by (try simp only [ByteArray.size_append, ni, List.size_toArray, List.length_cons, List.length_nil]); omega));refine go 6 ?_;refine bk ((wd ++ s.extract i (i + 1), l)) rfl ?_ ([0]) ?_
    ·exact ⟨by rw [ByteArray.size_append]; omega, by omega⟩
    ·refine mo ?_ (aH (eh rfl (by first | exact Fit.of_eq rfl | exact Fit.of_eq (by rw [gC]; rfl)) (aH (aH dF))))
     repeat (first | exact cW | refine cu ?_)
   refine kc 3 [5, 4, 3, 0] 6 ?_;refine cJ (fun h8 => ?_) (fun h8 => ?_)
   ·refine gc 6 ?_;refine bk ((.empty, l)) rfl ?_ ([0]) ?_
    ·exact ⟨Nat.zero_le _, by omega⟩
    ·refine mo ?_ (aH (eh rfl (by first | exact Fit.of_eq rfl | exact Fit.of_eq (by rw [gC]; rfl)) (aH (aH dF))))
     repeat (first | exact cW | refine cu ?_)
   refine gc 3 ?_;refine oc (gR ng [.tmp 32] AB ?_);refine oc (nU ng ?_);refine ko 3 [3, 5, 0] 4 ?_;refine bk ((.empty, l ++ [wd])) rfl ?_ ([0]) ?_
   ·exact ⟨Nat.zero_le _, by rw [List.length_append]; simp only [List.length_cons, List.length_nil]; omega⟩
   ·refine mo ?_ (aH (eh rfl (by first | exact Fit.of_eq rfl | exact Fit.of_eq (by rw [gC]; rfl)) (aH (aH dF))))
    repeat (first | exact cW | refine cu ?_)
  case B8 =>
   rintro ⟨wd2, l2⟩ hcut
   try dsimp only at hcut
   refine kc 0 [4, 3, 5, 0] 2 ?_;refine o1 (cw ?_);refine go 2 ?_;refine bk (i + 1, wd2, l2) rfl ?_ [0] mz
   exact ⟨⟨by omega, hcut.1, hcut.2⟩, show _ - (i + 1) < _ - i by omega⟩
theorem vF (k : Int) (nm : ByteArray) (ps : List ByteArray) (k1 n1 : Int) (s1 : ByteArray) (l1 : List aJ) (a1 : List ae) (k2 n2 : Int) (s2 : ByteArray) (l2 : List aJ) (a2 : List ae) (a : Int) (cs : List (ByteArray × ae))
 (h1 : (ae.mk k1 n1 s1 l1 a1).size ≤ 1099511627776) (h2 : (ae.mk k2 n2 s2 l2 a2).size ≤ 1099511627776) (h3 : ∀ c ∈ cs, c.2.size ≤ 1099511627776) (h4 : ps.length ≤ 1099511627776) (h5 : cs.length ≤ 1099511627776) :
 cD Tryz.prog gl 29 [(dp.mk k nm ps (.mk k1 n1 s1 l1 a1) (.mk k2 n2 s2 l2 a2) a cs).d, (dp.mk k nm ps (.mk k1 n1 s1 l1 a1) (.mk k2 n2 s2 l2 a2) a cs).d] (· = .v (.bool true)) := by
 have hs1 := iM (gl := gl) k1 n1 s1 l1 a1 k1 n1 s1 l1 a1 h1
 have hs2 := iM (gl := gl) k2 n2 s2 l2 a2 k2 n2 s2 l2 a2 h2
 rw [ae.jt] at hs1 hs2
 have hlc := gd cs
 have hlp := bU ps
 clear h1 h2
 refine bD Tryz.func29 Tryz.ntmps29 ?_;refine gc 16 ?_
 refine' oo (yt := 20) (d := 15) 5 ?a2 ?b2 ?_
 case a2 =>
  intro hc hK
  refine go 5 ?_; exact hK [_, _, _, _, _] rfl rfl
 case b2 =>
  intro _ hK; refine go 5 ?_; exact hK [_, _, _, _, _] rfl
 refine go 1 ?_
 refine' oo (yt := 27) (d := 22) 5 ?a3 ?b3 ?_
 case a3 =>
  intro hc hK
  refine go 5 ?_; exact hK [_, _, _, _, _] rfl rfl
 case b3 =>
  intro _ hK; refine go 5 ?_; exact hK [_, _, _, _, _] rfl
 refine go 1 ?_
 refine' oo (yt := 36) (d := 29) 7 ?a4 ?b4 ?_
 case a4 =>
  intro hc hK
  refine go 7 ?_
  exact hK [_, _, _, _, _, _, _] rfl rfl
 case b4 =>
  intro _ hK; refine go 7 ?_; exact hK [_, _, _, _, _, _, _] rfl
 refine go 1 ?_
 refine' oo (yt := 45) (d := 38) 7 ?a5 ?b5 ?_
 case a5 =>
  intro hc hK
  refine go 7 ?_
  exact hK [_, _, _, _, _, _, _] rfl rfl
 case b5 =>
  intro _ hK; refine go 7 ?_; exact hK [_, _, _, _, _, _, _] rfl
 refine go 2 ?_;refine cf ?_;refine kc 3 [3, 2] 6 ?_;refine lP (ι := Nat) (fun i => [(5, int i)]) [3, 2] (fun i => i ≤ ps.length) (fun i => ps.length - i) (0) rfl ?I9 ?M9 ?H9
 case I9 =>
  exact Nat.zero_le _
 case M9 =>
  exact mz
 case H9 =>
  rintro i hinv
  try dsimp only at hinv
  refine kc 0 [5, 3, 2] 10 ?_;refine cj (fun h4 => ?_) (fun h4 => ?_)
  ·refine kc 5 [5, 3, 2] 0 ?_;refine gz [0, 1, 2] mixed ?_;refine A1 3 rfl (bV jW lF ⟨_, rfl, ?_⟩ (he := by exact (fX (show i < ps.length by omega))));refine ga [4, 5, 6, 7] ?_;refine A1 8 rfl (bV jW lF ⟨_, rfl, ?_⟩ (he := by exact (fX (show i < ps.length by omega))));refine ga [9, 10] ?_;refine aQ ?_;refine ge 1 ?_;refine cf ?_;refine kc 3 [5, 3, 2] 2 ?_;refine o1 (cw ?_);refine go 2 ?_;refine bi (i + 1) rfl ?_ mz
   exact ⟨by omega, by omega⟩
  refine kc 6 [3, 2] 6 ?_;refine lP (ι := Nat) (fun j => [(6, int j)]) [3, 2] (fun j => j ≤ cs.length) (fun j => cs.length - j) (0) rfl ?I10 ?M10 ?H10
  case I10 =>
   exact Nat.zero_le _
  case M10 =>
   exact mz
  case H10 =>
   rintro j hinv
   try dsimp only at hinv
   refine kc 0 [6, 3, 2] 10 ?_;refine cJ (fun h9 => ?_) (fun h9 => ?_)
   ·refine kc 5 [3, 2] 6 ?_;refine oc (cv HA rfl rfl (hs1) (bd (bd .nil)) ?_);refine ko 3 [8, 3, 2] 6 ?_;refine oc (cv HA rfl rfl (hs2) (bd (bd .nil)) ?_);refine ko 3 [9, 8] 4 ?_
    refine' oa (yt := 114) (d := 113) 1 ?a6 ?b6 ?_
    case a6 =>
     intro hc hK
     refine go 1 ?_; exact hK [_] rfl rfl
    case b6 =>
     intro _ hK; refine go 1 ?_; exact hK [_] rfl
    refine go 4 ?_;refine ez ?_
    rfl
   refine kc 5 [6, 3, 2] 0 ?_
   obtain ⟨cn, k3, n3, s3, l3, a3, hget⟩ := kn (show j < cs.length by omega)
   have hs3 := iM (gl := gl) k3 n3 s3 l3 a3 k3 n3 s3 l3 a3 (h3 _ (List.mem_of_getElem? hget))
   rw [ae.jt] at hs3
   refine gz [0, 1, 2] mixed ?_;refine A1 3 rfl (bV pG qc ⟨_, rfl, ?_⟩ (he := by exact (gW hget)));refine ga [4, 5, 6, 7, 8] ?_;refine A1 9 rfl (bV pG qc ⟨_, rfl, ?_⟩ (he := by exact (gW hget)));refine ga [10, 11] ?_;refine A2 12 rfl (cv HA rfl rfl (hs3) (bd (bd .nil)) ?_);refine ga [13] ?_;refine aQ ?_;refine ke 2 [7, 6, 3, 2] 0 ?_;refine gz [0, 1, 2] mixed ?_;refine KV 87 (fun hc => ?_) (fun hc => ?_)
   ·simp only [dh, Int.reduceEq, Int.reduceNe, Int.reduceLT, Int.reduceLE] at hc
   (try simp only [dh, Int.reduceEq, Int.reduceNe, Int.reduceLT, Int.reduceLE] at hc); refine A6 3 rfl (Kb Df ⟨_, rfl, ?_⟩);refine A6 4 rfl (DC Iv ⟨_, rfl, ?_⟩);refine A6 5 rfl (mv ⟨_, rfl, ?_⟩);refine A6 6 rfl (bV pG qc ⟨_, rfl, ?_⟩ (he := by exact (gW hget)));refine A6 7 rfl (KR GG ⟨_, rfl, ?_⟩);refine A6 8 rfl (J9 AB ⟨_, rfl, ?_⟩);refine A6 9 rfl (Kb Df ⟨_, rfl, ?_⟩);refine A6 10 rfl (DC Iv ⟨_, rfl, ?_⟩);refine A6 11 rfl (mv ⟨_, rfl, ?_⟩);refine A6 12 rfl (bV pG qc ⟨_, rfl, ?_⟩ (he := by exact (gW hget)));refine A6 13 rfl (KR GG ⟨_, rfl, ?_⟩);refine A6 14 rfl (J9 AB ⟨_, rfl, ?_⟩);refine A6 15 rfl (K7 ⟨_, rfl, ?_⟩);refine A1 16 rfl (qG ⟨_, rfl, ?_⟩);refine aQ ?_;refine ge 1 ?_;refine cf ?_;refine kc 3 [6, 3, 2] 2 ?_;refine o1 (cw ?_);refine go 2 ?_;refine bi (j + 1) rfl ?_ mz
   exact ⟨by omega, by omega⟩
end Go.Proofs.YtndbnldjidciiaaGreatDoor
namespace Go.Proofs.YtndbnldjidciiaaGreatDoor
open Go Go.Vd Go.RowKit
attribute [local irreducible] bl br de aj bI cY
variable {gl : Nat → List D}
theorem uf (a b : List ByteArray) (ha : a.length ≤ 281474976710656) : cD Tryz.prog gl 27 [c6 a, c6 b] (· = .v (.bool (decide (a = b)))) := by
 have hla := bU a
 have hlb := bU b
 refine bD Tryz.func27 Tryz.ntmps27 ?_;refine gc 15 ?_;refine cj (fun h1 => ?_) (fun h1 => ?_)
 ·refine kc 0 [] 7 ?_;refine ez ?_
  rw [decide_eq_false]
  intro e; subst e; omega
 refine kc 3 [0, 1] 6 ?_;refine lP (ι := Nat) (fun i => [(5, int i)]) [0, 1] (fun i => i ≤ a.length ∧ a.take i = b.take i) (fun i => a.length - i) (0) rfl ?I1 ?M1 ?H1
 case I1 =>
  exact ⟨Nat.zero_le _, rfl⟩
 case M1 =>
  exact mz
 case H1 =>
  rintro i hinv
  try dsimp only at hinv
  refine kc 0 [5, 0, 1] 9 ?_;refine cJ (fun h4 => ?_) (fun h4 => ?_)
  ·refine kc 5 [] 6 ?_;refine ez ?_
   have h := hinv.2
   rw [List.take_of_length_le (by omega), List.take_of_length_le (by omega)] at h
   rw [decide_eq_true h]
  refine kc 5 [5, 0, 1] 0 ?_;refine gz [0, 1] mixed ?_;refine A1 2 rfl (bV jW lF ⟨_, rfl, ?_⟩ (he := by exact (fX (by omega))));refine ga [3, 4, 5] ?_;refine A1 6 rfl (bV jW lF ⟨_, rfl, ?_⟩ (he := by exact (fX (by omega))));refine ga [7, 8] ?_;refine aQ ?_;refine ge 1 ?_;refine cj (fun h6 => ?_) (fun h6 => ?_)
  ·refine kc 0 [] 11 ?_;refine ez ?_
   rw [decide_eq_false]
   intro e; subst e; exact h6 rfl
  refine kc 3 [5, 0, 1] 2 ?_;refine o1 (cw ?_);refine go 2 ?_;refine bi (i + 1) rfl ?_ ?_
  ·exact ⟨⟨by omega, by rw [List.take_add_one, List.take_add_one, hinv.2, List.getElem?_eq_getElem (show i < a.length by omega), List.getElem?_eq_getElem (show i < b.length by omega), h6]⟩, by omega⟩
  ·exact mz
end Go.Proofs.YtndbnldjidciiaaGreatDoor
namespace Go.Proofs.YtndbnldjidciiaaGreatDoor
open Go Go.Vd Go.RowKit
attribute [local irreducible] bl br de aj bI cY
variable {g gl : Nat → List D}
def Jx (es : List cq) (d : dp) (w : Bool) (out : Out) (ob' : List Ob) : Prop :=
 ∃ (code : Int) (w' : Bool), out = .ret (.d (.v (.int .i64 code))) ∧ ob' = [aP es w', aN] ∧ (w' = false → w = false) ∧ (code = 0 → Gg es d)
variable {es : List cq} {most : Nat}
set_option maxHeartbeats 1600000 in
theorem AY (hE : cP es) (x : RD) (hx : As x) (hk : x.kd = 1 ∨ x.kd = 2) (hm : most ≤ 1000000) (w : Bool) :
 ey Tryz.prog gl 149 [aP es w, aN] [.bZ 0 0, .d x.dec.d, .d (.v (.int .i64 most))] (Jx es x.dec w) := by
 have hpn := hx.pn
 have htz := hx.ty.2
 have hsh := jG (B' := 4398046511104) (by decide) hx.ty.1
 have hdl := pZ (.mk x.k1 x.n1 x.s1 x.l1 x.a1)
 have htw := tM (gl := gl) x.pd (by omega)
 have hkn := uO (gl := gl) es w x.sd hE.b
 refine bS Tryz.func149 Tryz.ntmps149 2 ?_;refine gc 11 ?_;refine oc (ck HZ rfl rfl (hkn) [0, 1] rfl (bh (cu .nil)) (an (an .nil)) ?_);refine ko 4 [7, 4, 0, 2] 5 ?_;refine cj (fun h2 => ?_) (fun h2 => ?_)
 ·refine kc 0 [] 7 ?_;refine eo (.v (.int .i64 3)) [0, 1] [aP es w, aN] ?_
  ·exact ⟨3, w, rfl, rfl, fun h => h, fun h => absurd h (by omega)⟩
 refine gc 6 ?_;refine oc (T := fun _ => False) (bo HY rfl rfl rfl rfl (htw) (an .nil) (fun d hd => ?_)); obtain ⟨b, rfl, hb⟩ := hd; refine ko 4 [8, 4, 0, 2] 5 ?_;refine cj (fun h5 => ?_) (fun h5 => ?_)
 ·refine kc 0 [] 7 ?_;refine eo (.v (.int .i64 5)) [0, 1] [aP es w, aN] ?_
  ·exact ⟨5, w, rfl, rfl, fun h => h, fun h => absurd h (by omega)⟩
 refine gc 3 ?_
 have hL : x.pd.length ≤ 6 := (hb (by revert h5; cases b <;> simp)).1
 have hnew : x.sd ∉ cX es := (jP hE.k0).1 (by simpa using h2)
 have hso := gD (gl := gl) hE hL hm (S := 800001) (by decide) x.k1 x.n1 x.s1 x.l1 x.a1 [] w (fun i y hy => by simp at hy) (by simp only [List.length_nil]; omega) htz hsh
 refine gc 7 ?_;refine oc (ay vh rfl rfl rfl rfl (hso) [0, 1] (bh (cu .nil)) rfl rfl rfl rfl (an (an (JL (bd (an .nil))))) (fun s ob' hq => ?_) (fun s ob' hq => ?_))
 rotate_left
 ·obtain ⟨_, _, _, hq1, _⟩ := hq; cases hq1
 obtain ⟨⟨kr, sr', ar'⟩, code, w1, hq1, rfl, hq2, hq3⟩ := hq; cases hq1; refine ⟨_, _, _, _, _, rfl, rfl, rfl, rfl, rfl, ?_⟩;refine ko 9 [10, 4, 0, 2] 5 ?_
 refine' oo (yt := 36) (d := 33) 3 ?a1 ?b1 ?_
 case a1 =>
  intro hc hK
  refine go 3 ?_; exact hK [_, _, _] rfl rfl
 case b1 =>
  intro _ hK; refine go 3 ?_; exact hK [_, _, _] rfl
 refine go 2 ?_;refine cj (fun h8 => ?_) (fun h8 => ?_)
 ·refine kc 0 [10] 8 ?_;refine eo (.v (.int .i64 code)) [0, 1] [aP es w1, aN] ?_
  ·refine ⟨code, w1, rfl, rfl, hq2, fun h => ?_⟩
   have h9 : x.kd = 1 := by omega
   exact ⟨hnew, hL, (hq3 h).2.1, fun h2 => absurd (h9.symm.trans h2) (by decide)⟩
 refine kc 3 [4, 0, 2] 0 ?_; obtain ⟨rfl, hk1⟩ : code = 0 ∧ x.kd = 2 := ⟨by omega, by omega⟩
 obtain ⟨rfl, hWt, hlr⟩ := hq3 rfl
 have hWt0 : Wt (eB es) x.pd (.mk x.k1 x.n1 x.s1 x.l1 x.a1) 0 := hWt
 obtain rfl : w = false := hq2 rfl
 have hvz := (hx.vl hk1).2
 have hvs := jG (B' := 4398046511104) (by decide) (hx.vl hk1).1
 have hdv := pZ (.mk x.k2 x.n2 x.s2 x.l2 x.a2)
 have hin := uW (gl := gl) hE hL hm (S := 800001) (by decide) _ (.mk x.k2 x.n2 x.s2 x.l2 x.a2) (Nat.lt_succ_self _) [] false (fun i y hy => by simp at hy) (by simp only [List.length_nil]; omega) hvz hvs
 refine gc 7 ?_;refine oc (ay vY rfl rfl rfl rfl (hin) [0, 1] (bh (cu .nil)) rfl rfl rfl rfl (an (an (JL (bd (an .nil))))) (fun s ob' hq => ?_) (fun s ob' hq => ?_))
 rotate_left
 ·obtain ⟨_, _, _, hq1, _⟩ := hq; cases hq1
 obtain ⟨⟨ku, mu, su, lu, au⟩, code2, w2, hq1, rfl, hq4, hq5⟩ := hq; cases hq1; refine ⟨_, _, _, _, _, rfl, rfl, rfl, rfl, rfl, ?_⟩;refine ko 9 [10, 11, 4, 0, 2] 6 ?_;refine cj (fun h11 => ?_) (fun h11 => ?_)
 ·refine kc 0 [10] 8 ?_;refine eo (.v (.int .i64 code2)) [0, 1] [aP es w2, aN] ?_
  ·exact ⟨code2, w2, rfl, rfl, fun _ => rfl, fun h => absurd h h11⟩
 refine gc 3 ?_; obtain rfl : code2 = 0 := (by omega); obtain ⟨rfl, hWv, hHv⟩ := hq5 rfl
 have hmu := rl (gl := gl) hE hL (c := 0) (Int.le_refl _) (S := 800001) (n2 := 0) hm false ku mu su lu au x.k1 x.n1 x.s1 x.l1 x.a1 (by omega) (by omega) hHv (.base hWt0 htz)
 refine gc 6 ?_;refine oc (ay Ju rfl rfl rfl rfl (hmu) [0, 1] (bh (cu .nil)) rfl rfl rfl rfl (an (bd (bd (an .nil)))) (fun s ob' hq => ?_) (fun s ob' hq => ?_))
 rotate_left
 ·obtain ⟨_, _, hq1, _⟩ := hq; cases hq1
 obtain ⟨code3, w3, hq1, rfl, hq6, hq7⟩ := hq; cases hq1; refine ⟨_, _, _, _, _, rfl, rfl, rfl, rfl, rfl, ?_⟩;refine go 4 ?_;refine eo (.v (.int .i64 code3)) [0, 1] [aP es w3, aN] ?_
 ·exact ⟨code3, w3, rfl, rfl, fun _ => rfl, fun h => ⟨hnew, hL, hWt0, fun _ => hWv⟩⟩
def JI (es : List cq) (d : dp) (w : Bool) (out : Out) (ob' : List Ob) : Prop :=
 ∃ (code : Int) (w' : Bool) (es' : List cq), out = .ret (.d (.v (.int .i64 code))) ∧ ob' = [aP es' w', aN] ∧ (w' = false → w = false) ∧ gY es' ∧ ((code = 0 ∧ ∃ rp rt, es' = es ++ [⟨d, rp, rt⟩]) ∨ (code ≠ 0 ∧ es' = es))
theorem wY (es : List cq) (x : RD) (rp : List ByteArray) (k m : Int) (s : ByteArray) (ls : List aJ) (args : List ae) : nR (es ++ [⟨x.dec, rp, .mk k m s ls args⟩]) = nR es ++ [[.v (.int .i64 x.kd), .v (.string x.sd), .sl 1 (strs x.pd), .v (.int .i64 x.k1), .v (.int .i64 x.n1), .v (.string x.s1), .sl 3 (bF x.l1), .sl 5 (ba x.a1), .v (.int .i64 x.k2), .v (.int .i64 x.n2), .v (.string x.s2), .sl 3 (bF x.l2), .sl 5 (ba x.a2), .v (.int .i64 x.ad), .sl 6 (gV x.cd), .sl 1 (strs rp), .v (.int .i64 k), .v (.int .i64 m), .v (.string s), .sl 3 (bF ls), .sl 5 (ba args)]] := by
 rw [Ab]; rfl
set_option maxHeartbeats 1600000 in
theorem Ga (hF : gY es) (hel : es.length < 1000000) (x : RD) (hx : As x) (hm : most ≤ 1000000) (w : Bool) :
 ey Tryz.prog gl 120 [aP es w, aN] [.bZ 0 0, .d x.dec.d, .d (.v (.int .i64 most))] (JI es x.dec w) := by
 have hel2 := oH es
 have hE := hF.ok
 refine bS Tryz.func120 Tryz.ntmps120 2 ?_;refine gc 14 ?_;refine cj (fun h1 => ?_) (fun h1 => ?_)
 ·refine kc 1 [4, 0, 2] 0 ?_
  have hk : x.kd = 3 := (by omega)
  have hfa := zZ (gl := gl) hE hel x hx hk hm w
  refine gc 4 ?_;refine oc (ay KC rfl rfl rfl rfl (hfa) [0, 1] (bh (cu .nil)) rfl rfl rfl rfl (an (bd (an .nil))) (fun s ob' hq => ?_) (fun s ob' hq => ?_))
  rotate_left
  ·obtain ⟨_, _, _, _, hq1, _⟩ := hq; cases hq1
  obtain ⟨rp, ⟨kT, mT, sT, lT, aT⟩, code, w1, hq1, rfl, hq2, hq3⟩ := hq; cases hq1; refine ⟨_, _, _, _, _, rfl, rfl, rfl, rfl, rfl, ?_⟩;refine ko 17 [23, 9, 7, 8, 4, 0] 0 ?_;refine xo (ι := List cq) (fun es' => []) (fun es' => [aP es' w1, aN]) [9] (fun es' => gY es' ∧ ((code = 0 ∧ ∃ rp rt, es' = es ++ [⟨x.dec, rp, rt⟩]) ∨ (code ≠ 0 ∧ es' = es))) rfl ?A2 ?B2
  case A2 =>
   refine cJ (fun h3 => ?_) (fun h3 => ?_)
   ·refine gc 1 ?_;refine bk (es) rfl ?_ [0, 1] mz
    exact ⟨hF, .inr ⟨by omega, rfl⟩⟩
   refine gz [0, 1, 2, 3, 4, 5, 6, 7, 8] mixed ?_;refine A2 9 rfl (gR AH [.tmp 32] AD ?_);refine A2 10 rfl (nU AH ?_);refine ga [11, 12] ?_;refine A2 13 rfl (eD EB ?_);refine aQ ?_;refine bk (es ++ [⟨x.dec, rp, .mk kT mT sT lT aT⟩]) rfl ?_ ([0, 1]) ?_
   ·exact ⟨(hq3 (by omega)).env hF hel hx hk, .inl ⟨by omega, _, _, rfl⟩⟩
   ·refine mo ?_ (aH dF)
    repeat (first | exact cW | exact zX | refine cu ?_ | refine BU ?_ ?_ | refine an ?_ | refine .cons ((by rw [wY]; exact Fit.refl _)) ?_)
  case B2 =>
   rintro es' hcut
   try dsimp only at hcut
   refine kc 0 [9] 8 ?_;refine eo (.v (.int .i64 code)) [0, 1] [aP es' w1, aN] ?_
   ·exact ⟨code, w1, es', rfl, rfl, hq2, hcut.1, hcut.2⟩
 refine kc 3 [4, 0, 2] 0 ?_
 have hk : x.kd = 1 ∨ x.kd = 2 := (by rcases hx.k with h | h | h; exact .inl h; exact .inr h; omega)
 have hpl := AY (gl := gl) hE x hx hk hm w
 refine gc 4 ?_;refine oc (ay KB rfl rfl rfl rfl (hpl) [0, 1] (bh (cu .nil)) rfl rfl rfl rfl (an (bd (an .nil))) (fun s ob' hq => ?_) (fun s ob' hq => ?_))
 rotate_left
 ·obtain ⟨_, _, hq1, _⟩ := hq; cases hq1
 obtain ⟨code, w1, hq1, rfl, hq2, hq3⟩ := hq; cases hq1; refine ⟨_, _, _, _, _, rfl, rfl, rfl, rfl, rfl, ?_⟩;refine ko 10 [43, 10, 4, 0] 0 ?_;refine xo (ι := List cq) (fun es' => []) (fun es' => [aP es' w1, aN]) [10] (fun es' => gY es' ∧ ((code = 0 ∧ ∃ rp rt, es' = es ++ [⟨x.dec, rp, rt⟩]) ∨ (code ≠ 0 ∧ es' = es))) rfl ?A3 ?B3
 case A3 =>
  refine cJ (fun h7 => ?_) (fun h7 => ?_)
  ·refine gc 1 ?_;refine bk (es) rfl ?_ [0, 1] mz
   exact ⟨hF, .inr ⟨by omega, rfl⟩⟩
  skip
  have hfw : ∀ ob, Fit ob (SV.own 1 21 (nR es ++ [[D.v (.int .i64 x.kd), .v (.string x.sd), .sl 1 (strs x.pd), .v (.int .i64 x.k1), .v (.int .i64 x.n1), .v (.string x.s1), .sl 3 (bF x.l1), .sl 5 (ba x.a1), .v (.int .i64 x.k2), .v (.int .i64 x.n2), .v (.string x.s2), .sl 3 (bF x.l2), .sl 5 (ba x.a2), .v (.int .i64 x.ad), .sl 6 (gV x.cd), .v (.slice none 0 0), .v (.int .i64 0), .v (.int .i64 0), .v (.string .empty), .v (.slice none 0 0), .v (.slice none 0 0)]])) (SV.own 1 21 (nR (es ++ [⟨x.dec, [], aI⟩]))) := fun ob => by
   rw [show aI = .mk 0 0 .empty [] [] from rfl, wY]
   refine Fit.own (nJ ?_ _)
   repeat (first | exact .nil | exact .cons .nil .nil | refine .cons (.refl _) ?_ | refine .cons .nil ?_)
  refine gz [0, 1, 2, 3, 4, 5, 6] mixed ?_;refine A2 7 rfl (gR AH [.tmp 50] AD ?_);refine A2 8 rfl (nU AH ?_);refine ga [9, 10] ?_;refine A2 11 rfl (eD EB ?_);refine aQ ?_;refine bk (es ++ [⟨x.dec, [], aI⟩]) rfl ?_ ([0, 1]) ?_
  ·exact ⟨(hq3 (by omega)).env hF hel hx (by omega), .inl ⟨by omega, _, _, rfl⟩⟩
  ·refine mo ?_ (aH dF)
   repeat (first | exact cW | exact zX | refine cu ?_ | refine BU ?_ ?_ | refine an ?_ | refine .cons (hfw _) ?_)
 case B3 =>
  rintro es' hcut
  try dsimp only at hcut
  refine kc 0 [10] 7 ?_;refine eo (.v (.int .i64 code)) [0, 1] [aP es' w1, aN] ?_
  ·exact ⟨code, w1, es', rfl, rfl, hq2, hcut.1, hcut.2⟩
end Go.Proofs.YtndbnldjidciiaaGreatDoor
namespace Go.Proofs.YtndbnldjidciiaaGreatDoor
open Go Go.Vd Go.RowKit
theorem iD : ∀ l : cB, 10 * l.size ≤ l.weight
 | .zero => by simp [cB.size, cB.weight]
 | .succ a => by have := iD a; simp only [cB.size, cB.weight]; omega
 | .max a b => by have := iD a; have := iD b; simp only [cB.size, cB.weight]; omega
 | .imax a b => by have := iD a; have := iD b; simp only [cB.size, cB.weight]; omega
 | .param s => by simp only [cB.size, cB.weight]; omega
variable {s : ByteArray} {r : RS}
theorem uI (n : Nat) (hp : r.p ≤ s.size) : (bw n s r).1.size + 2 * r.p ≤ 1 + 2 * (bw n s r).2.p := by
 obtain ⟨x, hx, _, hw⟩ := uK n hp
 rw [hx, x.dq]
 have := iD x
 omega
theorem zy : ∀ (n : Nat) {r : RS}, r.p ≤ s.size → aS (cG n s r).1 + 4 * r.p ≤ 1 + 4 * (cG n s r).2.p := by
 intro n
 induction n with
 | zero => intro r hp; simp only [cG, aS]; omega
 | succ n ih =>
  intro r hp
  simp only [cG]
  split
  ·rename_i hc
   have h1 := dP (s := s) (s.size + 1) hp
   have h2 := uI (s := s) (s.size + 1) hp
   have h3 := ih h1.2
   simp only [aS]
   cases hf : (bw (s.size + 1) s r).2.f with
   | none =>
    have h4 := uJ hp hc.1 hf
    omega
   | some a =>
    have h5 : cG n s (bw (s.size + 1) s r).2 = ([], (bw (s.size + 1) s r).2) := by
     cases n with
     | zero => rfl
     | succ n => simp only [cG]; rw [if_neg (by rintro ⟨e, _⟩; rw [hf] at e; cases e)]
    rw [h5]
    simp only [aS]
    omega
  ·simp only [aS]; omega
theorem DK (k : Nat) (hp : r.p ≤ s.size) : aS (ij s k r).2.1 + 4 * r.p ≤ 1 + 4 * (ij s k r).2.2.p := by
 unfold ij
 split
 ·have h1 := dP (s := s) (s.size + 1) hp
  have h2 := uI (s := s) (s.size + 1) hp
  simp only [aS]; omega
 ·split
  ·have h1 := dH (s := s) hp
   have h2 := zy (s.size + 2) h1.2
   simp only; omega
  ·simp only [aS]; omega
theorem AJ (l : List ae) (x : ae) : ai (l ++ [x]) = ai l + x.size := by
 induction l with
 | nil => simp [ai]
 | cons a r ih => simp [ai, ih]; omega
theorem qX : ∀ (n : Nat) (r : RS), r.p ≤ s.size → (bH n s r).1.size + 4 * r.p ≤ 1 + 4 * (bH n s r).2.p := by
 have hz : aI.size = 1 := rfl
 intro n
 induction n with
 | zero => intro r hp; simp only [bH, hz]; omega
 | succ n ih =>
  have hpart : ∀ (i : Nat) {r : RS}, r.p ≤ s.size → ai (dt (bH n s) i r).1 + 4 * r.p ≤ i + 4 * (dt (bH n s) i r).2.p := by
   intro i
   induction i with
   | zero => intro r hp; simp only [dt, ai]; omega
   | succ i ihi =>
    intro r hp
    have h1 := ihi hp
    have h2 := jx (s := s) (f := bH n s) (fun r hr => dG n r hr) i hp
    have h3 := ih _ h2.2
    simp only [dt, AJ]
    omega
  intro r hp
  obtain ⟨p, f⟩ := r
  simp only at hp
  cases f with
  | some a => simp only [bH, hz]; omega
  | none =>
   have h1 := cy (s := s) (r := ⟨p, none⟩) hp
   simp only at h1 ⊢
   by_cases c1 : sP (aO s p).1
   ·by_cases c2 : (aO s p).1 = ⟨#[40]⟩
    ·by_cases c3 : eN (aO s (aF s ⟨p, none⟩).2.p).1 = 0
     ·rw [pL c2 c3, RS.gm]; show aI.size + 4 * p ≤ _; rw [hz]; exact Nat.add_le_add_left (Nat.mul_le_mul_left 4 h1.1) 1
     ·have hl1 : p < (aF s ⟨p, none⟩).2.p := by
       have h7 := eG (s := s) hp
       rw [gO (by rw [c2]; decide), c2]
       have : (ByteArray.mk #[40]).size = 1 := rfl
       simp only; omega
      have h2 := cy (s := s) (r := (aF s ⟨p, none⟩).2) h1.2
      have h3 := qD (s := s) (eN (aO s (aF s ⟨p, none⟩).2.p).1) h2.2
      have h4 := DK (s := s) (eN (aO s (aF s ⟨p, none⟩).2.p).1) h2.2
      have h5 := jx (s := s) (f := bH n s) (fun r hr => dG n r hr) (partsOf (eN (aO s (aF s ⟨p, none⟩).2.p).1)) h3.2
      have h6 := hpart (partsOf (eN (aO s (aF s ⟨p, none⟩).2.p).1)) h3.2
      have h7 := bO (s := s) (w := ⟨#[41]⟩) h5.2
      have h8 := um (eN (aO s (aF s ⟨p, none⟩).2.p).1)
      rw [pK (nm := (ij s (eN (aO s (aF s ⟨p, none⟩).2.p).1) (aF s (aF s ⟨p, none⟩).2).2).1) (L := (ij s (eN (aO s (aF s ⟨p, none⟩).2.p).1) (aF s (aF s ⟨p, none⟩).2).2).2.1) (r3 := (ij s (eN (aO s (aF s ⟨p, none⟩).2.p).1) (aF s (aF s ⟨p, none⟩).2).2).2.2) c2 rfl c3 rfl]
      simp only [ae.size]
      omega
    ·rw [qY c1 c2]; simp only [ae.size, aS, ai]; have hpp : (RS.mk p none).p = p := rfl; omega
   ·rw [qZ c1, RS.gm]; show aI.size + 4 * p ≤ 1 + 4 * p; rw [hz]; exact Nat.le_refl _
end Go.Proofs.YtndbnldjidciiaaGreatDoor
namespace Go.Proofs.YtndbnldjidciiaaGreatDoor
open Go Go.Vd Go.RowKit
theorem IN {w : ByteArray} (h : gh w) : w ≠ .empty := fun e => by
 have := h.ne
 rw [e] at this
 exact absurd this (by decide)
variable {s : ByteArray} {r : RS}
theorem uz (hp : r.p ≤ s.size) : (ch s r).1.size ≤ s.size := by
 obtain ⟨p, f⟩ := r
 have h9 : ByteArray.empty.size = 0 := rfl
 have h1 : (aO s p).1.size ≤ s.size := by have := eG (s := s) (p := p) hp; omega
 unfold ch
 dsimp only
 split
 ·simp only; omega
 ·cases f with
  | none => exact h1
  | some a => simp only; omega
theorem oZ : ∀ (n : Nat) (r : RS), (dg n s r).1.length ≤ n := by
 intro n
 induction n with
 | zero => intro r; simp [dg]
 | succ n ih =>
  intro r
  simp only [dg]
  split
  ·simp only [List.length_cons]; exact Nat.succ_le_succ (ih _)
  ·simp
theorem D3 : ∀ (n : Nat) (r : RS), (dc n s r).1.length ≤ n := by
 intro n
 induction n with
 | zero => intro r; simp [dc]
 | succ n ih =>
  intro r
  simp only [dc]
  split
  ·simp only [List.length_cons]; exact Nat.succ_le_succ (ih _)
  ·simp
theorem D5 (hp : r.p ≤ s.size) : (dZ s r).1.2.size + 4 * r.p ≤ 1 + 4 * (dZ s r).2.p ∧ (dZ s r).1.1.size ≤ s.size ∧ (dZ s r).1.2.size ≤ 1 + 4 * s.size := by
 have h1 := bO (s := s) (w := ⟨#[40]⟩) hp
 have h2 := bO (s := s) (w := jl) h1.2
 have h3 := dH (s := s) h2.2
 have h4 := qX (s := s) (s.size + 1) _ h3.2
 have h5 := dG (s := s) (s.size + 1) _ h3.2
 have h6 := bO (s := s) (w := ⟨#[41]⟩) h5.2
 have h7 := uz h2.2
 unfold dZ
 dsimp only
 exact ⟨by omega, h7, by omega⟩
theorem BN : ∀ (n : Nat) {r : RS}, r.p ≤ s.size → Aj (dc n s r).1 + 4 * r.p ≤ n + 4 * (dc n s r).2.p ∧ ∀ c ∈ (dc n s r).1, c.1.size ≤ s.size ∧ c.2.size ≤ 1 + 4 * s.size := by
 intro n
 induction n with
 | zero => intro r hp; simp only [dc]; exact ⟨by simp [Aj, ai], fun c hc => by cases hc⟩
 | succ n ih =>
  intro r hp
  simp only [dc]
  split
  ·have h1 := D5 hp
   have h2 := ih (qN (s := s) hp).2
   refine ⟨?_, fun c hc => ?_⟩
   ·have h3 : ∀ (c : ByteArray × ae) l, Aj (c :: l) = c.2.size + Aj l := fun c l => by simp only [Aj, List.map_cons, ai]
    rw [h3]
    have := h2.1
    simp only; omega
   ·rcases List.mem_cons.1 hc with rfl | hc
    ·exact h1.2
    ·exact h2.2 c hc
  ·exact ⟨by simp [Aj, ai], fun c hc => by cases hc⟩
structure Iq (N : Nat) (d : dp) : Prop where
 nm : d.nm.size ≤ N
 pn : d.ps.length ≤ N + 2
 ty : d.ty.size ≤ 1 + 4 * N
 vl : d.vl.size ≤ 1 + 4 * N
 cs : ∀ c ∈ d.cs, c.1.size ≤ N ∧ c.2.size ≤ 1 + 4 * N
 Li : Aj d.cs ≤ 5 * N + 2
 cl : d.cs.length ≤ N + 2
variable {nm : ByteArray} {ps : List ByteArray}
theorem Iq.zero (N : Nat) (k : Int) (h1 : nm.size ≤ N) (h2 : ps.length ≤ N + 2) : Iq N (.mk k nm ps aI aI 0 []) :=
 ⟨h1, h2, by show 1 ≤ _; omega, by show 1 ≤ _; omega, fun c hc => (by cases hc), by simp [dp.cs, Aj, ai], by simp [dp.cs]⟩
theorem G6 (hp : r.p ≤ s.size) : (bz s r).2.1.size ≤ s.size ∧ (bz s r).2.2.1.length ≤ s.size + 2 := by
 have h1 := bO (s := s) (w := ⟨#[40]⟩) hp
 have h2 := cy (s := s) h1.2
 have h9 : ByteArray.empty.size = 0 := rfl
 unfold bz
 dsimp only
 split
 ·exact ⟨by simp only; omega, by simp⟩
 ·exact ⟨uz h2.2, oZ _ _⟩
theorem GK {k : Nat} {a : Int} (hp : r.p ≤ s.size) (h1 : nm.size ≤ s.size) (h2 : ps.length ≤ s.size + 2) : Iq s.size (gU s k nm ps a r).1 := by
 have t1 := qX (s := s) (s.size + 1) r hp
 have t2 := dG (s := s) (s.size + 1) r hp
 have v2 := tt (s := s) (k := k) t2.2
 have hv : (pD s k (bH (s.size + 1) s r).2).1.size ≤ 1 + 4 * s.size := by
  unfold pD
  split
  ·have h3 := qX (s := s) (s.size + 1) _ t2.2
   have h4 := dG (s := s) (s.size + 1) _ t2.2
   omega
  ·show 1 ≤ _; omega
 have hc : ∀ r : RS, r.p ≤ s.size → (∀ c ∈ (ky s k r).1, c.1.size ≤ s.size ∧ c.2.size ≤ 1 + 4 * s.size) ∧ Aj (ky s k r).1 ≤ 5 * s.size + 2 ∧ (ky s k r).1.length ≤ s.size + 2 := fun r hr => by
  unfold ky
  split
  ·have h3 := BN (s := s) (s.size + 2) hr
   have h4 := xh (s := s) (s.size + 2) hr
   have h5 := D3 (s := s) (s.size + 2) r
   exact ⟨h3.2, by omega, h5⟩
  ·exact ⟨fun c hc => (by cases hc), by simp [Aj, ai], by simp⟩
 unfold gU
 dsimp only
 exact ⟨h1, h2, by show (bH (s.size + 1) s r).1.size ≤ _; omega, hv, (hc _ v2.2).1, (hc _ v2.2).2.1, (hc _ v2.2).2.2⟩
theorem Ho (hp : r.p ≤ s.size) : Iq s.size (dI s r).1 := by
 have hh := kj (s := s) hp
 have h2 := G6 hp
 have h9 : ByteArray.empty.size = 0 := rfl
 unfold dI
 dsimp only
 split
 ·exact Iq.zero _ _ (by omega) (by simp)
 ·split
  ·exact Iq.zero _ _ h2.1 h2.2
  ·exact GK (mJ (s := s) hh.2).2 h2.1 h2.2
theorem Hj : ∀ (n : Nat) {r : RS}, r.p ≤ s.size → (eQ n s r).1.length ≤ n ∧ ∀ d ∈ (eQ n s r).1, Iq s.size d := by
 intro n
 induction n with
 | zero => intro r hp; exact ⟨by simp [eQ], fun d hd => by simp [eQ] at hd⟩
 | succ n ih =>
  intro r hp
  have h := ih (vf (s := s) hp).2
  simp only [eQ]
  split
  ·refine ⟨by simp only [List.length_cons]; exact Nat.succ_le_succ h.1, fun d hd => ?_⟩
   rcases List.mem_cons.1 hd with rfl | hd
   ·exact Ho hp
   ·exact h.2 d hd
  ·exact ⟨by simp, fun d hd => by simp at hd⟩
theorem IH {N : Nat} (hN : N ≤ 200000) {d : dp} (h : CK d) (hz : Iq N d) : ∃ x : RD, d = x.dec ∧ As x := by
 obtain ⟨k, s, ps, k1, n1, s1, l1, a1, k2, n2, s2, l2, a2, a, cs, rfl⟩ := dp.case d
 obtain ⟨g1, g2, g3, g4⟩ := h
 obtain ⟨z1, z2, z3, z4, z5, z6, z7⟩ := hz
 simp only [dp.nm, dp.ps, dp.ty, dp.vl, dp.cs] at z1 z2 z3 z4 z5 z6 z7
 refine ⟨⟨k, s, ps, k1, n1, s1, l1, a1, k2, n2, s2, l2, a2, a, cs⟩, rfl, ⟨?_, ?_, fun q hq => IN (g2 q hq), ⟨qh g3, ?_⟩, ?_, ?_, ?_, ?_, ?_, ?_, ?_, ?_⟩⟩
 ·simp only; omega
 ·simp only; omega
 ·simp only; omega
 ·intro hk
  simp only at hk ⊢
  rcases g4 with g | g | g
  ·omega
  ·exact ⟨qh g.2.1, by omega⟩
  ·omega
 ·simp only
  rcases g4 with g | g | g
  ·omega
  ·omega
  ·exact ⟨g.2.2.1, g.2.2.2.1⟩
 ·intro c hc
  simp only at hc
  rcases g4 with g | g | g
  ·rw [g.2.2.2] at hc; cases hc
  ·rw [g.2.2.2] at hc; cases hc
  ·exact ⟨qh (g.2.2.2.2 c hc).2, by have := (z5 c hc).2; omega, by have := (z5 c hc).1; omega⟩
 ·simp only; omega
 ·simp only; omega
 ·simp only
  rcases g4 with g | g | g <;> omega
 ·intro hk
  simp only at hk ⊢
  rcases g4 with g | g | g
  ·exact g.2.2.2
  ·exact g.2.2.2
  ·omega
 ·simp only; omega
theorem A0 {s : ByteArray} (h : (eW s).2.1 = 0) : (eW s).1.length ≤ 200002 ∧ ∀ d ∈ (eW s).1, ∃ x : RD, d = x.dec ∧ As x := by
 have hg := xI h
 unfold eW at h hg ⊢
 split at h
 ·exact absurd h (by decide)
 ·rename_i hs
  rw [if_neg hs] at hg ⊢
  have hz := Hj (s := s) (s.size + 2) (r := ⟨0, none⟩) (Nat.zero_le _)
  unfold eu at h hg ⊢
  split at h
  ·rename_i hf
   rw [hf] at hg
   simp only at hg ⊢
   exact ⟨Nat.le_trans hz.1 (by omega), fun d hd => IH (N := s.size) (by omega) (hg d hd) (hz.2 d hd)⟩
  ·exact absurd (show (1 : Int) = 0 from h) (by decide)
end Go.Proofs.YtndbnldjidciiaaGreatDoor
namespace Go.Proofs.YtndbnldjidciiaaGreatDoor
open Go Go.Vd Go.RowKit
attribute [local irreducible] bl br de aj bI cY
variable {g gl : Nat → List D}
theorem DY (s : ByteArray) (hs : s.size ≤ 1099511627776) (r : RS) (hp : r.p ≤ s.size) :
 ey Tryz.prog (zJ g) 147 [gx s r] [.bZ 0 0] fun out ob' => out = .ret (.d (dI s r).1.d) ∧ ob' = [gx s (dI s r).2] := by
 refine bS Tryz.func147 Tryz.ntmps147 1 ?_;refine gc 8 ?_;refine oc (ck vW rfl rfl (fj s ⟨#[40]⟩ r hs hp) [0] rfl (bh .nil) (an (an .nil)) ?_);refine go 3 ?_
 have e1 := (bO (s := s) (w := ⟨#[40]⟩) hp).2
 generalize hr1 : bT s ⟨#[40]⟩ r = r1 at e1 ⊢
 refine gc 2 ?_;refine oc (ck nS rfl rfl (cE s r1.p (bg r1.f) (dJ r1.f) hs e1) [0] rfl (bh .nil) (an .nil) ?_);refine ko 22 [20, 6, 4, 2, 0] 0 ?_;refine xo (ι := Nat) (fun k => []) (fun k => [gx s r1, .cells [.d (.v (.int .i64 0)), .d (.v (.string .empty)), .d (.v (.slice none 0 0)), .d (.v (.int .i64 0)), .d (.v (.int .i64 0)), .d (.v (.string .empty)), .d (.v (.slice none 0 0)), .d (.v (.slice none 0 0)), .d (.v (.int .i64 0)), .d (.v (.int .i64 0)), .d (.v (.string .empty)), .d (.v (.slice none 0 0)), .d (.v (.slice none 0 0)), .d (.v (.int .i64 0)), .d (.v (.slice none 0 0))] 61, .cells [.d (.v (.int .i64 k)), .d (.v (.string .empty)), .d (.v (.slice none 0 0)), .d (.v (.int .i64 0)), .d (.v (.int .i64 0)), .d (.v (.string .empty)), .d (.v (.slice none 0 0)), .d (.v (.slice none 0 0)), .d (.v (.int .i64 0)), .d (.v (.int .i64 0)), .d (.v (.string .empty)), .d (.v (.slice none 0 0)), .d (.v (.slice none 0 0)), .d (.v (.int .i64 0)), .d (.v (.slice none 0 0))] 61]) [6, 2, 0] (fun k => sO (aO s r1.p).1 = k ∧ ¬ k = 0) rfl ?A8 ?B8
 case A8 =>
  refine gc 7 ?_;refine cj (fun h7 => ?_) (fun h7 => ?_)
  ·refine kc 0 [6, 2, 0] 5 ?_;refine bk (1) rfl ?_ [0, 1, 2] mz
   rw [h7]; decide
  refine gc 6 ?_;refine cj (fun h9 => ?_) (fun h9 => ?_)
  ·refine kc 0 [6, 2, 0] 5 ?_;refine bk (2) rfl ?_ [0, 1, 2] mz
   rw [h9]; decide
  refine kc 0 [20, 6, 4, 2, 0] 6 ?_;refine cj (fun h11 => ?_) (fun h11 => ?_)
  ·refine kc 0 [6, 2, 0] 5 ?_;refine bk (3) rfl ?_ [0, 1, 2] mz
   rw [h11]; decide
  refine gc 4 ?_;refine oc (ck rJ rfl rfl (dS s (aO s r1.p).2.1 r1) [0] rfl (bh .nil) (an (an .nil)) ?_);refine ko 2 [6, 2] 9 ?_;refine eo ((dp.mk 0 .empty [] aI aI 0 []).d) [0] [gx s (r1.fail (aO s r1.p).2.1)] ?_
  ·rw [BJ hr1 (zB h7 h9 h11)]; exact ⟨rfl, rfl⟩
 case B8 =>
  rintro k hcut
  try dsimp only at hcut
  refine kc 0 [6, 2, 0] 1 ?_; obtain ⟨hk, hk0⟩ := hcut
  have e2 := (cy (s := s) (r := r1) e1).2
  have e3 := (dH (s := s) (r := (aF s r1).2) e2).2
  have e4 := (bO (s := s) (w := ⟨#[40]⟩) (r := (ch s (aF s r1).2).2) e3).2
  refine gc 2 ?_;refine oc (ck Al rfl rfl (gr s r1 hs e1) [0] rfl (bh .nil) (an .nil) ?_);refine go 5 ?_;refine oc (ck Hr rfl rfl (o0 s (aF s r1).2 hs e2) [0] rfl (bh .nil) (an .nil) ?_);refine ko 4 [6, 2, 0] 3 ?_;refine oc (ck vW rfl rfl (fj s ⟨#[40]⟩ (ch s (aF s r1).2).2 hs e3) [0] rfl (bh .nil) (an (an .nil)) ?_);refine ko 4 [6, 2, 0] 0 ?_;refine bq 9 1 rfl ?_;refine lp (ι := Nat × List ByteArray × RS) (fun ⟨m, acc, r'⟩ => []) (fun ⟨m, acc, r'⟩ => [gx s r', .cells [.d (.v (.int .i64 0)), .d (.v (.string .empty)), .d (.v (.slice none 0 0)), .d (.v (.int .i64 0)), .d (.v (.int .i64 0)), .d (.v (.string .empty)), .d (.v (.slice none 0 0)), .d (.v (.slice none 0 0)), .d (.v (.int .i64 0)), .d (.v (.int .i64 0)), .d (.v (.string .empty)), .d (.v (.slice none 0 0)), .d (.v (.slice none 0 0)), .d (.v (.int .i64 0)), .d (.v (.slice none 0 0))] 61, .cells [.d (.v (.int .i64 k)), .d (.v (.string (ch s (aF s r1).2).1)), .own 3 1 (strs acc), .d (.v (.int .i64 0)), .d (.v (.int .i64 0)), .d (.v (.string .empty)), .d (.v (.slice none 0 0)), .d (.v (.slice none 0 0)), .d (.v (.int .i64 0)), .d (.v (.int .i64 0)), .d (.v (.string .empty)), .d (.v (.slice none 0 0)), .d (.v (.slice none 0 0)), .d (.v (.int .i64 0)), .d (.v (.slice none 0 0))] 61, .row 9 1]) [6, 2, 0] (fun ⟨m, acc, r'⟩ => r'.p ≤ s.size ∧ acc.length + m = s.size + 2 ∧ (r'.f = none → s.size - r'.p < m) ∧ dg (s.size + 2) s (bT s ⟨#[40]⟩ (ch s (aF s r1).2).2) = (acc ++ (dg m s r').1, (dg m s r').2)) (fun ⟨m, acc, r'⟩ => m) ((s.size + 2, [], bT s ⟨#[40]⟩ (ch s (aF s r1).2).2)) ([0, 1, 2, 3]) rfl ?I9 ?M9 ?H9
  case I9 =>
   exact ⟨e4, by simp, fun _ => by omega, rfl⟩
  case M9 =>
   refine mo ?_ (aH (aH (aH dF)))
   repeat (first | exact cW | exact zX | refine bh ?_ | refine p6 ?_ | refine BU ?_ ?_ | refine an ?_ | refine .cons (.nil rfl) ?_)
  case H9 =>
   rintro ⟨m, acc, r'⟩ hinv
   try dsimp only at hinv
   refine kc 0 [6, 2, 0] 10 ?_
   refine' oa (yt := 50) (d := 47) 3 ?a1 ?b1 ?_
   case a1 =>
    intro hc hK
    refine go 1 ?_;refine gy ?_;refine oc (ck Jr rfl rfl (rh s r' hs hinv.1) [0] rfl (bh .nil) (an .nil) ?_);refine go 1 ?_
    exact hK [_, _, _] rfl rfl
   case b1 =>
    intro _ hK; refine go 3 ?_; exact hK [_, _, _] rfl
   refine go 2 ?_;refine cj (fun h16 => ?_) (fun h16 => ?_)
   ·refine kc 3 [6, 2, 0] 0 ?_
    have hm1 := hinv.2.2.1 (du.1 h16.1)
    have hln := bU acc
    refine gz [0, 1, 2] mixed ?_;refine A2 3 rfl (ck Hr rfl rfl (o0 s r' hs hinv.1) [0] rfl (bh .nil) (an .nil) ?_);refine A2 4 rfl (gR ng [.tmp 55] AB ?_);refine A2 5 rfl (nU ng ?_);refine ga [6] ?_;refine A2 7 rfl (eD GH ?_);refine aQ ?_;refine ge 1 ?_
    rw [gC]
    refine bk (m - 1, acc ++ [(ch s r').1], (ch s r').2) rfl ?_ [0, 1, 2, 3] mz
    exact ⟨Be hinv ⟨du.1 h16.1, h16.2⟩ rfl, show m - 1 < m by omega⟩
   refine kc 6 [6, 2, 0] 0 ?_
   have e5 : dg (s.size + 2) s (bT s ⟨#[40]⟩ (ch s (aF s r1).2).2) = (acc, r') := (by rw [hinv.2.2.2, Bd (by rintro ⟨ha, hb⟩; rcases h16 with h | h; exact h (du.2 ha); exact hb h), List.append_nil])
   have e6 := Ag hr1 hk hk0 rfl e5
   have e7 := (bO (s := s) (w := ⟨#[41]⟩) (r := r') hinv.1).2
   refine gc 2 ?_;refine oc (ck vW rfl rfl (fj s ⟨#[41]⟩ r' hs hinv.1) [0] rfl (bh .nil) (an (an .nil)) ?_);refine go 4 ?_
   generalize hr6 : bT s ⟨#[41]⟩ r' = r6 at e6 e7 ⊢
   generalize hnm : (ch s (aF s r1).2).1 = nm at e6 ⊢
   refine kc 6 [63, 6, 2, 0] 0 ?_;refine xo (ι := Int × RS) (fun ⟨a, r7⟩ => []) (fun ⟨a, r7⟩ => [gx s r7, .cells [.d (.v (.int .i64 0)), .d (.v (.string .empty)), .d (.v (.slice none 0 0)), .d (.v (.int .i64 0)), .d (.v (.int .i64 0)), .d (.v (.string .empty)), .d (.v (.slice none 0 0)), .d (.v (.slice none 0 0)), .d (.v (.int .i64 0)), .d (.v (.int .i64 0)), .d (.v (.string .empty)), .d (.v (.slice none 0 0)), .d (.v (.slice none 0 0)), .d (.v (.int .i64 0)), .d (.v (.slice none 0 0))] 61, .cells [.d (.v (.int .i64 k)), .d (.v (.string nm)), .own 3 1 (strs acc), .d (.v (.int .i64 0)), .d (.v (.int .i64 0)), .d (.v (.string .empty)), .d (.v (.slice none 0 0)), .d (.v (.slice none 0 0)), .d (.v (.int .i64 0)), .d (.v (.int .i64 0)), .d (.v (.string .empty)), .d (.v (.slice none 0 0)), .d (.v (.slice none 0 0)), .d (.v (.int .i64 a)), .d (.v (.slice none 0 0))] 61, .row 9 1]) [6, 2, 0] (fun ⟨a, r7⟩ => eY s k r6 = (a, r7) ∧ ¬ (k = 3 ∧ ¬ oP (aO s r6.p))) rfl ?A10 ?B10
   case A10 =>
    refine cJ (fun h19 => ?_) (fun h19 => ?_)
    ·refine gc 1 ?_;refine bk (0, r6) rfl ?_ [0, 1, 2, 3] mz
     exact ⟨by unfold eY; rw [if_neg (by omega)], fun h => by omega⟩
    refine gc 3 ?_;refine oc (ck nS rfl rfl (cE s r6.p (bg r6.f) (dJ r6.f) hs e7) [0] rfl (bh .nil) (an .nil) ?_);refine ko 10 [9, 8, 7, 6, 2, 0] 5 ?_
    refine' oo (yt := 74) (d := 72) 2 ?a2 ?b2 ?_
    case a2 =>
     intro hc hK
     refine go 2 ?_; exact hK [_, _] rfl rfl
    case b2 =>
     intro _ hK; refine go 2 ?_; exact hK [_, _] rfl
    refine go 1 ?_
    refine' oo (yt := 79) (d := 76) 3 ?a3 ?b3 ?_
    case a3 =>
     intro hc hK
     refine go 1 ?_;refine gy ?_;refine o1 (BT rO ?_ (h01 := by have h1 := size_pos hc.2; omega));refine go 1 ?_
     exact hK [_, _, _] rfl rfl
    case b3 =>
     intro _ hK; refine go 3 ?_; exact hK [_, _, _] rfl
    refine go 1 ?_
    refine' oo (yt := 84) (d := 81) 3 ?a4 ?b4 ?_
    case a4 =>
     intro hc hK
     refine go 1 ?_;refine gy ?_;refine o1 (BT rO ?_ (h01 := by have h1 := size_pos hc.1.2; omega));refine go 1 ?_
     exact hK [_, _, _] rfl rfl
    case b4 =>
     intro _ hK; refine go 3 ?_; exact hK [_, _, _] rfl
    refine go 1 ?_
    refine' oo (yt := 89) (d := 86) 3 ?a5 ?b5 ?_
    case a5 =>
     intro hc hK
     refine go 3 ?_; exact hK [_, _, _] rfl rfl
    case b5 =>
     intro _ hK; refine go 3 ?_; exact hK [_, _, _] rfl
    refine go 2 ?_;refine cJ (fun h21 => ?_) (fun h21 => ?_)
    ·refine kc 3 [7, 6, 2, 0] 0 ?_
     have hz : aZ (aO s r6.p).1 (Int.toNat 0) = aZ (aO s r6.p).1 0 := rfl; obtain ⟨⟨⟨⟨_, g1⟩, g2⟩, g3⟩, g4⟩ := h21; have hab : oP (aO s r6.p) := ⟨g1, (by omega), (by omega), (by omega)⟩
     have e8 := (cy (s := s) (r := r6) e7).2
     have e9 := Cl (s := s) e7 hab.1 ⟨hab.2.1, hab.2.2.1⟩
     refine gc 2 ?_;refine oc (ck Al rfl rfl (gr s r6 hs e7) [0] rfl (bh .nil) (an .nil) ?_);refine go 4 ?_;refine oc (cv Ki rfl rfl (sF (aO s r6.p).1 e9.1 e9.2.1) (an .nil) ?_);refine go 3 ?_;refine bk (jN (aO s r6.p).1 (aO s r6.p).1.size, (aF s r6).2) rfl ?_ [0, 1, 2, 3] mz
     exact ⟨by unfold eY; rw [if_pos (by omega)], fun h => h.2 hab⟩
    refine kc 1 [8, 6, 2, 0] 0 ?_; obtain rfl : k = 3 := (by omega); refine gc 3 ?_;refine oc (ck rJ rfl rfl (dS s (aO s r6.p).2.1 r6) [0] rfl (bh .nil) (an (an .nil)) ?_);refine ko 2 [6, 2] 9 ?_;refine eo ((dp.mk 3 nm acc aI aI 0 []).d) [0] [gx s (r6.fail (aO s r6.p).2.1)] ?_
    ·rw [D0 e6 (by unfold oP; rintro ⟨b1, b2, b3, b4⟩; have hz : aZ (aO s r6.p).1 (Int.toNat 0) = aZ (aO s r6.p).1 0 := rfl; rcases h21 with (((h | h) | h) | h) | h; exact b1 (pH h); exact b1 h; omega; omega; omega)]; exact ⟨rfl, rfl⟩
   case B10 =>
    rintro ⟨a, r7⟩ hcut
    try dsimp only at hcut
    refine kc 0 [6, 2, 0] 1 ?_; obtain ⟨c1, c2⟩ := hcut
    have e10 := (mJ (s := s) (k := k) e7).2
    rw [c1] at e10
    simp only at e10
    have e11 := (dG (s := s) (s.size + 1) r7 e10).2
    obtain ⟨k1, n1, s1, l1, a1, hX⟩ := ae.case (bH (s.size + 1) s r7).1; refine gc 2 ?_;refine oc (ay F3 rfl rfl rfl rfl (oV s hs (s.size + 1) r7 e10 (by omega)) [0] (bh .nil) rfl rfl rfl rfl (an .nil) (fun s ob' hq => ?_) (fun s ob' hq => ?_))
    rotate_left
    ·first | exact hq.elim | cases hq.1
    obtain ⟨hq1, rfl⟩ := hq; rw [hX] at hq1; cases hq1; refine ⟨_, _, _, _, _, rfl, rfl, rfl, rfl, rfl, ?_⟩;refine go 6 ?_
    generalize hr8 : (bH (s.size + 1) s r7).2 = r8 at e11 ⊢
    refine kc 6 [105, 6, 2, 0] 0 ?_;refine xo (ι := Int × Int × ByteArray × List aJ × List ae × RS) (fun ⟨k2, n2, s2, l2, a2, r9⟩ => []) (fun ⟨k2, n2, s2, l2, a2, r9⟩ => [gx s r9, .cells [.d (.v (.int .i64 0)), .d (.v (.string .empty)), .d (.v (.slice none 0 0)), .d (.v (.int .i64 0)), .d (.v (.int .i64 0)), .d (.v (.string .empty)), .d (.v (.slice none 0 0)), .d (.v (.slice none 0 0)), .d (.v (.int .i64 0)), .d (.v (.int .i64 0)), .d (.v (.string .empty)), .d (.v (.slice none 0 0)), .d (.v (.slice none 0 0)), .d (.v (.int .i64 0)), .d (.v (.slice none 0 0))] 61, .cells [.d (.v (.int .i64 k)), .d (.v (.string nm)), .own 3 1 (strs acc), .d (.v (.int .i64 k1)), .d (.v (.int .i64 n1)), .d (.v (.string s1)), .d (.sl 3 (bF l1)), .d (.sl 5 (ba a1)), .d (.v (.int .i64 k2)), .d (.v (.int .i64 n2)), .d (.v (.string s2)), .d (.sl 3 (bF l2)), .d (.sl 5 (ba a2)), .d (.v (.int .i64 a)), .d (.v (.slice none 0 0))] 61, .row 9 1]) [6, 2, 0] (fun ⟨k2, n2, s2, l2, a2, r9⟩ => pD s k r8 = (.mk k2 n2 s2 l2 a2, r9)) rfl ?A11 ?B11
    case A11 =>
     refine cJ (fun h27 => ?_) (fun h27 => ?_)
     ·refine gc 1 ?_;refine bk ((0, 0, .empty, [], [], r8)) rfl ?_ ([0, 1, 2, 3]) ?_
      ·unfold pD; rw [if_neg (by omega)]; rfl
      ·refine mo ?_ (aH (aH (aH dF)))
       repeat (first | exact cW | exact zX | refine bh ?_ | refine cu ?_ | refine BU ?_ ?_ | refine an ?_ | refine JL ?_)
     obtain ⟨k2, n2, s2, l2, a2, hX2⟩ := ae.case (bH (s.size + 1) s r8).1; refine gc 2 ?_;refine oc (ay F3 rfl rfl rfl rfl (oV s hs (s.size + 1) r8 e11 (by omega)) [0] (bh .nil) rfl rfl rfl rfl (an .nil) (fun s ob' hq => ?_) (fun s ob' hq => ?_))
     rotate_left
     ·first | exact hq.elim | cases hq.1
     obtain ⟨hq1, rfl⟩ := hq; rw [hX2] at hq1; cases hq1; refine ⟨_, _, _, _, _, rfl, rfl, rfl, rfl, rfl, ?_⟩;refine go 3 ?_;refine bk (k2, n2, s2, l2, a2, (bH (s.size + 1) s r8).2) rfl ?_ [0, 1, 2, 3] mz
     exact (by unfold pD; rw [if_pos (by omega)]; exact Prod.ext hX2 rfl)
    case B11 =>
     rintro ⟨k2, n2, s2, l2, a2, r9⟩ hcut
     try dsimp only at hcut
     refine kc 0 [6, 2, 0] 2 ?_
     have e12 := (tt (s := s) (k := k) e11).2
     rw [hcut] at e12
     simp only at e12
     refine bq 65 6 rfl ?_;refine lp (ι := Nat × List (ByteArray × ae) × RS) (fun ⟨m, cs, r'⟩ => []) (fun ⟨m, cs, r'⟩ => [gx s r', .cells [.d (.v (.int .i64 0)), .d (.v (.string .empty)), .d (.v (.slice none 0 0)), .d (.v (.int .i64 0)), .d (.v (.int .i64 0)), .d (.v (.string .empty)), .d (.v (.slice none 0 0)), .d (.v (.slice none 0 0)), .d (.v (.int .i64 0)), .d (.v (.int .i64 0)), .d (.v (.string .empty)), .d (.v (.slice none 0 0)), .d (.v (.slice none 0 0)), .d (.v (.int .i64 0)), .d (.v (.slice none 0 0))] 61, .cells [.d (.v (.int .i64 k)), .d (.v (.string nm)), .own 3 1 (strs acc), .d (.v (.int .i64 k1)), .d (.v (.int .i64 n1)), .d (.v (.string s1)), .d (.sl 3 (bF l1)), .d (.sl 5 (ba a1)), .d (.v (.int .i64 k2)), .d (.v (.int .i64 n2)), .d (.v (.string s2)), .d (.sl 3 (bF l2)), .d (.sl 5 (ba a2)), .d (.v (.int .i64 a)), .own 4 6 (gV cs)] 61, .row 9 1, .row 65 6]) [6, 2, 0] (fun ⟨m, cs, r'⟩ => r'.p ≤ s.size ∧ cs.length + m = s.size + 2 ∧ (r'.f = none → s.size - r'.p < m) ∧ mI k (s.size + 2) s r9 = (cs ++ (mI k m s r').1, (mI k m s r').2)) (fun ⟨m, cs, r'⟩ => m) ((s.size + 2, [], r9)) ([0, 1, 2, 3, 4]) rfl ?I12 ?M12 ?H12
     case I12 =>
      exact ⟨e12, by simp, fun _ => by omega, rfl⟩
     case M12 =>
      refine mo ?_ (aH (aH (aH dF)))
      repeat (first | exact cW | exact zX | refine bh ?_ | refine cu ?_ | refine p6 ?_ | refine BU ?_ ?_ | refine an ?_ | refine .cons (.nil rfl) ?_)
     case H12 =>
      rintro ⟨m, cs, r'⟩ hinv
      try dsimp only at hinv
      refine kc 0 [6, 2, 0] 7 ?_
      refine' oa (yt := 118) (d := 112) 6 ?a6 ?b6 ?_
      case a6 =>
       intro hc hK
       refine go 6 ?_; exact hK [_, _, _, _, _, _] rfl rfl
      case b6 =>
       intro _ hK; refine go 6 ?_
       exact hK [_, _, _, _, _, _] rfl
      refine go 1 ?_
      refine' oa (yt := 123) (d := 120) 3 ?a7 ?b7 ?_
      case a7 =>
       intro hc hK
       refine go 1 ?_;refine gy ?_;refine oc (ck Jr rfl rfl (rh s r' hs hinv.1) [0] rfl (bh .nil) (an .nil) ?_);refine go 1 ?_
       exact hK [_, _, _] rfl rfl
      case b7 =>
       intro _ hK; refine go 3 ?_; exact hK [_, _, _] rfl
      refine go 2 ?_;refine cJ (fun h29 => ?_) (fun h29 => ?_)
      ·refine kc 6 [6, 2, 0] 0 ?_
       have e13 : mI k (s.size + 2) s r9 = (cs, r') := (by rw [hinv.2.2.2, D7 (by rintro ⟨h1, h2, h3⟩; rcases h29 with (h | h) | h; omega; exact h (du.2 h2); exact h h3), List.append_nil])
       refine gc 2 ?_;refine oc (ck vW rfl rfl (fj s ⟨#[41]⟩ r' hs hinv.1) [0] rfl (bh .nil) (an (an .nil)) ?_);refine go 9 ?_;refine eo ((dp.mk k nm acc (.mk k1 n1 s1 l1 a1) (.mk k2 n2 s2 l2 a2) a cs).d) [0] [gx s (bT s ⟨#[41]⟩ r')] ?_
       ·rw [BK e6 hk0 c2 c1 (Prod.ext hX hr8) hcut e13]; exact ⟨rfl, rfl⟩
      refine kc 4 [6, 2, 0] 0 ?_
      have hm1 := hinv.2.2.1 (du.1 h29.1.2)
      have hln := gd cs
      have f1 := (bO (s := s) (w := ⟨#[40]⟩) hinv.1).2
      have f2 := (bO (s := s) (w := jl) f1).2
      have f3 := (dH (s := s) f2).2
      have f4 := (dG (s := s) (s.size + 1) _ f3).2
      obtain ⟨k3, n3, s3, l3, a3, hX3⟩ := ae.case (bH (s.size + 1) s (ch s (bT s jl (bT s ⟨#[40]⟩ r'))).2).1
      have hlast : gV cs ++ [[.v (.string (ch s (bT s jl (bT s ⟨#[40]⟩ r'))).1), .v (.int .i64 k3), .v (.int .i64 n3), .v (.string s3), .sl 3 (bF l3), .sl 5 (ba a3)]] = gV (cs ++ [((ch s (bT s jl (bT s ⟨#[40]⟩ r'))).1, .mk k3 n3 s3 l3 a3)]) := by rw [FX]; rfl
      refine gc 2 ?_;refine oc (ck vW rfl rfl (fj s ⟨#[40]⟩ r' hs hinv.1) [0] rfl (bh .nil) (an (an .nil)) ?_);refine go 5 ?_;refine oc (ck vW rfl rfl (fj s jl (bT s ⟨#[40]⟩ r') hs f1) [0] rfl (bh .nil) (an (an .nil)) ?_);refine ko 2 [6, 2, 0] 3 ?_;refine oc (ck Hr rfl rfl (o0 s (bT s jl (bT s ⟨#[40]⟩ r')) hs f2) [0] rfl (bh .nil) (an .nil) ?_);refine go 8 ?_;refine oc (ay F3 rfl rfl rfl rfl (oV s hs (s.size + 1) (ch s (bT s jl (bT s ⟨#[40]⟩ r'))).2 f3 (by omega)) [0] (bh .nil) rfl rfl rfl rfl (an .nil) (fun s ob' hq => ?_) (fun s ob' hq => ?_))
      rotate_left
      ·first | exact hq.elim | cases hq.1
      obtain ⟨hq1, rfl⟩ := hq; rw [hX3] at hq1; cases hq1; refine ⟨_, _, _, _, _, rfl, rfl, rfl, rfl, rfl, ?_⟩;refine ko 4 [10, 6, 2, 0] 3 ?_;refine oc (ck vW rfl rfl (fj s ⟨#[41]⟩ (bH (s.size + 1) s (ch s (bT s jl (bT s ⟨#[40]⟩ r'))).2).2 hs f4) [0] rfl (bh .nil) (an (an .nil)) ?_);refine go 6 ?_;refine oc (gR JZ [.tmp 139] GG ?_);refine oc (nU JZ ?_);refine go 4 ?_
      rw [hlast]; rw [show bT s ⟨#[41]⟩ (bH (s.size + 1) s (ch s (bT s jl (bT s ⟨#[40]⟩ r'))).2).2 = (dZ s r').2 from rfl]
      refine bk (m - 1, cs ++ [((ch s (bT s jl (bT s ⟨#[40]⟩ r'))).1, .mk k3 n3 s3 l3 a3)], (dZ s r').2) rfl ?_ [0, 1, 2, 3, 4] mz
      exact ⟨D8 hinv (by omega) ⟨du.1 h29.1.2, h29.2⟩ (by rw [← hX3]; rfl), show m - 1 < m by omega⟩
end Go.Proofs.YtndbnldjidciiaaGreatDoor
namespace Go.Proofs.YtndbnldjidciiaaGreatDoor
open Go Go.Vd Go.RowKit
attribute [local irreducible] bl br de aj bI cY
variable {g gl : Nat → List D}
theorem vI (s : ByteArray) (hs0 : s.size ≤ 268435456) : cD Tryz.prog (zJ g) 119 [.v (.string s)] (· = .cb [.sl 15 (iV (eu s).1), .agg [.v (.int .i64 (eu s).2.1), .v (.int .i64 (eu s).2.2)]]) := by
 have hs : s.size ≤ 1099511627776 := by omega
 refine bD Tryz.func119 Tryz.ntmps119 ?_;refine kc 14 [4, 3] 7 ?_;refine bq 61 15 rfl ?_;refine lp (ι := Nat × List dp × RS) (fun ⟨m, acc, r'⟩ => [(5, .own 2 15 (iV acc))]) (fun ⟨m, acc, r'⟩ => [.cells [.d (.v (.int .i64 0)), .d (.v (.int .i64 0))] 78, gx s r', .row 61 15]) [4, 3] (fun ⟨m, acc, r'⟩ => r'.p ≤ s.size ∧ acc.length + m = s.size + 2 ∧ (r'.f = none → s.size - r'.p < m) ∧ eQ (s.size + 2) s ⟨0, none⟩ = (acc ++ (eQ m s r').1, (eQ m s r').2)) (fun ⟨m, acc, r'⟩ => m) ((s.size + 2, [], ⟨0, none⟩)) ([0, 1, 2]) rfl ?I2 ?M2 ?H2
 case I2 =>
  exact ⟨Nat.zero_le _, by simp, fun _ => (show s.size - 0 < s.size + 2 by omega), rfl⟩
 case M2 =>
  refine mo ?_ (eh rfl (by exact Fit.nil rfl) (aH (aH dF)))
  repeat (first | exact cW | refine bh ?_ | refine p6 ?_)
 case H2 =>
  rintro ⟨m, acc, r'⟩ hinv
  try dsimp only at hinv
  refine kc 0 [5, 4, 3] 11 ?_;refine cJ (fun h3 => ?_) (fun h3 => ?_)
  ·refine kc 6 [4, 3] 0 ?_;refine gz [0, 1, 2, 3, 4] mixed ?_;refine A2 5 rfl (eD xu ?_);refine aQ ?_;refine ge 2 ?_;refine ed (.cb [.sl 15 (iV []), .agg [.v (.int .i64 (bg r'.f)), .v (.int .i64 (dJ r'.f))]]) ?_
   rw [DS (acc := acc) (r := r') (by rw [hinv.2.2.2, rD (by rintro ⟨ha, _⟩; exact h3 (du.2 ha)), List.append_nil]) h3]
  refine kc 3 [5, 4, 3] 3 ?_;refine oc (ck nS rfl rfl (cE s r'.p (bg r'.f) (dJ r'.f) hs hinv.1) [1] rfl (bh .nil) (an .nil) ?_);refine ko 10 [8, 6, 5, 4, 3] 4 ?_
  refine' oa (yt := 28) (d := 26) 2 ?a1 ?b1 ?_
  case a1 =>
   intro hc hK
   refine go 2 ?_; exact hK [_, _] rfl rfl
  case b1 =>
   intro _ hK; refine go 2 ?_; exact hK [_, _] rfl
  refine go 2 ?_;refine cj (fun h5 => ?_) (fun h5 => ?_)
  ·refine kc 0 [5, 3] 14 ?_;refine ed (.cb [.sl 15 (iV acc), .agg [.v (.int .i64 0), .v (.int .i64 0)]]) ?_
   rw [vJ (acc := acc) (r := r') (by rw [hinv.2.2.2, rD (by rintro ⟨_, hb⟩; exact hb h5), List.append_nil]) (du.1 h3)]
  refine kc 3 [5, 4, 3] 0 ?_
  have hne : ¬ atEnd s r' := (by intro h; rcases h5 with h' | h'; (rw [h.1] at h'; cases h'); exact h' h.2)
  have hm1 := hinv.2.2.1 (du.1 h3)
  have hln := oM acc
  obtain ⟨k, nm, ps, k1, n1, s1, l1, a1, k2, n2, s2, l2, a2, a, cs, hX⟩ := dp.case (dI s r').1
  have hlast : iV acc ++ [[.v (.int .i64 k), .v (.string nm), .sl 1 (strs ps), .v (.int .i64 k1), .v (.int .i64 n1), .v (.string s1), .sl 3 (bF l1), .sl 5 (ba a1), .v (.int .i64 k2), .v (.int .i64 n2), .v (.string s2), .sl 3 (bF l2), .sl 5 (ba a2), .v (.int .i64 a), .sl 6 (gV cs)]] = iV (acc ++ [dp.mk k nm ps (.mk k1 n1 s1 l1 a1) (.mk k2 n2 s2 l2 a2) a cs]) := (by rw [Af]; rfl)
  refine gc 2 ?_;refine oc (ay KD rfl rfl rfl rfl (DY s hs r' hinv.1) [1] (bh .nil) rfl rfl rfl rfl (an .nil) (fun s ob' hq => ?_) (fun s ob' hq => ?_))
  rotate_left
  ·first | exact hq.elim | cases hq.1
  obtain ⟨hq1, rfl⟩ := hq; rw [hX] at hq1; cases hq1; refine ⟨_, _, _, _, _, rfl, rfl, rfl, rfl, rfl, ?_⟩;refine go 7 ?_;refine oc (gR Dh [.tmp 35] Df ?_);refine oc (nU Dh ?_);refine go 3 ?_
  rw [hlast]
  refine bk ((m - 1, acc ++ [dp.mk k nm ps (.mk k1 n1 s1 l1 a1) (.mk k2 n2 s2 l2 a2) a cs], (dI s r').2)) rfl ?_ ([0, 1, 2]) ?_
  ·exact ⟨DQ hinv ⟨du.1 h3, hne⟩ hX, show m - 1 < m by omega⟩
  ·exact mz
theorem og (s : ByteArray) : cD Tryz.prog (zJ g) 78 [.v (.string s)] (· = .cb [.sl 15 (iV (eW s).1), .agg [.v (.int .i64 (eW s).2.1), .v (.int .i64 (eW s).2.2)]]) := by
 refine bD Tryz.func78 Tryz.ntmps78 ?_;refine gc 14 ?_;refine cj (fun h1 => ?_) (fun h1 => ?_)
 ·refine kc 0 [3] 9 ?_;refine ed (.cb [.sl 15 (iV []), .agg [.v (.int .i64 2), .v (.int .i64 0)]]) ?_
  unfold eW; rw [if_pos (by omega)]
 refine kc 2 [3, 0] 3 ?_;refine oc (cv KF rfl rfl (vI s (by omega)) (an .nil) ?_);refine go 7 ?_;refine ed (.cb [.sl 15 (iV (eu s).1), .agg [.v (.int .i64 (eu s).2.1), .v (.int .i64 (eu s).2.2)]]) ?_
 unfold eW; rw [if_neg (by omega)]
end Go.Proofs.YtndbnldjidciiaaGreatDoor
namespace Go.Proofs.YtndbnldjidciiaaGreatDoor
open Go Go.Vd Go.RowKit
attribute [local irreducible] bl br de aj bI cY
variable {g gl : Nat → List D}
def JB (N : Nat) (out : Out) (ob' : List Ob) : Prop :=
 ∃ (es : List cq) (w : Bool) (n code at' : Int), out = .ret (.cb [.bZ 0 0, .d (.v (.int .i64 n)), .agg [.d (.v (.int .i64 code)), .d (.v (.int .i64 at'))]]) ∧ ob' = [aP es w, aN] ∧ gY es ∧ es.length ≤ N
theorem zY (ds : List dp) (hds : ∀ d ∈ ds, ∃ x : RD, d = x.dec ∧ As x) (hl : ds.length ≤ 200002) {most : Nat} (hm : most ≤ 1000000) :
 ey Tryz.prog gl 79 [] [.d (.sl 15 (iV ds)), .d (.v (.int .i64 most))] (JB 200002) := by
 have hdl := oM ds
 refine bS Tryz.func79 Tryz.ntmps79 0 ?_;refine kc 16 [7, 6, 0, 1] 0 ?_;refine bq 63 21 rfl ?_;refine gc 5 ?_;refine lp (ι := Nat × Bool × List cq) (fun ⟨i, w, es⟩ => [(8, int i)]) (fun ⟨i, w, es⟩ => [.cells [.d (.v (.int .i64 0)), .d (.v (.int .i64 0))] 78, Aa 2 es w, aN]) [7, 6, 0, 1] (fun ⟨i, w, es⟩ => i ≤ ds.length ∧ gY es ∧ es.length ≤ i) (fun ⟨i, w, es⟩ => ds.length - i) ((0, false, [])) ([0, 1, 2]) rfl ?I1 ?M1 ?H1
 case I1 =>
  exact ⟨Nat.zero_le _, gY.nil, Nat.zero_le _⟩
 case M1 =>
  refine mo ?_ (aH (aH (aH (aH (aH dF)))))
  repeat (first | exact cW | exact zX | refine bh ?_ | refine p6 ?_ | refine BU ?_ ?_ | refine an ?_ | refine .cons (.nil rfl) ?_)
 case H1 =>
  rintro ⟨i, w, es⟩ hinv
  try dsimp only at hinv
  refine kc 0 [8, 7, 6, 0, 1] 9 ?_;refine cJ (fun h3 => ?_) (fun h3 => ?_)
  ·refine kc 5 [7, 6, 0] 12 ?_;refine fR ?_;refine jS ⟨_, _, rfl, rfl, ⟨_, _, rfl, rfl, ⟨_, _, rfl, (fm rfl rfl xu rfl rfl rfl rfl), rfl⟩⟩⟩ [1, 2] (.cb [.bZ 0 0, .d (.v (.int .i64 (iV ds).length)), .agg [.d (.v (.int .i64 0)), .d (.v (.int .i64 0))]]) ([aP es w, aN]) rfl rfl rfl ?_ rfl ?_ ?_
   ·repeat (first | exact cW | refine bh ?_ | refine cu ?_)
   ·exact .refl _
   ·exact ⟨es, w, _, 0, 0, rfl, rfl, hinv.2.1, by omega⟩
  refine kc 5 [8, 7, 6, 0, 1] 0 ?_
  have hi : i < ds.length := (by omega)
  obtain ⟨x, hx1, hx2⟩ := hds _ (List.getElem_mem hi)
  have hget : ds[i]? = some x.dec := (by rw [List.getElem?_eq_getElem hi, hx1])
  have hadd := Ga (gl := gl) hinv.2.1 (by omega) x hx2 hm w
  refine gc 4 ?_;refine o1 (bV GB JX ?_ (he := by exact (FV hget)));refine go 2 ?_;refine oc (ay KE rfl rfl rfl rfl (hadd) [1, 2] (bh (cu .nil)) rfl rfl rfl rfl (an (bd (an .nil))) (fun s ob' hq => ?_) (fun s ob' hq => ?_))
  rotate_left
  ·obtain ⟨_, _, _, hq1, _⟩ := hq; cases hq1
  obtain ⟨code, w2, es2, hq1, rfl, hq3, hq4, hq5⟩ := hq; cases hq1; refine ⟨_, _, _, _, _, rfl, rfl, rfl, rfl, rfl, ?_⟩;refine ko 3 [9, 8, 7, 6, 0, 1] 6 ?_;refine cJ (fun h6 => ?_) (fun h6 => ?_)
  ·refine gc 5 ?_;refine o1 (cw ?_);refine go 2 ?_;refine bk (i + 1, w2, es2) rfl ?_ [0, 1, 2] mz
   ·refine ⟨⟨by omega, hq4, ?_⟩, show _ - (i + 1) < _ - i by omega⟩
    rcases hq5 with ⟨_, rp, rt, rfl⟩ | ⟨h, _⟩
    ·rw [List.length_append]; simp only [List.length_cons, List.length_nil]; omega
    ·omega
  refine kc 0 [9, 8, 7, 6] 18 ?_;refine fR ?_;refine jS ⟨_, _, rfl, rfl, ⟨_, _, rfl, rfl, ⟨_, _, rfl, (fm rfl rfl xu rfl rfl rfl rfl), rfl⟩⟩⟩ [1, 2] (.cb [.bZ 0 0, .d (.v (.int .i64 i)), .agg [.d (.v (.int .i64 code)), .d (.v (.int .i64 i))]]) ([aP es2 w2, aN]) rfl rfl rfl ?_ rfl ?_ ?_
  ·repeat (first | exact cW | refine bh ?_ | refine cu ?_)
  ·exact .refl _
  ·refine ⟨es2, w2, i, code, i, rfl, rfl, hq4, ?_⟩
   rcases hq5 with ⟨_, rp, rt, rfl⟩ | ⟨_, rfl⟩
   ·rw [List.length_append]; simp only [List.length_cons, List.length_nil]; omega
   ·omega
end Go.Proofs.YtndbnldjidciiaaGreatDoor
namespace Go.Proofs.YtndbnldjidciiaaGreatDoor
open Go Go.Vd Go.RowKit
attribute [local irreducible] bl br de aj bI cY
variable {g gl : Nat → List D}
theorem xw {l : List ByteArray} {i : Nat} (h : i < l.length) : (strs l)[((i : Nat) : Int).toNat]? = some [.v (.string (l.getD i .empty))] := by
 rw [fX h, List.getD_eq_getElem?_getD, List.getElem?_eq_getElem h]; rfl
theorem EL (t : ae) (hb : t.size ≤ 1099511627776) : cD Tryz.prog gl 18 [t.d, t.d] (· = .v (.bool true)) := by
 obtain ⟨k, m, s, ls, args, rfl⟩ := ae.case t
 have h := iM (gl := gl) k m s ls args k m s ls args hb
 rw [ae.jt] at h
 exact h
def mO (es : List cq) (w : Bool) : List Ob := [pE (es.map (·.d)), dR, .cz (jb es), Aa 4 es w, aN]
def E3 (x : Step) (e m : SV) : SV := .agg [.d (.v (.int .i64 x.k)), .d (.v (.string x.s)), .d (.v (.string x.t)), .d (.v (.string x.u)), .d (.v (.int .i64 x.a)), .d (.v (.int .i64 x.b)), e, m]
def Cu (x : Step) (e m : SV) : Ob := .cells [.d (.v (.int .i64 x.k)), .d (.v (.string x.s)), .d (.v (.string x.t)), .d (.v (.string x.u)), .d (.v (.int .i64 x.a)), .d (.v (.int .i64 x.b)), e, m] 34
variable {es : List cq}
theorem Ed (hF : gY es) (nm : ByteArray) : ∃ (ps : List ByteArray) (k n : Int) (s : ByteArray) (ls : List aJ) (args : List ae) (b : Bool), (ae.mk k n s ls args).size ≤ 1099511627776 ∧ ps.length ≤ 7 ∧
 (∀ ds, ey Tryz.prog gl 24 [pE ds, dR, .cz (jb es)] [.bZ 0 0, .d (.v (.string nm))] fun out ob' => out = .ret (.d (.cb [c6 ps, (ae.mk k n s ls args).d, .v (.bool b)])) ∧ ob' = [pE ds, dR, .cz (jb es)]) ∧
 (∀ ds, ey Tryz.prog gl 26 [pE ds, dR, .cz (jb es)] [.bZ 0 0, .d (.v (.string nm))] fun out ob' => out = .ret (.d (.v (.bool b))) ∧ ob' = [pE ds, dR, .cz (jb es)]) ∧
 (∀ w, ey Tryz.prog gl 25 [aP es w, aN] [.bZ 0 0, .d (.v (.string nm))] fun out ob' => out = .ret (.d (.cb [c6 ps, (ae.mk k n s ls args).d, .v (.bool b)])) ∧ ob' = [aP es w, aN]) := by
 have ht := fun w => rP (gl := gl) es w nm hF.ok.b hF.ok.k4
 rcases DA hF nm with ⟨h1, h2⟩ | ⟨w, d, ps, ty, num, h1, h2⟩
 ·rw [h1] at ht
  exact ⟨[], 0, 0, .empty, [], [], false, by decide, by decide, fun ds => AW ds _ nm h2, fun ds => yZ ds _ nm h2, ht⟩
 ·rw [h1] at ht
  have hw := yx hF.ok h1
  obtain ⟨k, n, s, ls, args, rfl⟩ := ae.case ty
  exact ⟨ps, k, n, s, ls, args, true, hw.2.2, hw.2.1, fun ds => AV ds _ nm h2, fun ds => yY ds _ nm h2, ht⟩
set_option maxHeartbeats 4000000 in
theorem DE (hF : gY es) (w : Bool) (x : Step) (hxs : x.s.size ≤ 1099511627776) :
 ey Tryz.prog gl 10 (mO es w) [E3 x (.bZ 0 0) (.bZ 3 0)] fun out ob' => out = .ret (.d (.v (.bool true))) ∧ ob' = mO es w := by
 have hpar := uL (gl := gl) x.s hxs
 have hel := hF.ok.len
 have hel2 := oH es
 have hdl : (es.map (·.d)).length = es.length := by simp
 have hdl2 := oM (es.map (·.d))
 have hpd := y0 (gl := gl) (es.map (·.d)) (jb es) (by omega)
 unfold mO
 refine bS Tryz.func10 Tryz.ntmps10 5 ?_;refine gc 11 ?_;refine oc (ay Lu rfl rfl rfl rfl (hpar) [] .nil rfl rfl rfl rfl (an .nil) (fun s ob' hq => ?_) (fun s ob' hq => ?_))
 rotate_left
 ·obtain ⟨_, hq1, _⟩ := hq; cases hq1
 obtain ⟨l0, hq1, rfl, hl0⟩ := hq; cases hq1; refine ⟨_, _, _, _, _, rfl, rfl, rfl, rfl, rfl, ?_⟩;refine ko 4 [3, 1] 6 ?_;refine lp (ι := Nat × List ByteArray) (fun ⟨i, l⟩ => [(4, int i), (3, .own 6 1 (strs l))]) (fun ⟨i, l⟩ => [pE (es.map (·.d)), dR, .cz (jb es), Aa 4 es w, aN, Cu x (.bZ 0 0) (.bZ 3 0), sR]) [1] (fun ⟨i, l⟩ => i ≤ es.length ∧ l.length ≤ 1099511627777 + i * 1000003) (fun ⟨i, l⟩ => es.length - i) ((0, l0)) ([0, 1, 2, 3, 4, 5, 6]) rfl ?I5 ?M5 ?H5
 case I5 =>
  exact ⟨Nat.zero_le _, by omega⟩
 case M5 =>
  exact mz
 case H5 =>
  rintro ⟨i, l⟩ hinv
  try dsimp only at hinv
  refine kc 0 [4, 3, 1] 14 ?_;refine cj (fun h3 => ?_) (fun h3 => ?_)
  ·refine kc 5 [4, 3, 1] 0 ?_
   obtain ⟨kd, sd, pd, k1, n1, s1, l1, a1, k2, n2, s2, l2', a2, ad, cd', rpd, k3, n3, s3, l3, a3, hget⟩ := tD (show i < es.length by omega)
   have heo := hF.ok.vU _ (List.mem_of_getElem? hget)
   have hcl := gd cd'
   have hcl3 : cd'.length ≤ 1000000 := heo.cl
   have hsz3 : sd.size ≤ 1000000 := heo.nm
   have hlst := bU l
   refine gc 8 ?_;refine o1 (wU vA xv ?_ (he := by exact (nI hget)));refine ko 6 [5, 4, 3, 1] 7 ?_;refine o1 (pY ?_ (hb := by (try simp only [ByteArray.size_append, ni, List.size_toArray, List.length_cons, List.length_nil]); omega));refine oc (gR ng [.tmp 46, .tmp 49] AB ?_);refine oc (nU ng ?_);refine ko 3 [3, 5, 4, 1] 6 ?_;refine lP (ι := Nat × List ByteArray) (fun ⟨j, l2⟩ => [(6, int j), (3, .own 6 1 (strs l2))]) [5, 4, 1] (fun ⟨j, l2⟩ => j ≤ cd'.length ∧ l2.length ≤ l.length + 2 + j) (fun ⟨j, l2⟩ => cd'.length - j) ((0, l ++ [sd] ++ [sd ++ tk])) rfl ?I6 ?M6 ?H6
   case I6 =>
    exact ⟨Nat.zero_le _, by simp⟩
   case M6 =>
    refine mo ?_ (aH (eh rfl (by exact Fit.of_eq (by rw [← gC, ← gC, List.append_assoc]; rfl)) (aH (aH (aH dF)))))
    repeat (first | exact cW | refine bh ?_ | refine cu ?_ | refine tr ?_)
   case H6 =>
    rintro ⟨j, l2⟩ hinv
    try dsimp only at hinv
    refine kc 0 [6, 3, 5, 4, 1] 10 ?_;refine cJ (fun h8 => ?_) (fun h8 => ?_)
    ·refine kc 6 [3, 4, 1] 2 ?_;refine o1 (cw ?_);refine go 2 ?_;refine bk (i + 1, l2) rfl ?_ [0, 1, 2, 3, 4, 5, 6] mz
     exact ⟨⟨by omega, by omega⟩, show _ - (i + 1) < _ - i by omega⟩
    refine kc 4 [6, 3, 5, 4, 1] 0 ?_
    obtain ⟨cN, cK, cM, cS, cL, cA, hgetc⟩ := kn (show j < cd'.length by omega)
    have hlst2 := bU l2
    have hinv2 := hinv
    refine gc 5 ?_;refine o1 (bV pG qc ?_ (he := by exact (gW hgetc)));refine go 2 ?_;refine oc (gR ng [.tmp 65] AB ?_);refine oc (nU ng ?_);refine ko 4 [3, 6, 5, 4, 1] 2 ?_;refine o1 (cw ?_);refine go 2 ?_;refine bi ((j + 1, l2 ++ [cN])) rfl ?_ ?_
    ·exact ⟨⟨by omega, by rw [List.length_append]; simp only [List.length_cons, List.length_nil]; omega⟩, show _ - (j + 1) < _ - j by omega⟩
    ·refine mo ?_ (aH (eh rfl (by exact Fit.of_eq (by rw [← gC]; rfl)) (aH (aH (aH dF)))))
     repeat (first | exact cW | refine bh ?_ | refine cu ?_ | refine tr ?_)
  refine kc 7 [3, 1] 0 ?_
  have hlst := bU l
  refine gc 5 ?_;refine lp (ι := Nat) (fun i => [(7, int i), (3, .own 6 1 (strs l))]) (fun i => [pE (es.map (·.d)), dR, .cz (jb es), Aa 4 es w, aN, Cu x (.bZ 0 0) (.bZ 3 0), sR]) [1] (fun i => i ≤ l.length) (fun i => l.length - i) (0) ([0, 1, 2, 3, 4, 5, 6]) rfl ?I7 ?M7 ?H7
  case I7 =>
   exact Nat.zero_le _
  case M7 =>
   exact mz
  case H7 =>
   rintro i hinv
   try dsimp only at hinv
   refine kc 0 [7, 3, 1] 2 ?_; obtain ⟨ps, k, n, s, ls, args, b, hbz, hbp, hb1, hb2, hb3⟩ := Ed (gl := gl) hF (l.getD i .empty)
   have hbn := uf (gl := gl) ps ps (by omega)
   have hbs := EL (gl := gl) (.mk k n s ls args) hbz
   refine gc 7 ?_;refine cJ (fun h12 => ?_) (fun h12 => ?_)
   ·refine kc 5 [1] 5 ?_;refine oc (ck Lr rfl rfl (hpd) [0, 1, 2] rfl (bh (cu (.cons rfl .cz .nil))) (an .nil) ?_);refine ko 4 [16, 1] 14 ?_;refine cj (fun h21 => ?_) (fun h21 => ?_)
    ·omega
    refine kc 3 [16, 1] 6 ?_;refine lP (ι := Nat) (fun i => [(17, int i)]) [16, 1] (fun i => i ≤ es.length) (fun i => es.length - i) (0) rfl ?I8 ?M8 ?H8
    case I8 =>
     exact Nat.zero_le _
    case M8 =>
     exact mz
    case H8 =>
     rintro i hinv
     try dsimp only at hinv
     refine kc 0 [17, 16, 1] 9 ?_;refine cJ (fun h24 => ?_) (fun h24 => ?_)
     ·refine kc 5 [] 6 ?_;refine eo (.v (.bool true)) [0, 1, 2, 3, 4] [pE (es.map (·.d)), dR, .cz (jb es), Aa 4 es w, aN] ?_
      ·exact ⟨rfl, rfl⟩
     refine kc 5 [17, 16, 1] 0 ?_
     obtain ⟨kd, sd, pd, k1, n1, s1, l1, a1, k2, n2, s2, l2', a2, ad, cd', rpd, k3, n3, s3, l3, a3, hget⟩ := tD (show i < es.length by omega)
     have heo := hF.ok.vU _ (List.mem_of_getElem? hget)
     have hgd : (es.map (·.d))[i]? = some (.mk kd sd pd (.mk k1 n1 s1 l1 a1) (.mk k2 n2 s2 l2' a2) ad cd') := (by rw [List.getElem?_map, hget]; rfl)
     have hsd := vF (gl := gl) kd sd pd k1 n1 s1 l1 a1 k2 n2 s2 l2' a2 ad cd' (Nat.le_trans heo.ty.2 (by decide)) (Nat.le_trans (hF.vz _ (List.mem_of_getElem? hget)) (by decide)) (fun c hc => Nat.le_trans (heo.cs c hc).2.1 (by decide)) (Nat.le_trans heo.ps (by decide)) (Nat.le_trans heo.cl (by decide))
     refine gz [0, 1] mixed ?_;refine A1 2 rfl (bV GB JX ⟨_, rfl, ?_⟩ (he := by exact (FV hgd)));refine ga [3, 4, 5, 6, 7, 8, 9, 10] ?_;refine A1 11 rfl (wU vA xv ⟨_, rfl, ?_⟩ (he := by exact (nI hget)));refine ga [12, 13] ?_;refine A2 14 rfl (cv Lq rfl rfl (hsd) (bd (bd .nil)) ?_);refine ga [15] ?_;refine aQ ?_;refine ke 1 [18, 17, 16, 1] 6 ?_;refine cf ?_;refine gc 5 ?_;refine o1 (cw ?_);refine go 2 ?_;refine bi (i + 1) rfl ?_ mz
     exact ⟨by omega, by omega⟩
   refine kc 5 [7, 3, 1] 0 ?_;refine xo (ι := Unit) (fun _ => [(8, .d (c6 ps)), (9, .bZ 7 0), (10, .d (.v (.bool b)))]) (fun _ => [pE (es.map (·.d)), dR, .cz (jb es), Aa 4 es w, aN, Cu x (.bZ 0 0) (.bZ 3 0), sR, tO k n s ls args]) [7, 3, 1] (fun _ => True) rfl ?A9 ?B9
   case A9 =>
    refine gz [0, 1, 2, 3, 4] mixed ?_;refine A1 5 rfl (wU jW lF ⟨_, rfl, ?_⟩ (he := by exact (xw (show i < l.length by omega))));refine ga [6] ?_;refine dj (rs := [7, 12]) (by kernel_rfl) rfl ⟨?_, ?_, trivial⟩
    ·skip
     refine A4 7 rfl (ck Kr rfl rfl (hb1 _) [0, 1, 2] rfl (bh (cu (.cons rfl .cz .nil))) (an (an .nil)) ?_);refine ga [8, 9, 10, 11] ?_;refine A2 12 rfl (tE bM ?_);refine ga [13] ?_;refine A2 14 rfl (eD bM ?_);refine ga [15] ?_;refine aQ ?_;refine bk () rfl ?_ [0, 1, 2, 3, 4, 5, 6, 7] mz
     trivial
    ·skip
     refine A4 12 rfl (tE bM ?_);refine A2 7 rfl (ck Kr rfl rfl (hb1 _) [0, 1, 2] rfl (bh (cu (.cons rfl .cz .nil))) (an (an .nil)) ?_);refine ga [8, 9, 10, 11, 13] ?_;refine A2 14 rfl (eD bM ?_);refine ga [15] ?_;refine aQ ?_;refine bk () rfl ?_ [0, 1, 2, 3, 4, 5, 6, 7] mz
     trivial
   case B9 =>
    rintro _ hcut
    try dsimp only at hcut
    refine kc 0 [8, 9, 10, 7, 3, 1] 1 ?_;refine xo (ι := Unit) (fun _ => [(11, .d (c6 ps)), (12, .bZ 8 0), (13, .d (.v (.bool b)))]) (fun _ => [pE (es.map (·.d)), dR, .cz (jb es), Aa 4 es w, aN, Cu x (.bZ 0 0) (.bZ 3 0), sR, tO k n s ls args, tO k n s ls args]) [8, 9, 10, 7, 3, 1] (fun _ => True) rfl ?A10 ?B10
    case A10 =>
     refine gz [0, 1, 2, 3, 4] mixed ?_;refine A1 5 rfl (wU jW lF ⟨_, rfl, ?_⟩ (he := by exact (xw (show i < l.length by omega))));refine ga [6] ?_;refine dj (rs := [7, 12]) (by kernel_rfl) rfl ⟨?_, ?_, trivial⟩
     ·skip
      refine A4 7 rfl (ck Hz rfl rfl (hb3 w) [3, 4] rfl (bh (cu .nil)) (an (an .nil)) ?_);refine ga [8, 9, 10, 11] ?_;refine A2 12 rfl (tE bM ?_);refine ga [13] ?_;refine A2 14 rfl (eD bM ?_);refine ga [15] ?_;refine aQ ?_;refine bk () rfl ?_ [0, 1, 2, 3, 4, 5, 6, 7, 8] mz
      trivial
     ·skip
      refine A4 12 rfl (tE bM ?_);refine A2 7 rfl (ck Hz rfl rfl (hb3 w) [3, 4] rfl (bh (cu .nil)) (an (an .nil)) ?_);refine ga [8, 9, 10, 11, 13] ?_;refine A2 14 rfl (eD bM ?_);refine ga [15] ?_;refine aQ ?_;refine bk () rfl ?_ [0, 1, 2, 3, 4, 5, 6, 7, 8] mz
      trivial
    case B10 =>
     rintro _ hcut
     try dsimp only at hcut
     refine kc 0 [11, 12, 13, 8, 9, 10, 7, 3, 1] 1 ?_;refine gz [0, 1, 2, 3, 4] mixed ?_;refine A1 5 rfl (wU jW lF ⟨_, rfl, ?_⟩ (he := by exact (xw (show i < l.length by omega))));refine ga [6] ?_;refine A2 7 rfl (ck Lt rfl rfl (hb2 _) [0, 1, 2] rfl (bh (cu (.cons rfl .cz .nil))) (an (an .nil)) ?_);refine ga [8] ?_;refine aQ ?_;refine ke 1 [14, 11, 12, 13, 8, 9, 10, 7, 3, 1] 4 ?_;refine oc (cv Ls rfl rfl (hbn) (an (an .nil)) ?_);refine ko 3 [15, 14, 12, 13, 9, 10, 7, 3, 1] 4 ?_;refine o1 (zW KW rfl rfl rfl ?_);refine go 1 ?_
     refine' oo (yt := 115) (d := 112) 3 ?a1 ?b1 ?_
     case a1 =>
      intro hc hK
      refine go 2 ?_;refine gy ?_;refine o1 (zW KW rfl rfl rfl ?_); exact hK [_, _, _] rfl rfl
     case b1 =>
      intro _ hK; refine go 3 ?_; exact hK [_, _, _] rfl
     refine go 1 ?_
     refine' oo (yt := 119) (d := 117) 2 ?a2 ?b2 ?_
     case a2 =>
      intro hc hK
      refine go 2 ?_; exact hK [_, _] rfl rfl
     case b2 =>
      intro _ hK; refine go 2 ?_; exact hK [_, _] rfl
     refine go 1 ?_
     refine' oo (yt := 128) (d := 121) 7 ?a3 ?b3 ?_
     case a3 =>
      intro hc hK
      refine go 2 ?_
      refine' oa (yt := 127) (d := 123) 4 ?a4 ?b4 ?_ (hg := .yes rfl rfl rfl rfl)
      case a4 =>
       intro hc hK
       refine go 2 ?_;refine gy ?_;refine oc (cv HA rfl rfl (hbs) (bd (bd .nil)) ?_);refine go 1 ?_; exact hK [_, _, _, _] rfl rfl
      case b4 =>
       intro _ hK; refine go 4 ?_; exact hK [_, _, _, _] rfl
      exact hK [_, _, _] rfl rfl
     case b3 =>
      intro _ hK; refine go 7 ?_; exact hK [_, _, _, _, _, _, _] rfl
     refine go 2 ?_;refine cj (fun h18 => ?_) (fun h18 => ?_)
     ·exfalso; simp at h18
     refine kc 3 [7, 3, 1] 2 ?_;refine o1 (cw ?_);refine go 2 ?_;refine bk (i + 1) rfl ?_ [0, 1, 2, 3, 4, 5, 6] mz
     exact ⟨by omega, by omega⟩
end Go.Proofs.YtndbnldjidciiaaGreatDoor
namespace Go.Proofs.YtndbnldjidciiaaGreatDoor
open Go Go.Vd Go.RowKit
attribute [local irreducible] bl br de aj bI cY
variable {g gl : Nat → List D}
def Lb (i j : Nat) (ds : List dp) : Ob := .cells [.own i 15 (iV ds), .map j] 98
def wO (a b : SV) : Ob := .cells [a, b] 32
theorem BV : cD Tryz.prog gl 8 [] (· = .v (.bool true)) := by
 refine bD Tryz.func8 Tryz.ntmps8 ?_;refine gc 7 ?_;refine oc (ck Kt rfl rfl (zl) [] rfl .nil .nil ?_);refine go 6 ?_;refine o1 (zQ JR rfl rfl ?_);refine go 4 ?_;refine ez ?_
 rfl
set_option maxHeartbeats 1600000 in
theorem sZ {es : List cq} (hF : gY es) (w : Bool) :
 ey Tryz.prog gl 46 [aP es w, aN] [.bZ 0 0] fun out ob' => out = .ret (.agg [.bZ 2 0, .bZ 0 0]) ∧ ob' = [aP es w, aN, Lb 3 4 (es.map (·.d)), dR, .cz (jb es)] := by
 have hel := hF.ok.len
 have hel2 := oH es
 refine bS Tryz.func46 Tryz.ntmps46 2 ?_;refine gc 7 ?_;refine oc (ck Kt rfl rfl (zl) [] rfl .nil .nil ?_);refine go 7 ?_;refine o1 (u7 JR ?_);refine go 2 ?_;refine cf ?_;refine kc 9 [4, 3, 2, 0] 0 ?_;refine lp (ι := Nat) (fun i => [(4, int i)]) (fun i => [aP es w, aN, wO (.d (.v (.pointer none))) (.d (.v (.pointer none))), Lb 4 5 ((es.take i).map (·.d)), dR, .cz (jb (es.take i))]) [3, 2, 0] (fun i => i ≤ es.length) (fun i => es.length - i) (0) ([0, 1, 2, 3, 4, 5]) rfl ?I1 ?M1 ?H1
 case I1 =>
  exact Nat.zero_le _
 case M1 =>
  exact mz
 case H1 =>
  rintro i hinv
  try dsimp only at hinv
  refine kc 0 [4, 3, 2, 0] 12 ?_;refine cJ (fun h5 => ?_) (fun h5 => ?_)
  ·refine kc 6 [3, 2, 0] 0 ?_; obtain rfl : i = es.length := (by omega)
   rw [List.take_length]
   refine gc 8 ?_;refine fR ?_;refine jS ⟨_, _, rfl, (fm rfl rfl GI rfl rfl rfl rfl), rfl⟩ [0, 1, 3, 4, 5] (.agg [.bZ 2 0, .bZ 0 0]) ([aP es w, aN, Lb 3 4 (es.map (·.d)), dR, .cz (jb es)]) rfl rfl rfl ?_ rfl ?_ ?_
   ·repeat (first | exact cW | refine bh ?_ | refine cu ?_ | refine tr ?_)
   ·exact .refl _
   ·exact ⟨rfl, rfl⟩
  refine kc 4 [4, 3, 2, 0] 0 ?_
  obtain ⟨kd, sd, pd, k1, n1, s1, l1, a1, k2, n2, s2, l2', a2, ad, cd', rpd, k3, n3, s3, l3, a3, hget⟩ := tD (show i < es.length by omega)
  have heo := hF.ok.vU _ (List.mem_of_getElem? hget)
  have htk : es.take (i + 1) = es.take i ++ [⟨.mk kd sd pd (.mk k1 n1 s1 l1 a1) (.mk k2 n2 s2 l2' a2) ad cd', rpd, .mk k3 n3 s3 l3 a3⟩] := (by rw [List.take_add_one, hget]; rfl)
  have htl : ((es.take i).map (·.d)).length ≤ 1000000 := (by rw [List.length_map, List.length_take]; omega)
  have hput := Dp (gl := gl) ((es.take i).map (·.d)) (jb (es.take i)) ⟨kd, sd, pd, k1, n1, s1, l1, a1, k2, n2, s2, l2', a2, ad, cd'⟩ heo.k heo.nm htl heo.cl rpd k3 n3 s3 l3 a3
  have hmp : (es.take (i + 1)).map (·.d) = (es.take i).map (·.d) ++ [RD.dec ⟨kd, sd, pd, k1, n1, s1, l1, a1, k2, n2, s2, l2', a2, ad, cd'⟩] := (by rw [htk, List.map_append]; rfl)
  have hmf : jb (es.take (i + 1)) = uh (jb (es.take i)) ⟨RD.dec ⟨kd, sd, pd, k1, n1, s1, l1, a1, k2, n2, s2, l2', a2, ad, cd'⟩, rpd, .mk k3 n3 s3 l3 a3⟩ := (by rw [htk, zq]; rfl)
  rw [← hmp, ← hmf] at hput
  refine gz [0, 1, 2, 3, 4, 5] mixed ?_;refine A1 6 rfl (wU vA xv ⟨_, rfl, ?_⟩ (he := by exact (nI hget)));refine ga [7, 8, 9, 10, 11, 12, 13] ?_;refine A1 14 rfl (wU vA xv ⟨_, rfl, ?_⟩ (he := by exact (nI hget)));refine ga [15, 16, 17, 18, 19, 20, 21] ?_;refine A1 22 rfl (wU vA xv ⟨_, rfl, ?_⟩ (he := by exact (nI hget)));refine ga [23, 24] ?_;refine A2 25 rfl (ck Lk rfl rfl (hput) [3, 4, 5] rfl (bh (cu (.cons rfl .cz .nil))) (an (bd (an (bd .nil)))) ?_);refine aQ ?_;refine ke 2 [4, 3, 2, 0] 2 ?_;refine o1 (cw ?_);refine go 2 ?_;refine bk (i + 1) rfl ?_ [0, 1, 2, 3, 4, 5] mz
  exact ⟨by omega, by omega⟩
variable {most : Nat}
theorem FK (s : ByteArray) (hm : most ≤ 1000000) (h0 : ¬ (eW s).2.1 = 0) :
 ey Tryz.prog (zJ g) 45 [] [.d (.v (.string s)), .d (.v (.int .i64 most))] fun out ob' => ∃ n c a : Int, out = .ret (.cb [.d (.v (.pointer none)), .d (.v (.int .i64 n)), .agg [.d (.v (.int .i64 c)), .d (.v (.int .i64 a))]]) ∧ ob' = [] := by
 have hpf := og (g := g) s
 rcases hP : eW s with ⟨ds, c1, c2⟩
 rw [hP] at hpf h0
 simp only at hpf h0
 refine bS Tryz.func45 Tryz.ntmps45 0 ?_;refine gc 10 ?_;refine oc (cv Kk rfl rfl (hpf) (an .nil) ?_);refine ko 9 [7, 8, 6, 1] 7 ?_;refine cJ (fun h2 => ?_) (fun h2 => ?_)
 ·contradiction
 refine kc 1 [8, 6] 0 ?_;refine gz [0, 1, 2] mixed ?_;refine A2 3 rfl (eD xu ?_);refine aQ ?_;refine ge 3 ?_;refine fR ?_;refine jS ⟨_, _, rfl, rfl, ⟨_, _, rfl, rfl, ⟨_, _, rfl, (fm rfl rfl xu rfl rfl rfl rfl), rfl⟩⟩⟩ [] (.cb [.d (.v (.pointer none)), .d (.v (.int .i64 0)), .agg [.d (.v (.int .i64 c1)), .d (.v (.int .i64 c2))]]) ([]) rfl rfl rfl ?_ rfl ?_ ?_
 ·exact cW
 ·exact .refl _
 ·exact ⟨_, _, _, rfl, rfl⟩
theorem DR (s : ByteArray) (hm : most ≤ 1000000) (h0 : (eW s).2.1 = 0) :
 ey Tryz.prog (zJ g) 45 [] [.d (.v (.string s)), .d (.v (.int .i64 most))] fun out ob' => ∃ (es : List cq) (w : Bool) (n c a : Int), out = .ret (.cb [.bZ 0 0, .d (.v (.int .i64 n)), .agg [.d (.v (.int .i64 c)), .d (.v (.int .i64 a))]]) ∧ ob' = [aP es w, aN] ∧ gY es ∧ es.length ≤ 200002 := by
 have hpf := og (g := g) s
 have hpre := @A0 s h0
 rcases hP : eW s with ⟨ds, c1, c2⟩
 rw [hP] at hpf hpre h0
 simp only at hpf hpre h0
 have hfo := zY (gl := zJ g) ds hpre.2 hpre.1 hm
 refine bS Tryz.func45 Tryz.ntmps45 0 ?_;refine gc 10 ?_;refine oc (cv Kk rfl rfl (hpf) (an .nil) ?_);refine ko 9 [7, 8, 6, 1] 7 ?_;refine cj (fun h2 => ?_) (fun h2 => ?_)
 ·contradiction
 refine kc 2 [7, 6, 1] 4 ?_;refine oc (ay Ll rfl rfl rfl rfl (hfo) [] .nil rfl rfl rfl rfl (an (an .nil)) (fun s ob' hq => ?_) (fun s ob' hq => ?_))
 rotate_left
 ·obtain ⟨_, _, _, _, _, hq1, _⟩ := hq; cases hq1
 obtain ⟨es, w, n, code, at', hq1, rfl, hq3, hq4⟩ := hq; cases hq1; refine ⟨_, _, _, _, _, rfl, rfl, rfl, rfl, rfl, ?_⟩;refine go 9 ?_;refine fR ?_;refine jS ⟨_, _, rfl, rfl, ⟨_, _, rfl, rfl, ⟨_, _, rfl, (fm rfl rfl xu rfl rfl rfl rfl), rfl⟩⟩⟩ [2, 3] (.cb [.bZ 0 0, .d (.v (.int .i64 n)), .agg [.d (.v (.int .i64 code)), .d (.v (.int .i64 at'))]]) ([aP es w, aN]) rfl rfl rfl ?_ rfl ?_ ?_
 ·repeat (first | exact cW | refine bh ?_ | refine cu ?_)
 ·exact .refl _
 ·exact ⟨es, w, n, _, _, rfl, rfl, hq3, hq4⟩
def BZ (out : Out) (ob' : List Ob) : Prop := ∃ (es : List cq) (w : Bool), gY es ∧ out = .ret (.agg [.bZ 0 0, .bZ 3 0]) ∧ ob' = mO es w
theorem Aw (s : ByteArray) (h0 : (eW s).2.1 = 0) : ey Tryz.prog (zJ g) 22 [] [.d (.v (.string s))] BZ := by
 have hfi := DR (g := g) s (most := 3000) (by decide) h0
 refine bS Tryz.func22 Tryz.ntmps22 0 ?_;refine gc 8 ?_;refine oc (ay Ko rfl rfl rfl rfl (hfi) [] .nil rfl rfl rfl rfl (an (an .nil)) (fun s ob' hq => ?_) (fun s ob' hq => ?_))
 rotate_left
 ·obtain ⟨_, _, _, _, _, hq1, _⟩ := hq; cases hq1
 obtain ⟨es, w, n, c, a, hq1, rfl, hF, hl⟩ := hq; cases hq1
 have hfl := sZ (gl := zJ g) hF w
 refine ⟨_, _, _, _, _, rfl, rfl, rfl, rfl, rfl, ?_⟩;refine ko 11 [3, 2] 3 ?_;refine o1 (u7 JQ ?_);refine go 2 ?_;refine cf ?_;refine gc 5 ?_;refine oc (ck Kn rfl rfl (hfl) [1, 2] rfl (bh (cu .nil)) (an .nil) ?_);refine go 4 ?_;refine fR ?_;refine jS ⟨_, _, rfl, (fm rfl rfl GI rfl rfl rfl rfl), rfl⟩ [4, 5, 6, 1, 2] (.agg [.bZ 0 0, .bZ 3 0]) (mO es w) rfl rfl rfl ?_ rfl ?_ ?_
 ·repeat (first | exact cW | refine bh ?_ | refine cu ?_ | refine tr ?_)
 ·exact .refl _
 ·exact ⟨es, w, hF, rfl, rfl⟩
theorem C8 (s : ByteArray) (h0 : ¬ (eW s).2.1 = 0) : ey Tryz.prog (zJ g) 22 [] [.d (.v (.string s))] BZ := by
 have hfi := FK (g := g) s (most := 3000) (by decide) h0
 have hfl := sZ (gl := zJ g) gY.nil false
 refine bS Tryz.func22 Tryz.ntmps22 0 ?_;refine gc 8 ?_;refine oc (ay Ko rfl rfl rfl rfl (hfi) [] .nil rfl rfl rfl rfl (an (an .nil)) (fun s ob' hq => ?_) (fun s ob' hq => ?_))
 rotate_left
 ·obtain ⟨_, _, _, hq1, _⟩ := hq; cases hq1
 obtain ⟨n, c, a, hq1, rfl⟩ := hq; cases hq1; refine ⟨_, _, _, _, _, rfl, rfl, rfl, rfl, rfl, ?_⟩;refine ko 11 [3, 2] 3 ?_;refine o1 (u6 JQ ?_);refine go 2 ?_;refine ct ?_;refine kc 7 [3, 2] 0 ?_;refine bq 63 21 rfl ?_;refine gc 2 ?_;refine oc (ck Kn rfl rfl (hfl) [2, 3] rfl (.cons rfl (.cells rfl (by repeat (first | exact zX | refine an ?_ | refine .cons (.nil rfl) ?_))) (p6 .nil)) (an .nil) ?_);refine go 4 ?_;refine fR ?_;refine jS ⟨_, _, rfl, (fm rfl rfl GI rfl rfl rfl rfl), rfl⟩ [4, 5, 6, 2, 3] (.agg [.bZ 0 0, .bZ 3 0]) (mO [] false) rfl rfl rfl ?_ rfl ?_ ?_
 ·repeat (first | exact cW | refine bh ?_ | refine cu ?_ | refine tr ?_)
 ·exact .refl _
 ·exact ⟨[], false, gY.nil, rfl, rfl⟩
theorem tH (s : ByteArray) : ey Tryz.prog (zJ g) 22 [] [.d (.v (.string s))] BZ := by
 by_cases h : (eW s).2.1 = 0
 ·exact Aw s h
 ·exact C8 s h
end Go.Proofs.YtndbnldjidciiaaGreatDoor
namespace Go.Proofs.YtndbnldjidciiaaGreatDoor
open Go Go.Vd Go.RowKit
attribute [local irreducible] bl br de aj bI cY
variable {g gl : Nat → List D}
def vG (b : Nat) : D := .v (.pointer (some ⟨b, 0, none⟩))
def kJ (dQ : List nV) (b1 b2 : Nat) : Prop := ∃ (k : Nat) (gI : List Pl) (es : List cq) (w : Bool), dQ[k]? = some ⟨mO es w, gI⟩ ∧ gY es ∧ gI[0]? = some (.loc b1) ∧ gI[3]? = some (.loc b2)
variable {dQ : List nV} {b1 b2 : Nat}
theorem kJ.more {its' : List nV} (h : kJ dQ b1 b2) (hm : ∀ (k : Nat) x, dQ[k]? = some x → its'[k]? = some x) : kJ its' b1 b2 := by
 obtain ⟨k, gI, es, w, h1, h2⟩ := h
 exact ⟨k, gI, es, w, hm _ _ h1, h2⟩
structure vt where
 x : Step
 b1 : Nat
 b2 : Nat
def vt.cells (e : vt) : List D := [.v (.int .i64 e.x.k), .v (.string e.x.s), .v (.string e.x.t), .v (.string e.x.u), .v (.int .i64 e.x.a), .v (.int .i64 e.x.b), vG e.b1, vG e.b2]
def od (l : List vt) : List (List D) := l.map vt.cells
theorem wI (l : List vt) : (od l).length = l.length := by simp [od]
theorem wJ (l : List vt) (e : vt) : od l ++ [e.cells] = od (l ++ [e]) := by simp [od]
def La : Ob := .row 34 8
theorem EX (dQ : List nV) (x : nV) : ∀ (k : Nat) y, dQ[k]? = some y → (dQ ++ [x])[k]? = some y := fun k y h => by
 rw [List.getElem?_append_left (List.getElem?_eq_some_iff.1 h).1]; exact h
variable {es : List cq} {w : Bool} {gI : List Pl}
theorem yW (hF : gY es) (h1 : gI[0]? = some (.loc b1)) (h2 : gI[3]? = some (.loc b2)) : kJ (dQ ++ [⟨mO es w, gI⟩]) b1 b2 :=
 ⟨dQ.length, gI, es, w, by simp, hF, h1, h2⟩
set_option maxHeartbeats 1600000 in
theorem yX (l : List Step) (hl : l.length ≤ 1048576) :
 ey Tryz.prog (zJ g) 9 [] [.d (.sl 6 (steps l)), .d (.v (.int .i64 5))] fun out ob' => ∃ (dQ : List nV) (els : List vt), out = .ret (.d (.sl 8 (od els))) ∧ ob' = [da dQ] ∧ els.length ≤ l.length ∧ ∀ e ∈ els, kJ dQ e.b1 e.b2 ∧ e.x ∈ l := by
 have hsl := q8 l
 refine bS Tryz.func9 Tryz.ntmps9 0 ?_;refine gc 11 ?_;refine AO rfl ?_;refine gc 1 ?_;refine oc (ay Ks rfl rfl rfl rfl (tH (g := g) .empty) [] .nil rfl rfl rfl rfl (an .nil) (fun s ob' hq => ?_) (fun s ob' hq => ?_))
 rotate_left
 ·obtain ⟨_, _, _, hq1, _⟩ := hq; cases hq1
 obtain ⟨es, w, hF, hq1, rfl⟩ := hq; cases hq1; refine ⟨_, _, _, _, _, rfl, rfl, rfl, rfl, rfl, ?_⟩;refine Cz (t := 8) (pi := 0) (dQ := []) (ix := [1, 2, 3, 4, 5]) (k1 := 0) (k2 := 3) (mO es w) rfl (.cons rfl (.cells rfl (ia.rfl _)) (.cons rfl .row (.cons rfl .cz (.cons rfl (.cells rfl (ia.rfl _)) (.cons rfl .row .nil))))) rfl rfl rfl rfl rfl (fun x => rfl) rfl rfl rfl ?_
 intro gI b1 b2 hpl hb1 hb2; refine ko 11 [7, 6, 5, 0, 1] 0 ?_;refine bq 34 8 rfl ?_;refine lp (ι := Nat × List nV × List vt × Nat × Nat) (fun ⟨i, dQ, els, c1, c2⟩ => [(7, int i), (5, .own 2 8 (od els)), (6, .bZ 1 0)]) (fun ⟨i, dQ, els, c1, c2⟩ => [da dQ, wO (.d (vG c1)) (.d (vG c2)), La]) [0, 1] (fun ⟨i, dQ, els, c1, c2⟩ => i ≤ l.length ∧ els.length ≤ i ∧ kJ dQ c1 c2 ∧ ∀ e ∈ els, kJ dQ e.b1 e.b2 ∧ e.x ∈ l) (fun ⟨i, dQ, els, c1, c2⟩ => l.length - i) ((0, [] ++ [⟨mO es w, gI⟩], [], b1, b2)) ([0, 6, 7]) rfl ?I2 ?M2 ?H2
 case I2 =>
  exact ⟨Nat.zero_le _, Nat.zero_le _, yW hF hb1 hb2, fun e he => by cases he⟩
 case M2 =>
  refine mo ?_ (aH (eh rfl (by exact Fit.nil rfl) (aH (aH (aH dF)))))
  repeat (first | exact cW | refine bh ?_ | refine Ee ?_ | refine p6 ?_)
 case H2 =>
  rintro ⟨i, dQ, els, c1, c2⟩ hinv
  try dsimp only at hinv
  refine kc 0 [7, 5, 6, 0, 1] 8 ?_
  refine' oa (yt := 15) (d := 13) 2 ?a1 ?b1 ?_
  case a1 =>
   intro hc hK
   refine go 2 ?_; exact hK [_, _] rfl rfl
  case b1 =>
   intro _ hK; refine go 2 ?_; exact hK [_, _] rfl
  refine go 2 ?_;refine cJ (fun h4 => ?_) (fun h4 => ?_)
  ·refine kc 5 [5] 7 ?_;refine eo (.sl 8 (od els)) [0] [da dQ] ?_
   ·exact ⟨dQ, els, rfl, rfl, by omega, hinv.2.2.2⟩
  refine kc 3 [7, 5, 6, 0, 1] 0 ?_;refine xo (ι := List nV × Nat × Nat × List vt) (fun ⟨its2, c3, c4, els2⟩ => [(5, .own 2 8 (od els2))]) (fun ⟨its2, c3, c4, els2⟩ => [da its2, wO (.d (vG c3)) (.d (vG c4)), La]) [7, 6, 0, 1] (fun ⟨its2, c3, c4, els2⟩ => kJ its2 c3 c4 ∧ els2.length ≤ i + 1 ∧ ∀ e ∈ els2, kJ its2 e.b1 e.b2 ∧ e.x ∈ l) rfl ?A3 ?B3
  case A3 =>
   refine gc 3 ?_
   have hi : i < l.length := (by omega)
   have hmem : l[i] ∈ l := List.getElem_mem hi
   obtain ⟨hi1, hi2, hi3, hi4⟩ := hinv; refine gc 3 ?_;refine o1 (bV Ay GJ ?_ (he := by exact (tv hi)));refine ko 5 [24, 7, 5, 6, 0, 1] 0 ?_;refine xo (ι := List nV × Nat × Nat) (fun ⟨its2, c3, c4⟩ => []) (fun ⟨its2, c3, c4⟩ => [da its2, wO (.d (vG c3)) (.d (vG c4)), La]) [7, 5, 6, 0, 1] (fun ⟨its2, c3, c4⟩ => kJ its2 c3 c4 ∧ ∀ (k : Nat) x, dQ[k]? = some x → its2[k]? = some x) rfl ?A4 ?B4
   case A4 =>
    refine cJ (fun h6 => ?_) (fun h6 => ?_)
    ·refine gc 1 ?_;refine bk (dQ, c1, c2) rfl ?_ [0, 1, 2] mz
     exact ⟨hi3, fun _ _ h => h⟩
    refine gc 3 ?_;refine o1 (bV Ay GJ ?_ (he := by exact (tv hi)));refine go 2 ?_;refine oc (ay Ks rfl rfl rfl rfl (tH (g := g) l[i].s) [] .nil rfl rfl rfl rfl (an .nil) (fun s ob' hq => ?_) (fun s ob' hq => ?_))
    rotate_left
    ·obtain ⟨_, _, _, hq1, _⟩ := hq; cases hq1
    obtain ⟨es2, w2, hF2, hq1, rfl⟩ := hq; cases hq1; refine ⟨_, _, _, _, _, rfl, rfl, rfl, rfl, rfl, ?_⟩;refine Cz (t := 30) (pi := 0) (dQ := dQ) (ix := [3, 4, 5, 6, 7]) (k1 := 0) (k2 := 3) (mO es2 w2) rfl (.cons rfl (.cells rfl (ia.rfl _)) (.cons rfl .row (.cons rfl .cz (.cons rfl (.cells rfl (ia.rfl _)) (.cons rfl .row .nil))))) rfl rfl rfl rfl rfl (fun x => rfl) rfl rfl rfl ?_
    intro pls2 d1 d2 hpl2 hd1 hd2; refine go 2 ?_;refine bk (dQ ++ [⟨mO es2 w2, pls2⟩], d1, d2) rfl ?_ [0, 1, 2] mz
    exact ⟨yW hF2 hd1 hd2, EX _ _⟩
   case B4 =>
    rintro ⟨its2, c3, c4⟩ hcut
    try dsimp only at hcut
    refine kc 0 [7, 5, 6, 0, 1] 1 ?_; obtain ⟨hg2, hmore⟩ := hcut
    have hpl9 := wI els
    have hold : ∀ e ∈ els, kJ its2 e.b1 e.b2 ∧ e.x ∈ l := fun e he => ⟨(hi4 e he).1.more hmore, (hi4 e he).2⟩
    refine gc 3 ?_;refine o1 (bV Ay GJ ?_ (he := by exact (tv hi)));refine go 6 ?_;refine cJ (fun h8 => ?_) (fun h8 => ?_)
    ·refine gc 2 ?_;refine bk ((its2, c3, c4, els)) rfl ?_ ([0, 1, 2]) ?_
     ·exact ⟨hg2, by omega, hold⟩
     ·refine mo ?_ (eh rfl (by first | exact Fit.of_eq rfl | exact Fit.of_eq (by rw [← wJ]; rfl)) (aH (aH (aH (aH dF)))))
      repeat (first | exact cW | refine bh ?_ | refine cu ?_ | refine Ee ?_)
    refine kp [7, 5, 6, 0, 1] ?_;refine gz [0, 1, 2] mixed ?_;refine A1 3 rfl (bV Ay GJ ⟨_, rfl, ?_⟩ (he := by exact (tv hi)));refine ga [4, 5, 6] ?_;refine A2 7 rfl (gR J0 [.tmp 44] JU ?_);refine A2 8 rfl (nU J0 ?_);refine ga [9] ?_;refine aQ ?_;refine ge 1 ?_;refine bk ((its2, c3, c4, els ++ [⟨l[i], c3, c4⟩])) rfl ?_ ([0, 1, 2]) ?_
    ·refine ⟨hg2, by rw [List.length_append]; simp only [List.length_cons, List.length_nil]; omega, fun e he => ?_⟩
     rcases List.mem_append.1 he with he | he
     ·exact hold e he
     ·simp only [List.mem_singleton] at he; subst he; exact ⟨hg2, hmem⟩
    ·refine mo ?_ (eh rfl (by first | exact Fit.of_eq rfl | exact Fit.of_eq (by rw [← wJ]; rfl)) (aH (aH (aH (aH dF)))))
     repeat (first | exact cW | refine bh ?_ | refine cu ?_ | refine Ee ?_)
  case B3 =>
   rintro ⟨its2, c3, c4, els2⟩ hcut
   try dsimp only at hcut
   refine kc 0 [5, 7, 6, 0, 1] 2 ?_;refine o1 (cw ?_);refine go 2 ?_;refine bk (i + 1, its2, els2, c3, c4) rfl ?_ [0, 1, 2] mz
   exact ⟨⟨by omega, hcut.2.1, hcut.1, hcut.2.2⟩, show _ - (i + 1) < _ - i by omega⟩
theorem Dq {x : Step} (h1 : gI[0]? = some (.loc b1)) (h2 : gI[3]? = some (.loc b2)) (m : Mem) (gs : List Pl) (vs : List Value) (h : bj ⟨m, gs⟩ [E3 x (.d (vG b1)) (.d (vG b2))] vs) : bj ⟨m, gI⟩ [E3 x (.bZ 0 0) (.bZ 3 0)] vs := by
 obtain ⟨v, _, rfl, ⟨us, rfl, x1, _, rfl, e1, x2, _, rfl, e2, x3, _, rfl, e3, x4, _, rfl, e4, x5, _, rfl, e5, x6, _, rfl, e6, x7, _, rfl, e7, x8, _, rfl, e8, e9⟩, rfl⟩ := h
 exact ⟨_, _, rfl, ⟨_, rfl, x1, _, rfl, e1, x2, _, rfl, e2, x3, _, rfl, e3, x4, _, rfl, e4, x5, _, rfl, e5, x6, _, rfl, e6, x7, _, rfl, ⟨b1, h1, e7⟩, x8, _, rfl, ⟨b2, h2, e8⟩, e9⟩, rfl⟩
theorem Fu {k : Nat} {w' : Bool} {pls' : List Pl} (hk : dQ[k]? = some ⟨mO es w, gI⟩) (hF : gY es) (hp : ∀ (j b : Nat), j < (mO es w).length → gI[j]? = some (.loc b) → pls'[j]? = some (.loc b)) (h : kJ dQ b1 b2) : kJ (dQ.set k ⟨mO es w', pls'⟩) b1 b2 := by
 obtain ⟨k2, pls2, es2, w2, h1, h2, h3, h4⟩ := h
 by_cases he : k2 = k
 ·subst he
  rw [hk] at h1
  have h5 : gI = pls2 := (nV.mk.inj (Option.some.inj h1)).2
  subst h5
  exact ⟨k2, pls', es, w', List.getElem?_set_self (List.getElem?_eq_some_iff.1 hk).1, hF, hp 0 b1 (by simp [mO]) h3, hp 3 b2 (by simp [mO]) h4⟩
 ·exact ⟨k2, pls2, es2, w2, by rw [List.getElem?_set_ne (Ne.symm he)]; exact h1, h2, h3, h4⟩
theorem GU {l : List vt} {i : Nat} (h : i < l.length) : (od l)[((i : Nat) : Int).toNat]? = some (l[i].cells) := by simp [od, h]
set_option maxHeartbeats 1600000 in
theorem Bl (l : List Step) (hl : l.length ≤ 1048576) (hs : ∀ x ∈ l, x.s.size ≤ 1048576) : cD Tryz.prog (zJ g) 3 [.sl 6 (steps l)] (· = .v (.bool true)) := by
 refine bD Tryz.func3 Tryz.ntmps3 ?_;refine gc 8 ?_;refine oc (cv Ma rfl rfl (BV) .nil ?_);refine go 3 ?_;refine cf ?_;refine gc 5 ?_;refine oc (ay L9 rfl rfl rfl rfl (yX (g := g) l hl) [] .nil rfl rfl rfl rfl (an (an .nil)) (fun s ob' hq => ?_) (fun s ob' hq => ?_))
 rotate_left
 ·obtain ⟨_, _, hq1, _⟩ := hq; cases hq1
 obtain ⟨its0, els, hq1, rfl, hel, hgood0⟩ := hq; cases hq1
 have hpl9 := wI els
 refine ⟨_, _, _, _, _, rfl, rfl, rfl, rfl, rfl, ?_⟩;refine ko 4 [3] 6 ?_;refine lp (ι := Nat × List nV) (fun ⟨i, dQ⟩ => [(4, int i)]) (fun ⟨i, dQ⟩ => [da dQ]) [3] (fun ⟨i, dQ⟩ => i ≤ els.length ∧ ∀ e ∈ els, kJ dQ e.b1 e.b2) (fun ⟨i, dQ⟩ => els.length - i) ((0, its0)) ([0]) rfl ?I5 ?M5 ?H5
 case I5 =>
  exact ⟨Nat.zero_le _, fun e he => (hgood0 e he).1⟩
 case M5 =>
  exact mz
 case H5 =>
  rintro ⟨i, dQ⟩ hinv
  try dsimp only at hinv
  refine kc 0 [4, 3] 9 ?_;refine cJ (fun h5 => ?_) (fun h5 => ?_)
  ·refine kc 5 [] 6 ?_;refine ez ?_
   rfl
  refine kc 5 [4, 3] 0 ?_
  have hi : i < els.length := (by omega)
  obtain ⟨kk, gI, es, w, hk, hF, hb1, hb2⟩ := hinv.2 _ (List.getElem_mem hi)
  have hxs := hs _ (hgood0 _ (List.getElem_mem hi)).2
  have hkl := DE (gl := zJ g) hF w els[i].x (by omega)
  refine gc 3 ?_;refine o1 (bV JO K6 ?_ (he := by exact (GU hi)));refine go 1 ?_;refine oc (Fa Lv rfl rfl rfl rfl (pi := 0) (x := ⟨mO es w, gI⟩) rfl hk rfl hkl (Dq hb1 hb2) (fun y => rfl) (fun s ob' hq => ⟨_, by cases hq.1; rfl⟩) (fun s ob' hq => by cases hq.1) ?_)
  rintro d ob' pls' ⟨hq1, rfl⟩ hkeep
  cases hq1; refine ko 3 [5, 4, 3] 6 ?_;refine cf ?_;refine gc 5 ?_;refine o1 (cw ?_);refine go 2 ?_;refine bk (i + 1, dQ.set kk ⟨mO es w, pls'⟩) rfl ?_ [0] mz
  exact ⟨⟨by omega, fun e he => Fu hk hF hkeep (hinv.2 e he)⟩, show _ - (i + 1) < _ - i by omega⟩
end Go.Proofs.YtndbnldjidciiaaGreatDoor
namespace Go.Proofs.YtndbnldjidciiaaGreatDoor
open Go Go.Vd Go.RowKit Go.ChangeShapes Go.WideShapes Go.ChangeAt
theorem own : ownKnob Tryz.prog.godebug = none := by kernel_rfl
theorem one_le {H : Type} (d : DataW H) : 1 ≤ Rows.uptoBulk d := by
 cases d with
 | lit l => cases l <;> simp [Rows.uptoBulk]
 | nil => simp [Rows.uptoBulk]
 | ptr d => simp [Rows.uptoBulk]
 | slice elems spare => simp [Rows.uptoBulk]
 | agg parts => simp [Rows.uptoBulk]
 | iface t d => simp [Rows.uptoBulk]
 | map entries => simp [Rows.uptoBulk]
 | held h => simp [Rows.uptoBulk]
theorem Cw {H : Type} {d : DataW H} {l : List (DataW H)} (h : d ∈ l) : Rows.uptoBulk d ≤ Rows.uptoBulkAll l := by
 induction l with
 | nil => cases h
 | cons x r ih =>
  simp only [Rows.uptoBulkAll]
  cases List.mem_cons.1 h with
  | inl e => subst e; omega
  | inr e => have := ih e; omega
theorem length_le {H : Type} (l : List (DataW H)) : l.length ≤ Rows.uptoBulkAll l := by
 induction l with
 | nil => simp [Rows.uptoBulkAll]
 | cons x r ih => have := one_le x; simp only [Rows.uptoBulkAll, List.length_cons]; omega
section
variable {H : Type} {enc : TypeId × Value → H} {W : World} {sp : Nat → Bool} {hd : Bool}
variable {v : Value} {fuel : Nat}
set_option maxRecDepth 100000 in
theorem tj {x : DataW H × List MemPlace} (h : DataW.trod enc Tryz.prog W 0 sp hd fuel 22 v.cells.toList = some x) (hv : v.oneCell' = true) :
 ∃ l : List Step, (D.sl 6 (steps l)).Den (qw W) v ∧ l.length ≤ Rows.uptoBulk x.1 ∧ ∀ o ∈ l, o.s.size ≤ Rows.uptoBulk x.1 := by
 have hu := Ay
 have he : (bc Tryz.prog 22).elem = 28 := by rw [K5]
 rw [he] at hu
 have c25 : Tryz.prog.cellsOf 28 = 6 := by kernel_rfl
 have c3 : Tryz.prog.cellsOf 3 = 1 := by kernel_rfl
 have c9 : Tryz.prog.cellsOf 9 = 1 := by kernel_rfl
 rw [Value.xj hv] at h
 rcases DataW.trod_slice hu h with ⟨h1, _⟩ | ⟨a, len, cap, elems, rest, n, rfl, h1, ex, _, h2, _, h3, h4, _⟩
 ·simp at h1; subst h1
  exact ⟨[], ⟨none, 0, rfl, by simp [steps], fun hn => absurd rfl hn⟩, by simp, by simp⟩
 ·simp at h1; subst h1
  have key : ∀ i, i < len → ∃ st : Step, st.s.size ≤ Rows.uptoBulk x.1 ∧ ∀ (j : Nat) y, st.cells[j]? = some y → ∃ u, W.cell? (a.add (i * 6) |>.add j) = some u ∧ u.oneCell' = true ∧ ∀ m, y.Den m u := by
   intro i hi
   have := h4 i hi
   rw [c25, List.getElem?_eq_getElem (by omega)] at this
   obtain ⟨cs, hcs, hst⟩ := Option.bind_eq_some_iff.1 this
   obtain ⟨_, hlen, hcell⟩ := World.cells?_some hcs
   obtain ⟨xs, n', rfl, exs, _, hxl, hf⟩ := DataW.trod_struct Tryz.underlying28 hst
   have hx6 : xs.length = 6 := hxl
   have f0 := hf 0 _ rfl
   have f1 := hf 1 _ rfl
   have f2 := hf 2 _ rfl
   have f3 := hf 3 _ rfl
   have f4 := hf 4 _ rfl
   have f5 := hf 5 _ rfl
   rw [List.getElem?_eq_getElem (by omega)] at f0 f1 f2 f3 f4 f5
   match cs, hlen with
   | [x0, x1, x2, x3, x4, x5], _ =>
    have g0 : DataW.trod enc Tryz.prog W 0 sp hd n' 3 (([x0, x1, x2, x3, x4, x5].drop 0).take (Tryz.prog.cellsOf 3)) = some xs[0] := f0
    rw [c3] at g0
    have g1 : DataW.trod enc Tryz.prog W 0 sp hd n' 9 (([x0, x1, x2, x3, x4, x5].drop 1).take (Tryz.prog.cellsOf 9)) = some xs[1] := f1
    rw [c9] at g1
    have g2 : DataW.trod enc Tryz.prog W 0 sp hd n' 9 (([x0, x1, x2, x3, x4, x5].drop 2).take (Tryz.prog.cellsOf 9)) = some xs[2] := f2
    rw [c9] at g2
    have g3 : DataW.trod enc Tryz.prog W 0 sp hd n' 9 (([x0, x1, x2, x3, x4, x5].drop 3).take (Tryz.prog.cellsOf 9)) = some xs[3] := f3
    rw [c9] at g3
    have g4 : DataW.trod enc Tryz.prog W 0 sp hd n' 3 (([x0, x1, x2, x3, x4, x5].drop 4).take (Tryz.prog.cellsOf 3)) = some xs[4] := f4
    rw [c3] at g4
    have g5 : DataW.trod enc Tryz.prog W 0 sp hd n' 3 (([x0, x1, x2, x3, x4, x5].drop 5).take (Tryz.prog.cellsOf 3)) = some xs[5] := f5
    rw [c3] at g5
    obtain ⟨k, e0, _⟩ := oC (k := 0) g0
    obtain ⟨s, e1, es1, _⟩ := DataW.trod_string rO g1
    obtain ⟨t, e2⟩ := rV g2
    obtain ⟨u, e3⟩ := rV g3
    obtain ⟨a', e4, i4⟩ := oC (k := 0) g4
    obtain ⟨b', e5, i5⟩ := oC (k := 0) g5
    simp only [List.drop_zero, List.drop_succ_cons, List.take_succ_cons, List.take_zero, List.cons.injEq, and_true] at e0 e1 e2 e3 e4 e5
    subst e0 e1 e2 e3 e4 e5
    have hbd : s.size ≤ Rows.uptoBulk x.1 := by
     have q1 := Cw (List.mem_map_of_mem (f := (·.1)) (List.getElem_mem (show 1 < xs.length by omega)))
     have q2 := Cw (List.mem_map_of_mem (f := (·.1)) (List.getElem_mem (show i < elems.length by omega)))
     rw [es1] at q1
     rw [exs] at q2
     rw [ex]
     simp only [Rows.uptoBulk] at q1 q2 ⊢
     have q3 : s.data.toList.length = s.size := rfl
     omega
    refine ⟨⟨k, s, t, u, a', b'⟩, hbd, fun j y hy => ?_⟩
    have hj : j < 6 := by have := (List.getElem?_eq_some_iff.1 hy).1; simpa [Step.cells] using this
    rw [hcell j hj]
    match j, hj with
    | 0, _ => simp [Step.cells] at hy; subst hy; exact ⟨_, rfl, rfl, fun m => rfl⟩
    | 1, _ => simp [Step.cells] at hy; subst hy; exact ⟨_, rfl, rfl, fun m => rfl⟩
    | 2, _ => simp [Step.cells] at hy; subst hy; exact ⟨_, rfl, rfl, fun m => rfl⟩
    | 3, _ => simp [Step.cells] at hy; subst hy; exact ⟨_, rfl, rfl, fun m => rfl⟩
    | 4, _ => simp [Step.cells] at hy; subst hy; exact ⟨_, rfl, rfl, fun m => rfl⟩
    | 5, _ => simp [Step.cells] at hy; subst hy; exact ⟨_, rfl, rfl, fun m => rfl⟩
  obtain ⟨l, hl, hp⟩ := z9 key
  refine ⟨l, ⟨some a, cap, by rw [q8, hl], by rw [q8, hl]; exact h2, fun hn => ?_⟩, ?_, fun o ho => ?_⟩
  ·have hl0 : 0 < l.length := List.length_pos_iff.2 fun e => hn (by simp [steps, e])
   have hsp : a.spot = none := by
    obtain ⟨_, hc⟩ := hp 0 l[0] (by simp [hl0])
    obtain ⟨u, hu, _⟩ := hc 0 _ rfl
    simp only [Nat.zero_mul] at hu
    have e : (a.add 0).add 0 = a := by simp [Addr.add]
    rw [e] at hu
    exact World.cell?_spot hu
   obtain ⟨ab, ao, KV⟩ := a
   simp only at hsp; subst hsp
   refine ⟨ab, ao, rfl, yj Step.cells fun i st hst => ⟨rfl, ?_⟩⟩
   obtain ⟨_, hc⟩ := hp i st hst
   have : ∀ j y, st.cells[j]? = some y → ∃ u, qw W ab (ao + i * 6 + j) = some u ∧ y.Den (qw W) u := fun j y hy => by
    obtain ⟨u, h5, h6, h7⟩ := hc j y hy
    rw [eS, eS] at h5
    exact ⟨u, xQ h5 h6, h7 _⟩
   exact ⟨this 0 _ rfl, this 1 _ rfl, this 2 _ rfl, this 3 _ rfl, this 4 _ rfl, this 5 _ rfl, trivial⟩
  ·rw [hl, ← h3, ex]
   have := length_le (elems.map (·.1))
   simp only [Rows.uptoBulk, List.length_map] at this ⊢
   omega
  ·obtain ⟨i, hi, e⟩ := List.mem_iff_getElem.1 ho
   exact (hp i o (by rw [List.getElem?_eq_getElem hi, e])).1
end
def LF : Nat → List D := zJ fun _ => []
theorem Fw {w : World} (h0 : ej (qw w) 0 0 [c6 eA]) : ∀ b, ej (qw w) b 0 (LF b)
 | 0 => h0
 | _ + 1 => trivial
def Fe (s : ByteArray) : DataW Unit := .lit (.string s.data.toList)
variable {v : Value}
theorem GN {W : World} {n : Nat} {x : DataW Unit × List MemPlace} {s : ByteArray} {sp : Nat → Bool} {hd : Bool} (h : DataW.trod (fun _ => ()) Tryz.prog W 0 sp hd n 9 [v] = some x) (hx : x.1 = Fe s) : v = .string s := by
 obtain ⟨s', h1, h2, _⟩ := DataW.trod_string rO h
 simp only [List.cons.injEq, and_true] at h1
 subst h1 h2
 simp only [Fe, DataW.lit.injEq, Lit.string.injEq] at hx
 congr 1
 exact ByteArray.ext (Array.ext' hx)
theorem G1 {elems : List (DataW Unit × List MemPlace)} (h : elems.map (·.1) = eA.map Fe) {i : Nat} (hi : i < eA.length) : ∃ x, elems[i]? = some x ∧ x.1 = Fe eA[i] := by
 have hl := congrArg List.length h
 simp only [List.length_map] at hl
 have h1 := congrArg (fun l => l[i]?) h
 simp only [List.getElem?_map] at h1
 rw [List.getElem?_eq_getElem (show i < elems.length by omega), List.getElem?_eq_getElem hi] at h1
 exact ⟨elems[i], List.getElem?_eq_getElem (by omega), Option.some.inj h1⟩
variable {fuel : Nat}
theorem Di {W : World} {cs : Array Value} {p : List MemPlace} (hv : Tryz.prog.globalNamed "provekernel/provekernelref.words" = some 0) (hw : W.var? Tryz.prog "provekernel/provekernelref.words" = some cs)
 (hd : DataW.trod (fun _ => ()) Tryz.prog W 0 (fun _ => true) false fuel 57 cs.toList = some (Rows.laid_provekernel_provekernelref_words, p)) : ej (qw W) 0 0 [c6 eA] := by
 have hcell := fun i => World.var?_cell hv hw i
 have hu := jW
 have he : (bc Tryz.prog 57).elem = 9 := by rw [GH]
 rw [he] at hu
 have c9 : Tryz.prog.cellsOf 9 = 1 := by kernel_rfl
 have hwl : eA.length = 7 := rfl
 rcases DataW.trod_slice hu hd with ⟨_, h1⟩ | ⟨a, len, cap, elems, rest, n, _, hcs, ex, _, h2, _, h3, h4, _⟩
 ·exact absurd (congrArg Prod.fst h1) (by intro h; cases h)
 ·have Lg : (DataW.slice (eA.map Fe) [] : DataW Unit) = .slice (elems.map (·.1)) (rest.map (·.1)) := congrArg Prod.fst ex
  have KT := (DataW.slice.inj Lg).1.symm
  have hel : elems.length = 7 := by have := congrArg List.length KT; simpa [hwl] using this
  have key : ∀ i : Nat, (hi : i < eA.length) → W.cell? (a.add (i * 1)) = some (.string eA[i]) := fun i hi => by
   obtain ⟨x, hx1, hx2⟩ := G1 KT hi
   have := h4 i (by omega)
   rw [c9, hx1] at this
   obtain ⟨us, hus, hst⟩ := Option.bind_eq_some_iff.1 this
   obtain ⟨_, hlen, hc⟩ := World.cells?_some hus
   match us, hlen with
   | [u], _ =>
    have := hc 0 (by decide)
    rw [GN hst hx2] at this
    simpa [Addr.add] using this
  have hsp : a.spot = none := by
   have := key 0 (by decide)
   have e : a.add (0 * 1) = a := by simp [Addr.add]
   rw [e] at this
   exact World.cell?_spot this
  obtain ⟨ab, ao, KV⟩ := a
  simp only at hsp; subst hsp
  have hc0 := hcell 0
  obtain ⟨l⟩ := cs
  simp only at hcs
  subst hcs
  refine ⟨⟨_, xQ (hcell 0) rfl, some ⟨ab, ao, none⟩, cap, ?_, ?_, fun _ => ⟨ab, ao, rfl, yj (fun s => [.v (.string s)]) fun i x hx => ⟨rfl, ?_⟩⟩⟩, trivial⟩
  ·rw [bU, hwl, ← h3, hel]; rfl
  ·rw [bU]; omega
  ·obtain ⟨hi, rfl⟩ := List.getElem?_eq_some_iff.1 hx
   have := key i hi
   rw [eS] at this
   exact ⟨⟨_, xQ this rfl, rfl⟩, trivial⟩
theorem xY {W : World} (h : laidMetH Tryz.prog Rows.reduceKnowsUptoRow.laid W) : ∀ b, ej (qw W) b 0 (LF b) := by
 rw [MakeChecks.laidMetH_plain _ _ _ (by kernel_rfl)] at h
 have h' : laidMet Tryz.prog [("provekernel/provekernelref.words", Rows.laid_provekernel_provekernelref_words)] W := h
 obtain ⟨ps, hL, _, _⟩ := h'
 obtain ⟨g4, t4, cs4, fu4, p4, q4, hg4, ht4, hv4, hd4, _, _⟩ := hL
 have n4 : Tryz.prog.globalNamed "provekernel/provekernelref.words" = some 0 := by kernel_rfl
 obtain rfl := Option.some.inj (n4.symm.trans hg4)
 obtain rfl := Option.some.inj ((show (Tryz.prog.globals[0]?).map (·.type) = some 57 by kernel_rfl).symm.trans ht4)
 exact Fw (Di n4 hv4 hd4)
theorem Fh (os : Os) : laidMet Tryz.prog Rows.reduceKnowsUptoRow.laid ((World.doorLaid Tryz.prog 400 os).forCall (fun _ _ => 0) ⟨#[], #[.slice none 0 0], []⟩).memory :=
 laidMet_of_run' 8 (by kernel_rfl) (by kernel_rfl)
theorem reads (os : Os) {H : Type} (enc : TypeId × Value → H) : ∃ places, DataW.whole enc Tryz.prog ((World.doorLaid Tryz.prog 400 os).forCall (fun _ _ => 0) ⟨#[], #[.slice none 0 0], []⟩).memory Tryz.f3.params.toList Rows.reduceKnowsSpec.vars false #[Value.slice none 0 0].toList 8 = some ([.nil], [], places) :=
 ⟨[], by kernel_rfl⟩
set_option maxRecDepth 100000 in
theorem xU (os : Os) (started : os.Started) (H : Type) (enc : TypeId × Value → H) (F : Stop.Interp) :
 ReturnsInHanded {} Tryz.checked os 3 .any ((Rows.OpenSpec.upto Rows.reduceKnowsSpec).preRow enc Tryz.prog Tryz.f3 Rows.reduceKnowsUptoRow.domain false Rows.reduceKnowsUptoRow.laid) (((Rows.OpenSpec.upto Rows.reduceKnowsSpec).at F).post enc Tryz.prog Tryz.f3 false true false false) := by
 obtain ⟨places, hx⟩ := reads os enc
 refine returnsInHanded_of_row (C := Tryz.checked) (s := Rows.OpenSpec.upto Rows.reduceKnowsSpec) own started (by kernel_rfl) Tryz.func3
  (witness_row_atRef (enc := enc) (C := Tryz.checked) false (World.doorLaid Tryz.prog 400 os) #[.slice none 0 0] rfl (by kernel_rfl) (by kernel_rfl) (by kernel_rfl)
   (OpenSpec.preRow_of_cond 8 hx (by kernel_rfl) (fun k hk => by cases hk; kernel_rfl) (by kernel_rfl) (Fh os))) ?_
 intro W base args ds gs before hval0 hW _ hcond _ hL _ _
 have hval : ∀ (j : Nat) t v, Tryz.f3.params[j]? = some t → args[j]? = some v → Value.okWide Tryz.prog W .any base t v := hval0
 have hW' := hW
 obtain ⟨p, q, hA0, hV, rfl, hfz, hnd⟩ := hW
 have hA : DataW.TrodAll enc Tryz.prog W 0 (fun _ => true) true Tryz.f3.params.toList args.toList ds p := hA0
 rw [Tryz.params3] at hA hval
 obtain ⟨v0, d0, rfl, rfl, h0⟩ := trodAll_one hA
 obtain ⟨rfl, rfl⟩ := trodVars_none hV
 obtain ⟨a, len, cap, rfl⟩ := okWide_slice Ay (hval 0 22 v0 rfl rfl)
 have hbulk : Rows.uptoBulkAll ([d0] ++ []) ≤ 1048576 := of_decide_eq_true (hcond _ rfl)
 simp only [List.append_nil, Rows.uptoBulkAll, Nat.add_zero] at hbulk
 have h0' := h0
 obtain ⟨fuel, hf⟩ := h0
 obtain ⟨l, hl, hlen, hstr⟩ := tj hf rfl
 have hcalls := vV (w := W) (Bl (g := fun _ => []) l (Nat.le_trans hlen hbulk) fun x hx => Nat.le_trans (hstr x hx) hbulk) (xY hL) (vs := [.slice a len cap]) ⟨_, [], rfl, hl, rfl⟩
 simp only [List.append_nil] at hW'
 refine hcalls.mono fun e W' ⟨v, d, m, he, hv, hd, hb⟩ => ?_
 subst hd
 simp only [D.Den] at hv
 subst hv
 have hlt : ∀ x ∈ p, x.block < W.heap.size := DataW.TrodAll.lt hA
 refine ⟨_, he, [d0], [], p, [], p, [], hW', trodAll_mk1 (shut_bool KW _), ?_, rfl, hb.frame _, fun h => by cases h⟩
 exact trodAll_mk1 (hb.trod (by kernel_rfl) (by kernel_rfl) (of_decide_eq_true (by kernel_rfl)) h0' hlt)
theorem knows_holds : Rows.ReduceKnowsUptoSaid :=
 OpenClaim.holds_of_cond 3 Tryz.f3 rfl rfl rfl rfl rfl rfl rfl ⟨rfl, rfl, rfl, rfl, rfl⟩ rfl rfl rfl rfl rfl (by kernel_rfl) Tryz.func3 (by kernel_rfl)
  (of_decide_eq_true (by kernel_rfl)) (by unfold Func.isWrapper; first | (rw [if_pos (by decide +kernel)]; kernel_rfl) | (rw [if_neg (by decide +kernel)]; exact ⟨rfl, rfl⟩))
  (fun os started H enc _ F => by rw [OpenClaim.pre_eq_preRow]; exact xU os started H enc F)
theorem plain (f : FuncId) (fn : Func) (hf : Tryz.pinned.checked.prog.funcNamed "provekernel/provekernellaw.ReduceKnows" = some f) (hfn : Tryz.pinned.checked.prog.funcs[f]? = some fn) :
 true = Tryz.pinned.checked.prog.looks [] ∧ ∀ (j : Nat) t, fn.params[j]? = some t → Tryz.pinned.checked.prog.wantsStandIn t = false := by
 obtain rfl : f = 3 := Option.some.inj ((show Tryz.prog.funcNamed "provekernel/provekernellaw.ReduceKnows" = some 3 by kernel_rfl).symm.trans hf) |>.symm
 obtain rfl : fn = Tryz.f3 := (Option.some.inj (Tryz.func3.symm.trans hfn)).symm
 refine ⟨by kernel_rfl, fun j t ht => ?_⟩
 rw [Tryz.params3] at ht
 obtain rfl : t = 22 := by simpa using Array.mem_of_getElem? ht
 exact (show Tryz.prog.wantsStandIn 22 = false by kernel_rfl)
theorem knows_card_holds : Rows.ReduceKnowsUptoCardSaid :=
 Claim7.holds_tied_plain_at .later [] _ _ _ _ knows_holds (fun _ h => by cases h) (by kernel_rfl) (fun _ h => by cases h) reduceKnowsUpto_row_tie rfl ⟨rfl, rfl⟩ (by kernel_rfl) rfl plain (by kernel_rfl)
#print axioms knows_card_holds
end Go.Proofs.YtndbnldjidciiaaGreatDoor
