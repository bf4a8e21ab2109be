/-
  What is proved here: TermLaws: whatever script it is called on, it answers true, and the script reads as it did; on condition that the listed package variables start as the text lays them, which the card ties.
-/
import Derived.Test.YtneaancanfpdhaaDoorH5
import Derived.LaidLaws
import Derived.Test.YtneaancanfpdhaaDoorTie
import Derived.Test.YtneaancanfpdhaaDoorCards
import Derived.SevenTiedAt
set_option linter.unusedSimpArgs false
set_option linter.unusedVariables false
namespace Go.Proofs.YtneaancanfpdhaaDoor
open Go Go.Vd Go.RowKit
attribute [local irreducible] Runs OpsR OpR FloatR AnyR AnyO
variable {g gl : Nat → List D}

theorem termLaws_spec (h3g : g 2 = wordsD) (h7g : g (laysM246_ren.g 17) = p10D) (l : List Step) (hl : ∀ o ∈ l, o.okInts) : TriD Tryd.prog (glT g) 3 [.sl 6 (steps l)] (· = .v (.bool true)) := by
  have hlen := steps_len l
  have qf := facts_spec (g := gl0 g) h3g h7g
  refine triD_of_runs Tryd.func3 rfl Tryd.ntmps3 (rs := [.tmp 2]) rfl rfl rfl ?_
  refine sr ?_; refine o1 (asg ?_); refine nx ?_; refine sr ?_; refine oc (cv ca5 rfl rfl (qf) .nil ?_); refine o1 (asg ?_); refine nx ?_; refine runs_seq ?_; refine sr ?_; refine o1 (asg ?_); refine nx ?_; refine runs_block ?_
  refine kp [4, 3, 0] ?_
  apply runs_loop_o (ι := Nat) (fun i => [(4, int i)]) (fun i => []) [3, 0] (fun i => i ≤ l.length ∧ i ≤ 1152921504606846976) (fun i => l.length - i) (0) ([])
  case hk => exact rfl
  case hI =>
    exact ⟨Nat.zero_le _, by omega⟩
  case hm =>
    refine mo ?_ (sly (sly (sly slz))); exact boz
  case h =>
    rintro i hinv
    try dsimp only at hinv
    refine kp [4, 3, 0] ?_; refine runs_seq ?_; refine sr ?_; refine o1 (mv ?_); refine o1 (mv ?_); refine o1 (le1 us22 ?_); refine o1 (ilt ?_); refine o1 (mv ?_)
    apply ops_and (yt := 31) (d := 29) 2 rfl rfl rfl (.none rfl) rfl rfl
    case h1 =>
      intro hb9 hK
      have hc := hb9; (try simp only [nrm, Int.reduceEq, Int.reduceNe, Int.reduceLT, Int.reduceLE] at hc)
      refine gye ?_ (hbw := by exact hb9); refine o1 (mv ?_); refine gye ?_ (hbw := by exact hb9); refine o1 (ilt ?_); exact hK [_, _] rfl rfl
    case h2 =>
      intro hb9 hK; refine gno ?_ (hbw := by exact hb9); refine gno ?_ (hbw := by exact hb9); exact hK [_, _] rfl
    refine o1 (mv ?_)
    apply ops_and (yt := 34) (d := 33) 1 rfl rfl rfl (.none rfl) rfl rfl
    case h1 =>
      intro hb17 hK
      have hc := hb17; (try simp only [nrm, Int.reduceEq, Int.reduceNe, Int.reduceLT, Int.reduceLE] at hc)
      refine gye ?_ (hbw := by exact hb17); refine o1 (mv ?_); exact hK [_] rfl rfl
    case h2 =>
      intro hb17 hK; refine gno ?_ (hbw := by exact hb17); exact hK [_] rfl
    refine nx ?_; refine cdf (fun h3 => ?_) (fun h3 => ?_)
    · (try simp only [nrm, Int.reduceEq, Int.reduceNe, Int.reduceLT, Int.reduceLE] at h3)
      refine runs_exit ?_; refine seq_exit ?_; refine seq_exit ?_; refine inb_exit ?_; refine seq_normal ?_; refine kp [3] ?_; refine sr ?_; refine o1 (mv ?_); refine o1 (asg ?_); refine nx ?_; refine runs_ret ?_; refine fin_ret ?_
      refine fin_d1 rfl rfl ?_
      rfl
    (try simp only [nrm, Int.reduceEq, Int.reduceNe, Int.reduceLT, Int.reduceLE] at h3); refine runs_skip ?_; refine seq_normal ?_; refine runs_seq ?_; refine runs_block ?_; refine runs_seq ?_; refine kp [4, 3, 0] ?_
    have hin : i < l.length := (by omega)
    have hoi := hl l[i] (List.getElem_mem hin)
    have qa := parseTerm_spec (g := g) l[i].s
    have qb := parseTerm_spec (g := g) l[i].t
    obtain ⟨oka, wta⟩ := parse_ok l[i].s; obtain ⟨okb, wtb⟩ := parse_ok l[i].t
    have ga := parse_good (s := l[i].s)
    have gb := parse_good (s := l[i].t)
    rcases hA : parseT l[i].s with ⟨⟨ka, ma, sa, la, aa⟩, ca, pa⟩
    rcases hB : parseT l[i].t with ⟨⟨kb, mb, sb, lb, ab⟩, cb, pb⟩
    rw [hA] at qa oka wta ga
    rw [hB] at qb okb wtb gb
    simp only at qa oka wta ga qb okb wtb gb
    have za := size_wtT' (.mk ka ma sa la aa)
    have zb := size_wtT' (.mk kb mb sb lb ab)
    have qm := much_spec (gl := glT g) ka ma sa la aa kb mb sb lb ab (by omega) (by omega)
    have qn := limit_spec (gl := glT g) l[i].a hoi.1.1 hoi.1.2
    refine runs_region ?_; refine o1 (mv ?_); refine o1 (mv ?_); refine o1 (ixs us22 te22 ?_ (he := by exact (step_at hin))); refine o1 (ldc ti25 ?_)
    refine oc (T := fun _ => False) (alc ti25 ?_ (hl := by simp only [List.length_cons, List.length_nil, Nat.reduceAdd]; rfl)); refine oc (sto ti25 ?_); refine nx ?_; refine kp [5, 4, 3, 0] ?_; refine sr ?_; refine o1 (fdb ti25 ?_)
    refine o1 (ldb ti9 ?_); refine oc (cv ca6 rfl rfl (qa) (fir .nil) ?_); refine o1 (mv ?_); refine o1 (ex2 ?_); refine o1 (ex2 ?_)
    refine oc (T := fun _ => False) (alc ti29 ?_ (hl := by simp only [List.length_cons, List.length_nil, Nat.reduceAdd]; rfl))
    refine oc (T := fun _ => False) (alc ti31 ?_ (hl := by simp only [List.length_cons, List.length_nil, Nat.reduceAdd]; rfl)); refine oc (sto ti29 ?_); refine oc (sto ti31 ?_); refine nx ?_; refine kp [7, 6, 5, 4, 3, 0] ?_; refine sr ?_
    refine o1 (fdb ti25 ?_); refine o1 (ldb ti9 ?_); refine oc (cv ca6 rfl rfl (qb) (fir .nil) ?_); refine o1 (mv ?_); refine o1 (ex2 ?_); refine o1 (ex2 ?_)
    refine oc (T := fun _ => False) (alc ti29 ?_ (hl := by simp only [List.length_cons, List.length_nil, Nat.reduceAdd]; rfl))
    refine oc (T := fun _ => False) (alc ti31 ?_ (hl := by simp only [List.length_cons, List.length_nil, Nat.reduceAdd]; rfl)); refine oc (sto ti29 ?_); refine oc (sto ti31 ?_); refine nx ?_; refine runs_seq ?_
    refine kp [9, 8, 7, 6, 5, 4, 3, 0] ?_; refine sr ?_; refine o1 (fdb ti31 ?_); refine o1 (ldb ti3 ?_); refine o1 (ine ?_); refine o1 (mv ?_)
    apply ops_or (yt := 60) (d := 57) 3 rfl rfl rfl (.none rfl) rfl rfl
    case h1 =>
      intro hb6 hK
      have hc := hb6; (try simp only [nrm, Int.reduceEq, Int.reduceNe, Int.reduceLT, Int.reduceLE] at hc)
      refine gye ?_ (hbw := by exact hb6); refine o1 (fdb ti31 ?_); refine gye ?_ (hbw := by exact hb6); refine o1 (ldb ti3 ?_); refine gye ?_ (hbw := by exact hb6); refine o1 (ine ?_); exact hK [_, _, _] rfl rfl
    case h2 =>
      intro hb6 hK; refine gno ?_ (hbw := by exact hb6); refine gno ?_ (hbw := by exact hb6); refine gno ?_ (hbw := by exact hb6); exact hK [_, _, _] rfl
    refine nx ?_; refine cd (fun h8 => ?_) (fun h8 => ?_)
    · (try simp only [nrm, Int.reduceEq, Int.reduceNe, Int.reduceLT, Int.reduceLE] at h8)
      refine runs_exit ?_; refine seq_exit ?_; refine inb_exit ?_; refine seq_normal ?_; refine kp [4, 3, 0] ?_; refine runs_region ?_; refine o1 (mv ?_); refine o1 (iad ?_); refine o1 (asg ?_); refine ops_nil ?_; refine seq_back ?_
      refine back_c (i + 1) rfl ?_ ([]) ?_
      · exact ⟨⟨by omega, by omega⟩, by omega⟩
      · refine mo ?_ (sly (sly (sly slz)))
        exact boz
    (try simp only [nrm, Int.reduceEq, Int.reduceNe, Int.reduceLT, Int.reduceLE] at h8); refine runs_skip ?_; refine seq_normal ?_; refine kp [8, 6, 5, 4, 3, 0] ?_; refine sr ?_; refine o1 (ldb ti29 ?_); refine o1 (ldb ti29 ?_)
    refine oc (T := fun _ => False) (op_call ca7 rfl rfl rfl rfl (qm) (fid (fid .nil)) (fun d hd => ?_)); obtain ⟨bm, rfl, hbm⟩ := hd; refine o1 (asg ?_); refine nx ?_; refine runs_seq ?_; refine sr ?_; refine o1 (mv ?_); refine nx ?_
    refine cd (fun h10 => ?_) (fun h10 => ?_)
    · (try simp only [nrm, Int.reduceEq, Int.reduceNe, Int.reduceLT, Int.reduceLE] at h10)
      refine runs_exit ?_; refine seq_exit ?_; refine inb_exit ?_; refine seq_normal ?_; refine kp [4, 3, 0] ?_; refine runs_region ?_; refine o1 (mv ?_); refine o1 (iad ?_); refine o1 (asg ?_); refine ops_nil ?_; refine seq_back ?_
      refine back_c (i + 1) rfl ?_ ([]) ?_
      · exact ⟨⟨by omega, by omega⟩, by omega⟩
      · refine mo ?_ (sly (sly (sly slz)))
        exact boz
    (try simp only [nrm, Int.reduceEq, Int.reduceNe, Int.reduceLT, Int.reduceLE] at h10); refine runs_skip ?_; refine seq_normal ?_; refine runs_seq ?_; refine kp [8, 6, 5, 4, 3, 0] ?_; obtain rfl : ca = 0 := (by omega)
    obtain rfl : cb = 0 := (by omega)
    have hgA := ga rfl
    have hgB := gb rfl
    have hsz := hbm h10
    generalize hn : (if l[i].a < 0 then (-(l[i].a + 1)) % 6 else l[i].a % 6) = nn at qn
    have hn0 : 0 ≤ nn ∧ nn ≤ 5 := (by rw [← hn]; split <;> omega)
    have gsp := good_spine _ _ (Nat.le_refl _) hgA
    have pra := tprint_spec (g := gl0 g) h3g h7g ka ma sa la aa (by omega) oka
    -- lift, subst
    have qL1 := lift_spec (gl := glT g) (B := 999999) (m0 := 1) (fr := 0) (by omega) (by omega) (by omega) ka ma sa la aa (okT_num oka) (by omega)
    have okX1 : okT (liftT (.mk ka ma sa la aa) 1 0) := okT_lift oka (good_num hgA) (by omega) (by omega)
    have wX1 := wtT_liftT (.mk ka ma sa la aa) 1 0
    obtain ⟨k1, m1, s1, l1, a1, hX1⟩ := Trm.case (liftT (.mk ka ma sa la aa) 1 0)
    have e1 : substT (.mk k1 m1 s1 l1 a1) (.mk kb mb sb lb ab) = .mk ka ma sa la aa := (by rw [← hX1]; exact subst_lift _ _)
    rw [hX1] at okX1 wX1 qL1
    have z1 := size_wtT' (.mk k1 m1 s1 l1 a1)
    have qS1 := subst_spec (gl := glT g) (B := 999999) (by omega) kb mb sb lb ab (okT_num okb) (by omega) k1 m1 s1 l1 a1 (okT_num okX1) (by omega)
    rw [e1] at qS1
    -- read again
    have qz := tparse_spec (g := gl0 g) (wrT (.mk ka ma sa la aa))
    obtain ⟨okz, wtz⟩ := parse_ok (wrT (.mk ka ma sa la aa))
    have hzz : (wrT (.mk ka ma sa la aa)).size ≤ 20000 → parseT (wrT (.mk ka ma sa la aa)) = (.mk ka ma sa la aa, 0, 0) := parse_print hgA
    rcases hZ : parseT (wrT (.mk ka ma sa la aa)) with ⟨⟨kz, mz, sz, lz, az⟩, cz, pz⟩
    rw [hZ] at qz okz wtz hzz
    simp only at qz okz wtz
    have prz := tprint_spec (g := gl0 g) h3g h7g kz mz sz lz az (by omega) okz
    -- heads
    have qsp := spine_spec (gl := glT g) ka ma sa la aa gsp.1 (by omega)
    have hsl := spine_len _ (.mk ka ma sa la aa) (Nat.le_refl _)
    have eA := gsp.2
    rcases hS : spineT (.mk ka ma sa la aa) with ⟨⟨kh, mh, sh, lh, ah⟩, bs⟩
    rw [hS] at qsp hsl eA
    simp only at qsp hsl eA
    have qap := apply_spec (gl := glT g) kh mh sh lh ah bs (by omega)
    rw [eA] at qap
    -- the substitution lemma
    have qS2 := subst_spec (gl := glT g) (B := 999999) (by omega) kb mb sb lb ab (okT_num okb) (by omega) ka ma sa la aa (okT_num oka) (by omega)
    obtain ⟨okS, nuS⟩ := okT_subst (B := 99999) (M := 20000) oka (good_num hgA) okb (good_num hgB) (by omega) (by omega) (by omega)
    have wS : wtT (substT (.mk ka ma sa la aa) (.mk kb mb sb lb ab)) ≤ wtT (.mk ka ma sa la aa) + (Trm.mk ka ma sa la aa).size * wtT (.mk kb mb sb lb ab) := wtT_subst _ _ _
    have wS2 : (Trm.mk ka ma sa la aa).size * wtT (.mk kb mb sb lb ab) ≤ 20000 * 2000020 := Nat.mul_le_mul (by omega) wtb
    have eT := lift_subst (.mk ka ma sa la aa) (.mk kb mb sb lb ab) 2 nn (by omega) hn0.1
    obtain ⟨ks, ms, ss, lls, as', hXs⟩ := Trm.case (substT (.mk ka ma sa la aa) (.mk kb mb sb lb ab))
    rw [hXs] at qS2 okS nuS wS eT
    have zs := size_wtT' (.mk ks ms ss lls as')
    have qL2 := lift_spec (gl := glT g) (B := 999999) (m0 := 2) (fr := nn) (by omega) (by omega) (by omega) ks ms ss lls as' (okT_num okS) (by omega)
    have okT2 : okT (liftT (.mk ks ms ss lls as') 2 nn) := okT_lift okS nuS (by omega) (by omega)
    have wT2 := wtT_liftT (.mk ks ms ss lls as') 2 nn
    obtain ⟨kt, mt, st, lt, at', hXt⟩ := Trm.case (liftT (.mk ks ms ss lls as') 2 nn)
    rw [hXt] at qL2 okT2 wT2 eT
    have prt := tprint_spec (g := gl0 g) h3g h7g kt mt st lt at' (by omega) okT2
    have qL3 := lift_spec (gl := glT g) (B := 999999) (m0 := 2) (fr := nn + 1) (by omega) (by omega) (by omega) ka ma sa la aa (okT_num oka) (by omega)
    have okU : okT (liftT (.mk ka ma sa la aa) 2 (nn + 1)) := okT_lift oka (good_num hgA) (by omega) (by omega)
    have wU := wtT_liftT (.mk ka ma sa la aa) 2 (nn + 1)
    obtain ⟨ku, mu, su, lu, au, hXu⟩ := Trm.case (liftT (.mk ka ma sa la aa) 2 (nn + 1))
    rw [hXu] at qL3 okU wU eT
    have qL4 := lift_spec (gl := glT g) (B := 999999) (m0 := 2) (fr := nn) (by omega) (by omega) (by omega) kb mb sb lb ab (okT_num okb) (by omega)
    have okV : okT (liftT (.mk kb mb sb lb ab) 2 nn) := okT_lift okb (good_num hgB) (by omega) (by omega)
    have wV := wtT_liftT (.mk kb mb sb lb ab) 2 nn
    obtain ⟨kv, nv, sv, lv, av, hXv⟩ := Trm.case (liftT (.mk kb mb sb lb ab) 2 nn)
    rw [hXv] at qL4 okV wV eT
    have zu := size_wtT' (.mk ku mu su lu au)
    have zv := size_wtT' (.mk kv nv sv lv av)
    have qS3 := subst_spec (gl := glT g) (B := 999999) (by omega) kv nv sv lv av (okT_num okV) (by omega) ku mu su lu au (okT_num okU) (by omega)
    rw [← eT] at qS3
    -- closed
    have qc := closed_spec (gl := glT g) (n0 := nn) (by omega) ka ma sa la aa (by omega)
    have hcl := closed_lift (t := .mk ka ma sa la aa) (n := nn) (m := 3)
    have qL5 := lift_spec (gl := glT g) (B := 999999) (m0 := 3) (fr := nn) (by omega) (by omega) (by omega) ka ma sa la aa (okT_num oka) (by omega)
    have okW : okT (liftT (.mk ka ma sa la aa) 3 nn) := okT_lift oka (good_num hgA) (by omega) (by omega)
    have wW := wtT_liftT (.mk ka ma sa la aa) 3 nn
    obtain ⟨kw, mw, sw, lw, aw, hXw⟩ := Trm.case (liftT (.mk ka ma sa la aa) 3 nn)
    rw [hXw] at qL5 okW wW hcl
    have prw := tprint_spec (g := gl0 g) h3g h7g kw mw sw lw aw (by omega) okW
    refine runs_region ?_; refine o1 (fdb ti25 ?_); refine o1 (ldb ti3 ?_); refine oc (cv ca8 rfl rfl (qn) (fir .nil) ?_); refine o1 (asg ?_); refine nx ?_; refine kp [11, 8, 6, 4, 3, 0] ?_; refine sr ?_; refine o1 (ldb ti29 ?_)
    refine oc (cv ca9 rfl rfl (pra) (fid .nil) ?_); refine o1 (asg ?_); refine nx ?_; refine runs_seq ?_; refine a_start ?_ (hm := by exact mixed); refine A1 0 rfl (ldb ti29 ⟨_, rfl, ?_⟩); refine A1 2 rfl (ldb ti29 ⟨_, rfl, ?_⟩)
    refine A2 1 rfl (cv ca11 rfl rfl (qL1) (fid (fir (fir .nil))) ?_); refine A2 3 rfl (cv ca10 rfl rfl (qS1) (fir (fid .nil)) ?_); refine A2 4 rfl (cv ca9 rfl rfl (pra) (fir .nil) ?_); refine A1 5 rfl (asg ⟨_, rfl, ?_⟩); refine a_end ?_
    refine seq_normal ?_; refine kp [13, 12, 11, 8, 6, 4, 3, 0] ?_; refine sr ?_; refine o1 (mv ?_); refine oc (cv ca12 rfl rfl (qz) (fir .nil) ?_); refine o1 (mv ?_); refine o1 (ex2 ?_); refine o1 (ex2 ?_)
    refine oc (T := fun _ => False) (alc ti29 ?_ (hl := by simp only [List.length_cons, List.length_nil, Nat.reduceAdd]; rfl)); refine oc (sto ti29 ?_); refine o1 (asg ?_); refine nx ?_; refine kp [15, 14, 13, 12, 11, 8, 6, 4, 3, 0] ?_
    refine sr ?_; refine o1 (ldb ti29 ?_); refine oc (cv ca9 rfl rfl (prz) (fid .nil) ?_); refine o1 (asg ?_); refine nx ?_; refine sr ?_; refine o1 (ldb ti29 ?_); refine oc (cv ca13 rfl rfl (qsp) (fid .nil) ?_); refine o1 (mv ?_)
    refine o1 (ex2 ?_); refine o1 (ex2 ?_); refine oc (T := fun _ => False) (alc ti29 ?_ (hl := by simp only [List.length_cons, List.length_nil, Nat.reduceAdd]; rfl)); refine oc (sto ti29 ?_); refine o1 (asg ?_); refine nx ?_
    refine kp [18, 17, 16, 15, 13, 12, 11, 8, 6, 4, 3, 0] ?_; refine sr ?_; refine o1 (ldb ti29 ?_); refine o1 (mv ?_); refine oc (cv ca14 rfl rfl (qap) (fid (fir .nil)) ?_); refine oc (cv ca9 rfl rfl (pra) (fir .nil) ?_); refine o1 (asg ?_)
    refine nx ?_; refine runs_seq ?_; refine kp [19, 16, 15, 13, 12, 11, 8, 6, 4, 3, 0] ?_; refine sr ?_; refine o1 (mv ?_); refine o1 (le3 ut9 ?_); refine o1 (ile ?_); refine o1 (mv ?_)
    apply ops_and (yt := 102) (d := 95) 7 rfl rfl rfl (.none rfl) rfl rfl
    case h1 =>
      intro hb7 hK
      have hc := hb7; (try simp only [nrm, Int.reduceEq, Int.reduceNe, Int.reduceLT, Int.reduceLE] at hc)
      refine gye ?_ (hbw := by exact hb7); refine o1 (mv ?_); refine gye ?_ (hbw := by exact hb7); refine o1 (fl_ineq_err (c := cz) (a := pz) ii40 rfl rfl ?_); refine gye ?_ (hbw := by exact hb7); refine o1 (mv ?_)
      apply ops_or (yt := 101) (d := 98) 3 rfl rfl rfl (.yes rfl rfl rfl hb7) rfl rfl
      case h1 =>
        intro hb12 hK
        have hc := hb12; (try simp only [nrm, Int.reduceEq, Int.reduceNe, Int.reduceLT, Int.reduceLE] at hc)
        refine gye ?_ (hbw := by exact hb12); refine o1 (mv ?_); refine gye ?_ (hbw := by exact hb12); refine o1 (mv ?_); refine gye ?_ (hbw := by exact hb12); refine o1 (sne ?_); exact hK [_, _, _] rfl rfl
      case h2 =>
        intro hb12 hK; refine gno ?_ (hbw := by exact hb12); refine gno ?_ (hbw := by exact hb12); refine gno ?_ (hbw := by exact hb12); exact hK [_, _, _] rfl
      exact hK [_, _, _, _] rfl rfl
    case h2 =>
      intro hb7 hK; refine gno ?_ (hbw := by exact hb7); refine gno ?_ (hbw := by exact hb7); refine gno ?_ (hbw := by exact hb7); refine gud ?_; refine gud ?_; refine gud ?_; refine gno ?_ (hbw := by exact hb7); exact hK [_, _, _, _, _, _, _] rfl
    refine nx ?_; refine cd (fun h18 => ?_) (fun h18 => ?_)
    · (try simp only [nrm, Int.reduceEq, Int.reduceNe, Int.reduceLT, Int.reduceLE] at h18); exfalso; (obtain ⟨h, h'⟩ := h18; have e := hzz (by omega); simp only [Prod.mk.injEq] at e; obtain ⟨e1, e2, _⟩ := e; rw [e1, e2] at h'; simp at h')
    (try simp only [nrm, Int.reduceEq, Int.reduceNe, Int.reduceLT, Int.reduceLE] at h18); refine runs_skip ?_; refine seq_normal ?_; refine runs_seq ?_; refine kp [19, 13, 12, 11, 8, 6, 4, 3, 0] ?_; refine sr ?_; refine o1 (mv ?_)
    refine o1 (mv ?_); refine o1 (sne ?_); refine o1 (mv ?_)
    apply ops_or (yt := 110) (d := 107) 3 rfl rfl rfl (.none rfl) rfl rfl
    case h1 =>
      intro hb6 hK
      have hc := hb6; (try simp only [nrm, Int.reduceEq, Int.reduceNe, Int.reduceLT, Int.reduceLE] at hc)
      refine gye ?_ (hbw := by exact hb6); refine o1 (mv ?_); refine gye ?_ (hbw := by exact hb6); refine o1 (mv ?_); refine gye ?_ (hbw := by exact hb6); refine o1 (sne ?_); exact hK [_, _, _] rfl rfl
    case h2 =>
      intro hb6 hK; refine gno ?_ (hbw := by exact hb6); refine gno ?_ (hbw := by exact hb6); refine gno ?_ (hbw := by exact hb6); exact hK [_, _, _] rfl
    refine nx ?_; refine cd (fun h20 => ?_) (fun h20 => ?_)
    · simp only [nrm, Int.reduceEq, Int.reduceNe, Int.reduceLT, Int.reduceLE] at h20
    (try simp only [nrm, Int.reduceEq, Int.reduceNe, Int.reduceLT, Int.reduceLE] at h20); refine runs_skip ?_; refine seq_normal ?_; refine kp [12, 11, 8, 6, 4, 3, 0] ?_; refine sr ?_; refine o1 (ldb ti29 ?_); refine o1 (ldb ti29 ?_)
    refine oc (cv ca10 rfl rfl (qS2) (fid (fid .nil)) ?_); refine o1 (mv ?_); refine oc (cv ca11 rfl rfl (qL2) (fir (fir (fir .nil))) ?_); refine oc (cv ca9 rfl rfl (prt) (fir .nil) ?_); refine o1 (asg ?_); refine nx ?_; refine runs_seq ?_
    refine kp [20, 12, 11, 8, 6, 4, 3, 0] ?_; refine a_start ?_ (hm := by exact mixed); refine A1 0 rfl (ldb ti29 ⟨_, rfl, ?_⟩); refine A1 1 rfl (mv ⟨_, rfl, ?_⟩); refine A1 2 rfl (iad ⟨_, rfl, ?_⟩); refine A1 4 rfl (ldb ti29 ⟨_, rfl, ?_⟩)
    refine A1 5 rfl (mv ⟨_, rfl, ?_⟩); refine A2 3 rfl (cv ca11 rfl rfl (qL3) (fid (fir (fir .nil))) ?_); refine A2 6 rfl (cv ca11 rfl rfl (qL4) (fid (fir (fir .nil))) ?_); refine A2 7 rfl (cv ca10 rfl rfl (qS3) (fir (fir .nil)) ?_)
    refine A2 8 rfl (cv ca9 rfl rfl (prt) (fir .nil) ?_); refine A1 9 rfl (asg ⟨_, rfl, ?_⟩); refine a_end ?_; refine seq_normal ?_; refine kp [21, 20, 12, 11, 6, 4, 3, 0] ?_; refine sr ?_; refine o1 (ldb ti29 ?_); refine o1 (mv ?_)
    refine oc (cv ca15 rfl rfl (qc) (fid (fir .nil)) ?_); refine o1 (asg ?_); refine nx ?_; refine sr ?_; refine o1 (ldb ti29 ?_); refine o1 (mv ?_); refine oc (cv ca11 rfl rfl (qL5) (fid (fir (fir .nil))) ?_)
    refine oc (cv ca9 rfl rfl (prw) (fir .nil) ?_); refine o1 (asg ?_); refine nx ?_; refine kp [23, 22, 21, 20, 12, 4, 3, 0] ?_; refine sr ?_; refine o1 (mv ?_); refine o1 (mv ?_); refine o1 (sne ?_); refine o1 (mv ?_)
    apply ops_or (yt := 143) (d := 137) 6 rfl rfl rfl (.none rfl) rfl rfl
    case h1 =>
      intro hb6 hK
      have hc := hb6; (try simp only [nrm, Int.reduceEq, Int.reduceNe, Int.reduceLT, Int.reduceLE] at hc)
      refine gye ?_ (hbw := by exact hb6); refine o1 (mv ?_); refine gye ?_ (hbw := by exact hb6); refine o1 (mv ?_)
      apply ops_and (yt := 142) (d := 139) 3 rfl rfl rfl (.yes rfl rfl rfl hb6) rfl rfl
      case h1 =>
        intro hb11 hK
        have hc := hb11; (try simp only [nrm, Int.reduceEq, Int.reduceNe, Int.reduceLT, Int.reduceLE] at hc)
        refine gye ?_ (hbw := by exact hb11); refine o1 (mv ?_); refine gye ?_ (hbw := by exact hb11); refine o1 (mv ?_); refine gye ?_ (hbw := by exact hb11); refine o1 (sne ?_); exact hK [_, _, _] rfl rfl
      case h2 =>
        intro hb11 hK; refine gno ?_ (hbw := by exact hb11); refine gno ?_ (hbw := by exact hb11); refine gno ?_ (hbw := by exact hb11); exact hK [_, _, _] rfl
      exact hK [_, _, _] rfl rfl
    case h2 =>
      intro hb6 hK; refine gno ?_ (hbw := by exact hb6); refine gno ?_ (hbw := by exact hb6); refine gud ?_; refine gud ?_; refine gud ?_; refine gno ?_ (hbw := by exact hb6); exact hK [_, _, _, _, _, _] rfl
    refine nx ?_; refine cd (fun h26 => ?_) (fun h26 => ?_)
    · (try simp only [nrm, Int.reduceEq, Int.reduceNe, Int.reduceLT, Int.reduceLE] at h26); exfalso; first | (obtain ⟨h, h'⟩ := h26; exact h' (by rw [hcl h])) | (rcases h26 with h | ⟨h, h'⟩; exact absurd rfl h; exact h' (by rw [hcl h]))
    (try simp only [nrm, Int.reduceEq, Int.reduceNe, Int.reduceLT, Int.reduceLE] at h26); refine runs_skip ?_; refine inb_normal ?_; refine seq_normal ?_; refine kp [4, 3, 0] ?_; refine runs_region ?_; refine o1 (mv ?_); refine o1 (iad ?_)
    refine o1 (asg ?_); refine ops_nil ?_; refine seq_back ?_; refine back_c (i + 1) rfl ?_ ([]) ?_
    · exact ⟨⟨by omega, by omega⟩, by omega⟩
    · refine mo ?_ (sly (sly (sly slz)))
      exact boz
end Go.Proofs.YtneaancanfpdhaaDoor
namespace Go.Proofs.YtneaancanfpdhaaDoor
open Go Go.Vd Go.RowKit Go.ChangeShapes Go.WideShapes

theorem own : ownKnob Tryd.prog.godebug = none := by kernel_rfl
def glP (es : Value) : Nat → List D := glT fun
  | 2 => wordsD
  | 3 => [.v es]
  | 5 => p10D
  | _ => []
theorem globP_of {w : World} {es : Value} (h0 : DenC (memW w) 0 0 [strsD wordsT]) (h1 : DenC (memW w) 1 0 (wordsT.map fun s => .v (.string s))) (h2 : DenC (memW w) 2 0 wordsD) (h3 : DenC (memW w) 3 0 [.v es]) (h5 : DenC (memW w) 5 0 p10D) : ∀ b, DenC (memW w) b 0 (glP es b)
  | 0 => h0
  | 1 => h1
  | 2 => h2
  | 3 => h3
  | 4 => trivial
  | 5 => h5
  | _ + 6 => trivial

def litS (s : ByteArray) : DataW Unit := .lit (.string s.data.toList)
theorem str_lit {W : World} {n : Nat} {v : Value} {x : DataW Unit × List MemPlace} {s : ByteArray} {sp : Nat → Bool} {hd : Bool} (h : DataW.trod (fun _ => ()) Tryd.prog W 0 sp hd n 9 [v] = some x) (hx : x.1 = litS s) : v = .string s := by
  obtain ⟨s', h1, h2, _⟩ := DataW.trod_string ut9 h
  simp only [List.cons.injEq, and_true] at h1
  subst h1 h2
  simp only [litS, DataW.lit.injEq, Lit.string.injEq] at hx
  congr 1
  exact ByteArray.ext (Array.ext' hx)
theorem nth_lit {elems : List (DataW Unit × List MemPlace)} (h : elems.map (·.1) = wordsT.map litS) {i : Nat} (hi : i < wordsT.length) : ∃ x, elems[i]? = some x ∧ x.1 = litS wordsT[i] := by
  have hl := congrArg List.length h
  simp only [List.length_map] at hl
  have h1 := congrArg (fun l => l[i]?) h
  simp only [List.getElem?_map] at h1
  rw [List.getElem?_eq_getElem (show i < elems.length by omega), List.getElem?_eq_getElem hi] at h1
  exact ⟨elems[i], List.getElem?_eq_getElem (by omega), Option.some.inj h1⟩

theorem rwords_of {W : World} {cs : Array Value} {fuel : Nat} {p : List MemPlace} (hv : Tryd.prog.globalNamed "provekernel/provekernelref.words" = some 0) (hw : W.var? Tryd.prog "provekernel/provekernelref.words" = some cs)
    (hd : DataW.trod (fun _ => ()) Tryd.prog W 0 (fun _ => true) false fuel 77 cs.toList = some (Rows.laid_provekernel_provekernelref_words, p)) : DenC (memW W) 0 0 [strsD wordsT] := by
  have hcell := fun i => World.var?_cell hv hw i
  have hu := us77
  have he : (tiOf Tryd.prog 77).elem = 9 := by rw [ti77]
  rw [he] at hu
  have c9 : Tryd.prog.cellsOf 9 = 1 := by kernel_rfl
  have hwl : wordsT.length = 7 := rfl
  rcases DataW.trod_slice hu hd with ⟨_, h1⟩ | ⟨a, len, cap, elems, rest, n, _, hcs, ex, _, h2, _, h3, h4, _⟩
  · exact absurd (congrArg Prod.fst h1) (by intro h; cases h)
  · have ex1 : (DataW.slice (wordsT.map litS) [] : DataW Unit) = .slice (elems.map (·.1)) (rest.map (·.1)) := congrArg Prod.fst ex
    have ex2 := (DataW.slice.inj ex1).1.symm
    have hel : elems.length = 7 := by have := congrArg List.length ex2; simpa [hwl] using this
    have key : ∀ i : Nat, (hi : i < wordsT.length) → W.cell? (a.add (i * 1)) = some (.string wordsT[i]) := fun i hi => by
      obtain ⟨x, hx1, hx2⟩ := nth_lit ex2 hi
      have := h4 i (by omega)
      rw [c9, hx1] at this
      obtain ⟨us, hus, hst⟩ := Option.bind_eq_some_iff.1 this
      obtain ⟨_, hlen, hc⟩ := World.cells?_some hus
      match us, hlen with
      | [u], _ =>
        have := hc 0 (by decide)
        rw [str_lit hst hx2] at this
        simpa [Addr.add] using this
    have hsp : a.spot = none := by
      have := key 0 (by decide)
      have e : a.add (0 * 1) = a := by simp [Addr.add]
      rw [e] at this
      exact World.cell?_spot this
    obtain ⟨ab, ao, asp⟩ := a
    simp only at hsp; subst hsp
    have hc0 := hcell 0
    obtain ⟨l⟩ := cs
    simp only at hcs
    subst hcs
    refine ⟨⟨_, memW_of (hcell 0) rfl, some ⟨ab, ao, none⟩, cap, ?_, ?_, fun _ => ⟨ab, ao, rfl, denR_of (fun s => [.v (.string s)]) fun i x hx => ⟨rfl, ?_⟩⟩⟩, trivial⟩
    · rw [strs_len, hwl, ← h3, hel]; rfl
    · rw [strs_len]; omega
    · obtain ⟨hi, rfl⟩ := List.getElem?_eq_some_iff.1 hx
      have := key i hi
      rw [addr_add] at this
      exact ⟨⟨_, memW_of this rfl, rfl⟩, trivial⟩

set_option maxRecDepth 100000 in
theorem twords_of {W : World} {cs : Array Value} {fuel : Nat} {p : List MemPlace} (hv : Tryd.prog.globalNamed "provekernel/term.words" = some 1) (hw : W.var? Tryd.prog "provekernel/term.words" = some cs)
    (hd : DataW.trod (fun _ => ()) Tryd.prog W 0 (fun _ => true) false fuel 95 cs.toList = some (Rows.laid_provekernel_term_words, p)) : DenC (memW W) 1 0 (wordsT.map fun s => .v (.string s)) := by
  have hcell := fun i => World.var?_cell hv hw i
  have c9 : Tryd.prog.cellsOf 9 = 1 := by kernel_rfl
  have c86 : Tryd.prog.cellsOf 95 = 7 := by kernel_rfl
  have hwl : wordsT.length = 7 := rfl
  obtain ⟨xs, m, _, ex, hcl, hl, hel⟩ := DataW.trod_array ua95 hd
  have ex1 : (DataW.agg (wordsT.map litS) : DataW Unit) = .agg (xs.map (·.1)) := congrArg Prod.fst ex
  have ex2 := (DataW.agg.inj ex1).symm
  obtain ⟨l⟩ := cs
  rw [c86] at hcl
  rw [c9] at hel
  have key : ∀ i : Nat, (hi : i < wordsT.length) → l[i]? = some (.string wordsT[i]) := fun i hi => by
    obtain ⟨x, hx1, hx2⟩ := nth_lit ex2 hi
    have := hel i (by omega)
    rw [hx1] at this
    have hil : i < l.length := by have : l.length = 7 := hcl; omega
    have e : (List.take 1 (List.drop (i * 1) l)) = [l[i]] := by rw [Nat.mul_one, List.drop_eq_getElem_cons hil]; rfl
    rw [show (({ toList := l } : Array Value).toList.drop (i * 1)).take 1 = [l[i]] from e] at this
    rw [List.getElem?_eq_getElem hil, str_lit this hx2]
  have hc : ∀ (i : Nat) v, l[i]? = some v → v.oneCell' = true → memW W 1 i = some v := fun i v h h1 => memW_of (by
    have := hcell i
    simpa [h] using this) h1
  exact ⟨⟨_, hc 0 _ (key 0 (by decide)) rfl, rfl⟩, ⟨_, hc 1 _ (key 1 (by decide)) rfl, rfl⟩, ⟨_, hc 2 _ (key 2 (by decide)) rfl, rfl⟩, ⟨_, hc 3 _ (key 3 (by decide)) rfl, rfl⟩, ⟨_, hc 4 _ (key 4 (by decide)) rfl, rfl⟩, ⟨_, hc 5 _ (key 5 (by decide)) rfl, rfl⟩, ⟨_, hc 6 _ (key 6 (by decide)) rfl, rfl⟩, trivial⟩

set_option maxRecDepth 100000 in
theorem lwords_of {W : World} {cs : Array Value} {fuel : Nat} {p : List MemPlace} (hv : Tryd.prog.globalNamed "provekernel/level.words" = some 2) (hw : W.var? Tryd.prog "provekernel/level.words" = some cs)
    (hd : DataW.trod (fun _ => ()) Tryd.prog W 0 (fun _ => true) false fuel 117 cs.toList = some (Rows.laid_provekernel_level_words, p)) : DenC (memW W) 2 0 wordsD := by
  have hcell := fun i => World.var?_cell hv hw i
  have c9 : Tryd.prog.cellsOf 9 = 1 := by kernel_rfl
  have c86 : Tryd.prog.cellsOf 117 = 4 := by kernel_rfl
  obtain ⟨xs, m, _, ex, hcl, hl, hel⟩ := DataW.trod_array ua117 hd
  have ex1 : (DataW.agg ([⟨#[]⟩, ⟨#[115]⟩, ⟨#[109, 97, 120]⟩, ⟨#[105, 109, 97, 120]⟩].map litS) : DataW Unit) = .agg (xs.map (·.1)) := congrArg Prod.fst ex
  have ex2 := (DataW.agg.inj ex1).symm
  obtain ⟨l⟩ := cs
  rw [c86] at hcl
  rw [c9] at hel
  have key : ∀ (i : Nat) (s : ByteArray), ([⟨#[]⟩, ⟨#[115]⟩, ⟨#[109, 97, 120]⟩, ⟨#[105, 109, 97, 120]⟩] : List ByteArray)[i]? = some s → l[i]? = some (.string s) := fun i s hi => by
    have h1 := congrArg (fun l => l[i]?) ex2
    simp only [List.getElem?_map, hi, Option.map_some] at h1
    obtain ⟨x, hx1, hx2⟩ := Option.map_eq_some_iff.1 h1
    have hi4 : i < 4 := (List.getElem?_eq_some_iff.1 hi).1
    have := hel i hi4
    rw [hx1] at this
    have hil : i < l.length := by have : l.length = 4 := hcl; omega
    have e : (List.take 1 (List.drop (i * 1) l)) = [l[i]] := by rw [Nat.mul_one, List.drop_eq_getElem_cons hil]; rfl
    rw [show (({ toList := l } : Array Value).toList.drop (i * 1)).take 1 = [l[i]] from e] at this
    rw [List.getElem?_eq_getElem hil, str_lit this hx2]
  have hc : ∀ (i : Nat) v, l[i]? = some v → v.oneCell' = true → memW W 2 i = some v := fun i v h h1 => memW_of (by
    have := hcell i
    simpa [h] using this) h1
  exact ⟨⟨_, hc 0 _ (key 0 _ rfl) rfl, rfl⟩, ⟨_, hc 1 _ (key 1 _ rfl) rfl, rfl⟩, ⟨_, hc 2 _ (key 2 _ rfl) rfl, rfl⟩, ⟨_, hc 3 _ (key 3 _ rfl) rfl, rfl⟩, trivial⟩
theorem int_lit {W : World} {n : Nat} {v : Value} {x : DataW Unit × List MemPlace} {z : Int} {sp : Nat → Bool} {hd : Bool} (h : DataW.trod (fun _ => ()) Tryd.prog W 0 sp hd n 126 [v] = some x) (hx : x.1 = .lit (.int .u64 z)) : v = .int .u64 z := by
  obtain ⟨s', h1, h2, _⟩ := DataW.trod_int ui126 h
  simp only [List.cons.injEq, and_true] at h1
  subst h1 h2
  simp only [DataW.lit.injEq, Lit.int.injEq] at hx
  rw [hx.2]
theorem den_map {m : Mem} {b : Nat} {α : Type} (f : α → D) : ∀ {l : List α} {off : Nat}, (∀ (i : Nat) x, l[i]? = some x → ∃ v, m b (off + i) = some v ∧ (f x).Den m v) → DenC m b off (l.map f)
  | [], _, _ => trivial
  | x :: r, off, h => ⟨by simpa using h 0 x rfl, den_map f fun i y hy => by
      have := h (i + 1) y (by simpa using hy)
      rwa [show off + (i + 1) = off + 1 + i by omega] at this⟩
set_option maxRecDepth 100000 in
theorem p10_of {W : World} {cs : Array Value} {fuel : Nat} {p : List MemPlace} (hv : Tryd.prog.globalNamed "internal/strconv.uint64pow10" = some 5) (hw : W.var? Tryd.prog "internal/strconv.uint64pow10" = some cs)
    (hd : DataW.trod (fun _ => ()) Tryd.prog W 0 (fun _ => true) false fuel 140 cs.toList = some (Rows.laid_internal_strconv_uint64pow10, p)) : DenC (memW W) 5 0 p10D := by
  have hcell := fun i => World.var?_cell hv hw i
  have c9 : Tryd.prog.cellsOf 126 = 1 := by kernel_rfl
  have c86 : Tryd.prog.cellsOf 140 = 20 := by kernel_rfl
  obtain ⟨xs, m, _, ex, hcl, hl, hel⟩ := DataW.trod_array ua140 hd
  have ex1 : (DataW.agg (Lib.pow10Tab.map fun z => DataW.lit (.int .u64 z)) : DataW Unit) = .agg (xs.map (·.1)) := congrArg Prod.fst ex
  have ex2 := (DataW.agg.inj ex1).symm
  obtain ⟨l⟩ := cs
  rw [c86] at hcl
  rw [c9] at hel
  have key : ∀ (i : Nat) (z : Int), Lib.pow10Tab[i]? = some z → l[i]? = some (.int .u64 z) := fun i z hi => by
    have h1 := congrArg (fun l => l[i]?) ex2
    simp only [List.getElem?_map, hi, Option.map_some] at h1
    obtain ⟨x, hx1, hx2⟩ := Option.map_eq_some_iff.1 h1
    have hi4 : i < 20 := by have := (List.getElem?_eq_some_iff.1 hi).1; rwa [Lib.pow10Tab_length] at this
    have := hel i hi4
    rw [hx1] at this
    have hil : i < l.length := by have : l.length = 20 := hcl; omega
    have e : (List.take 1 (List.drop (i * 1) l)) = [l[i]] := by rw [Nat.mul_one, List.drop_eq_getElem_cons hil]; rfl
    rw [show (({ toList := l } : Array Value).toList.drop (i * 1)).take 1 = [l[i]] from e] at this
    rw [List.getElem?_eq_getElem hil, int_lit this hx2]
  have hc : ∀ (i : Nat) v, l[i]? = some v → v.oneCell' = true → memW W 5 i = some v := fun i v h h1 => memW_of (by
    have := hcell i
    simpa [h] using this) h1
  exact den_map _ fun i z hz => ⟨_, by rw [Nat.zero_add]; exact hc i _ (key i z hz) rfl, rfl⟩
theorem es_of {W : World} {cs : Array Value} {fuel : Nat} {p : List MemPlace} (hv : Tryd.prog.globalNamed "strconv.ErrSyntax" = some 3) (hw : W.var? Tryd.prog "strconv.ErrSyntax" = some cs)
    (hd : DataW.trod (fun _ => ()) Tryd.prog W 0 (fun _ => true) false fuel 40 cs.toList = some (Rows.laid_strconv_ErrSyntax, p)) : ∃ u v, DenC (memW W) 3 0 [.v (.iface u v)] := by
  have hu : ∃ ms, Tryd.prog.underlying 40 = some (.interface ms) := ⟨_, Tryd.underlying40⟩
  obtain ⟨ms, hu⟩ := hu
  obtain ⟨_, u, v, hcs, _, _⟩ := iface_of_trod hu hd
  obtain ⟨l⟩ := cs
  simp only at hcs
  subst hcs
  exact ⟨u, v, ⟨⟨_, memW_of (World.var?_cell hv hw 0) rfl, rfl⟩, trivial⟩⟩

theorem glob_of_laid {W : World} (h : laidMetH Tryd.prog Rows.termLawsRow.laid W) : ∃ u v, ∀ b, DenC (memW W) b 0 (glP (.iface u v) b) := by
  rw [MakeChecks.laidMetH_plain _ _ _ (by kernel_rfl)] at h
  have h' : laidMet Tryd.prog [("math/bits.deBruijn32tab", Rows.laid_math_bits_deBruijn32tab), ("math/bits.deBruijn64tab", Rows.laid_math_bits_deBruijn64tab), ("internal/strconv.uint64pow10", Rows.laid_internal_strconv_uint64pow10), ("provekernel/provekernelref.words", Rows.laid_provekernel_provekernelref_words), ("strconv.ErrRange", Rows.laid_strconv_ErrRange), ("strconv.ErrSyntax", Rows.laid_strconv_ErrSyntax), ("provekernel/level.words", Rows.laid_provekernel_level_words), ("provekernel/term.words", Rows.laid_provekernel_term_words)] W := h
  obtain ⟨ps, hL, _, _⟩ := h'
  obtain ⟨_, _, _, _, _, _, _, _, _, _, hL, _⟩ := hL
  obtain ⟨_, _, _, _, _, _, _, _, _, _, hL, _⟩ := hL
  obtain ⟨g3, t3, cs3, fu3, p3, q3, hg3, ht3, hv3, hd3, hL, _⟩ := hL
  obtain ⟨g4, t4, cs4, fu4, p4, q4, hg4, ht4, hv4, hd4, hL, _⟩ := hL
  obtain ⟨_, _, _, _, _, _, _, _, _, _, hL, _⟩ := hL
  obtain ⟨g6, t6, cs6, fu6, p6, q6, hg6, ht6, hv6, hd6, hL, _⟩ := hL
  obtain ⟨g5, t5, cs5, fu5, p5, q5, hg5, ht5, hv5, hd5, hL, _⟩ := hL
  obtain ⟨g7, t7, cs7, fu7, p7, q7, hg7, ht7, hv7, hd7, _, _⟩ := hL
  have n3 : Tryd.prog.globalNamed "internal/strconv.uint64pow10" = some 5 := by kernel_rfl
  have n4 : Tryd.prog.globalNamed "provekernel/provekernelref.words" = some 0 := by kernel_rfl
  have n5 : Tryd.prog.globalNamed "provekernel/level.words" = some 2 := by kernel_rfl
  have n6 : Tryd.prog.globalNamed "strconv.ErrSyntax" = some 3 := by kernel_rfl
  have n7 : Tryd.prog.globalNamed "provekernel/term.words" = some 1 := by kernel_rfl
  obtain rfl := Option.some.inj (n3.symm.trans hg3)
  obtain rfl := Option.some.inj (n4.symm.trans hg4)
  obtain rfl := Option.some.inj (n5.symm.trans hg5)
  obtain rfl := Option.some.inj (n6.symm.trans hg6)
  obtain rfl := Option.some.inj (n7.symm.trans hg7)
  obtain rfl := Option.some.inj ((show (Tryd.prog.globals[5]?).map (·.type) = some 140 by kernel_rfl).symm.trans ht3)
  obtain rfl := Option.some.inj ((show (Tryd.prog.globals[0]?).map (·.type) = some 77 by kernel_rfl).symm.trans ht4)
  obtain rfl := Option.some.inj ((show (Tryd.prog.globals[2]?).map (·.type) = some 117 by kernel_rfl).symm.trans ht5)
  obtain rfl := Option.some.inj ((show (Tryd.prog.globals[3]?).map (·.type) = some 40 by kernel_rfl).symm.trans ht6)
  obtain rfl := Option.some.inj ((show (Tryd.prog.globals[1]?).map (·.type) = some 95 by kernel_rfl).symm.trans ht7)
  obtain ⟨eu, ev, hes⟩ := es_of n6 hv6 hd6
  exact ⟨eu, ev, globP_of (rwords_of n4 hv4 hd4) (twords_of n7 hv7 hd7) (lwords_of n5 hv5 hd5) hes (p10_of n3 hv3 hd3)⟩

theorem door_met (os : Os) (args : Array Value) : laidMetH Tryd.prog Rows.termLawsRow.laid ((World.doorLaid Tryd.prog 400 os).forCall (fun _ _ => 0) ⟨#[], args, []⟩).memory :=
  laidMetH_of_parts3 (fuel := 8) (laidMet_of_run' 8 (by kernel_rfl) (by kernel_rfl)) (by kernel_rfl) (by kernel_rfl)

set_option maxRecDepth 100000 in
theorem termlaws_lifted (os : Os) (started : os.Started) (H : Type) (enc : TypeId × Value → H) :
    ReturnsInHanded {} Tryd.checked os 3 .any (fun w args => (Rows.termLawsSpec.pre enc Tryd.prog Tryd.f3 [] false w args ∧ laidMetH Tryd.prog Rows.termLawsRow.laid w) ∧ sizedMet enc Tryd.prog Tryd.f3 (OpenSpec.ofChange Rows.termLawsSpec) false w args)
      (Rows.termLawsSpec.post enc Tryd.prog Tryd.f3 false true false false) := by
  refine returnsInHanded_of_change_and (C := Tryd.checked) (X := fun w _ => laidMetH Tryd.prog Rows.termLawsRow.laid w) (fun _ _ _ hh h => h.of_heap hh) own started (by kernel_rfl) Tryd.func3
    (ChangeSpec.witness_shaped (enc := enc) (C := Tryd.checked) (os := os) (X := fun w _ => laidMetH Tryd.prog Rows.termLawsRow.laid w) false (World.doorLaid Tryd.prog 400 os) #[.slice none 0 0] 8 rfl (World.shaped_of_RefB (by kernel_rfl) (by kernel_rfl)) (by kernel_rfl) (by kernel_rfl) (by kernel_rfl) (door_met os _)) ?_
  intro W base args ds gs before hval0 hW _ _ hL _
  have hval : ∀ (j : Nat) t v, Tryd.f3.params[j]? = some t → args[j]? = some v → Value.okWide Tryd.prog W .any base t v := hval0
  have hW' := hW
  obtain ⟨p, q, hA0, hV, rfl, hfz, hnd⟩ := hW
  have hA : DataW.TrodAll enc Tryd.prog W 0 (fun _ => true) true Tryd.f3.params.toList args.toList ds p := hA0
  rw [Tryd.params3] at hA hval
  obtain ⟨v0, d0, rfl, rfl, h0⟩ := trodAll_one hA
  obtain ⟨rfl, rfl⟩ := trodVars_none hV
  obtain ⟨a, len, cap, rfl⟩ := okWide_slice us22 (hval 0 22 v0 rfl rfl)
  have h0' := h0
  obtain ⟨fuel, hf⟩ := h0
  obtain ⟨l, hl, hk⟩ := script_of_trod hf rfl
  obtain ⟨eu, ev, hglob⟩ := glob_of_laid hL
  have hcalls := calls_of_triD (w := W) (termLaws_spec (g := _) rfl rfl l hk) hglob (vs := [.slice a len cap]) ⟨_, [], rfl, hl, rfl⟩
  simp only [List.append_nil] at hW'
  refine hcalls.mono fun e W' ⟨v, d, m, he, hv, hd, hb⟩ => ?_
  subst hd
  simp only [D.Den] at hv
  subst hv
  have hlt : ∀ x ∈ p, x.block < W.heap.size := DataW.TrodAll.lt hA
  refine ⟨_, he, [d0], [], p, [], p, [], hW', trodAll_mk1 (shut_bool ub4 _), ?_, rfl, hb.frame _, fun h => by cases h⟩
  exact trodAll_mk1 (hb.trod (by kernel_rfl) (by kernel_rfl) (of_decide_eq_true (by kernel_rfl)) h0' hlt)

theorem termlaws_holds : Rows.TermLawsSaid :=
  OpenClaim.holds_of_wide 3 Tryd.f3 rfl rfl rfl rfl rfl rfl rfl ⟨rfl, rfl, rfl, rfl, rfl⟩ rfl rfl rfl rfl rfl (by kernel_rfl) Tryd.func3 (by kernel_rfl)
    (of_decide_eq_true (by kernel_rfl)) (by unfold Func.isWrapper; first | (rw [if_pos (by decide +kernel)]; kernel_rfl) | (rw [if_neg (by decide +kernel)]; exact ⟨rfl, rfl⟩))
    (fun os started H enc _ => termlaws_lifted os started H enc)
theorem termlaws_card_holds : Rows.TermLawsCardSaid :=
  Claim7.holds_tied_plain_at .later [] [.data, .data, .data, .data, .sentinel, .sentinel, .data, .widerDeep] true (true, "8fd9a4448800c6a7f1fa3b7de6809a961663b75275411ea702d8b03e97acd5c5") true
    termlaws_holds (fun _ h => by cases h) (by kernel_rfl) (fun _ h => by cases h) termLaws_row_tie rfl ⟨rfl, rfl⟩ (by kernel_rfl) rfl
    (fun f fn hf hfn => by
      obtain rfl : f = 3 := Option.some.inj ((show Tryd.prog.funcNamed "provekernel/provekernellaw.TermLaws" = some 3 by kernel_rfl).symm.trans hf) |>.symm
      obtain rfl : fn = Tryd.f3 := (Option.some.inj (Tryd.func3.symm.trans hfn)).symm
      exact ⟨by kernel_rfl, fun j t ht => by
        rw [Tryd.params3] at ht
        have hm : t ∈ [22] := by simpa using Array.mem_of_getElem? ht
        have hall : ([22].all fun u => !Tryd.prog.wantsStandIn u) = true := by kernel_rfl
        exact (show Tryd.prog.wantsStandIn t = false by simpa using List.all_eq_true.1 hall t hm)⟩)
    (by kernel_rfl)
#print axioms termlaws_card_holds
end Go.Proofs.YtneaancanfpdhaaDoor
