/-
  What is proved here: contracts of the program's forms of levels: join, leq.
-/
import Derived.Test.YtafhnnbbfgoacaaDoorYFacts
import Derived.Test.YtafhnnbbfgoacaaDoorYForm
set_option linter.unusedSimpArgs false
set_option linter.unusedVariables false
namespace Go.Proofs.YtafhnnbbfgoacaaDoor
open Go Go.Vd Go.RowKit
attribute [local irreducible] Runs OpsR OpR FloatR AnyR AnyO
variable {gl : Nat → List D}

theorem join_spec (n gn up : Int) (f g : MapF) (L : List ByteArray) (hn : 0 ≤ n ∧ n ≤ 1125899906842624) (hgn : 0 ≤ gn ∧ gn ≤ 1125899906842624) (hu : 0 ≤ up ∧ up ≤ 1) (hg : ∀ p m, g p = some m → 0 ≤ m ∧ m ≤ 1125899906842624) (hL : ∀ p m, g p = some m → p ∈ L) :
    Tri Tryd.prog gl 56 [.cells [.d (.v (.int .i64 n)), .map 1] 80, .mapI f, .mapI g] [.blk 0 0, .agg [.d (.v (.int .i64 gn)), .map 2], .d (.v (.int .i64 up))] fun out ob' => out = .ret (.d (.tup [])) ∧ ob' = [.cells [.d (.v (.int .i64 (max n (gn + up)))), .map 1] 80, .mapI (joinM f g up), .mapI g] := by
  refine triS_of_runs Tryd.func56 rfl Tryd.ntmps56 (rs := []) rfl rfl rfl 3 rfl ?_
  refine sr ?_; refine oc (T := fun _ => False) (bx ti80 ?_ (hl := by simp only [List.length_cons, List.length_nil, Nat.reduceAdd]; rfl)); refine nx ?_; refine runs_seq ?_; refine a_start ?_ (hm := by exact mixed)
  refine A1 0 rfl (mv ⟨_, rfl, ?_⟩); refine A1 1 rfl (mv ⟨_, rfl, ?_⟩); refine A1 2 rfl (ncb ⟨_, rfl, ?_⟩); refine A1 3 rfl (fdb ti80 ⟨_, rfl, ?_⟩); refine A1 4 rfl (ldb ti3 ⟨_, rfl, ?_⟩); refine A1 5 rfl (fdb ti80 ⟨_, rfl, ?_⟩)
  refine A1 6 rfl (ldb ti3 ⟨_, rfl, ?_⟩); refine A1 7 rfl (mv ⟨_, rfl, ?_⟩); refine A1 8 rfl (iad ⟨_, rfl, ?_⟩); refine A1 9 rfl (f_max ⟨_, rfl, ?_⟩); refine A1 10 rfl (ncb ⟨_, rfl, ?_⟩); refine A1 11 rfl (fdb ti80 ⟨_, rfl, ?_⟩)
  refine A2 12 rfl (sto ti3 ?_); refine a_end ?_; refine seq_normal ?_; refine kp [4, 0, 2] ?_; refine sr ?_; refine o1 (fdb ti80 ?_); refine o1 (ldb ti59 ?_)
  refine oc (T := fun _ => False) (op_range mt59 rfl rfl rfl rfl rfl (by simp only [List.length_cons, List.length_nil, Nat.reduceAdd]; rfl) rfl ?_); refine nx ?_; refine runs_block ?_; refine kp [24, 0, 2] ?_
  apply runs_loop_o (ι := List (ByteArray × Int)) (fun dn => []) (fun dn => [.cells [.d (.v (.int .i64 (max n (gn + up)))), .map 1] 80, .mapI (joinL f up dn), .mapI g, .cells [.d (.v (.int .i64 gn)), .map 2] 80, .itI 2 g dn none]) [24, 0, 2] (fun dn => (dn.map Prod.fst).Nodup ∧ ∀ p ∈ dn, g p.1 = some p.2) (fun dn => L.length - dn.length) ([]) ([0, 1, 2, 3, 4])
  case hk => exact rfl
  case hI =>
    exact ⟨by simp, by simp⟩
  case hm =>
    refine mei ?_ (sly (sly (sly slz))) (by repeat (first | exact trivial | refine And.intro rfl ?_))
    repeat (first | exact boz | refine boc ?_ | refine bom ?_ | refine boi ?_)
  case h =>
    rintro dn hinv
    try dsimp only at hinv
    refine kp [24, 0, 2] ?_; refine sr ?_; refine oc (op_next rfl rfl rfl rfl rfl rfl (fun hall => ?_) (fun ks kv hkv hnew => ⟨_, rfl, ?_⟩))
    · refine o1 (ex2 ?_)
      refine nx ?_; refine runs_seq ?_; refine cd (fun h3 => ?_) (fun h3 => ?_)
      · simp only [nrm, Int.reduceEq, Int.reduceNe, Int.reduceLT, Int.reduceLE] at h3
      (try simp only [nrm, Int.reduceEq, Int.reduceNe, Int.reduceLT, Int.reduceLE] at h3); refine runs_exit ?_; refine seq_exit ?_; refine seq_exit ?_; refine inb_exit ?_; refine fin_normal ?_
      refine fin_od (l := []) rfl rfl ([0, 1, 2]) ([.cells [.d (.v (.int .i64 (max n (gn + up)))), .map 1] 80, .mapI (joinL f up dn), .mapI g]) rfl rfl rfl ?_ ?_
      · repeat (first | exact boz | refine boc ?_ | refine bom ?_)
      · exact ⟨rfl, by rw [joinL_all hinv.1 hinv.2 hall]⟩
    have hkb := hg ks kv hkv
    refine o1 (ex2 ?_); refine nx ?_; refine runs_seq ?_; refine cdf (fun h3 => ?_) (fun h3 => ?_)
    · simp only [nrm, Int.reduceEq, Int.reduceNe, Int.reduceLT, Int.reduceLE] at h3
    (try simp only [nrm, Int.reduceEq, Int.reduceNe, Int.reduceLT, Int.reduceLE] at h3); refine runs_skip ?_; refine seq_normal ?_; refine runs_block ?_; refine sr ?_; refine oc (T := fun _ => False) (op_entry rfl rfl rfl rfl rfl ?_)
    refine o1 (ex2 ?_); refine o1 (ex2 ?_); refine o1 (asg ?_); refine o1 (asg ?_); refine nx ?_; refine kp [7, 6, 24, 0, 2] ?_; refine sr ?_; refine o1 (mv ?_); refine o1 (ncb ?_); refine o1 (fdb ti80 ?_); refine o1 (ldb ti59 ?_)
    refine o1 (mv ?_); refine oc (op_lookup2 mt59 rfl rfl rfl rfl rfl rfl ?_); refine o1 (mv ?_); refine o1 (ex2 ?_); refine o1 (ex2 ?_); refine o1 (asg ?_); refine o1 (asg ?_); refine nx ?_; refine kp [9, 8, 7, 6, 24, 0, 2] ?_; refine sr ?_
    refine o1 (mv ?_); refine o1 (f_not ?_); refine o1 (mv ?_)
    apply ops_or (yt := 46) (d := 41) 5 rfl rfl rfl (.none rfl) rfl rfl
    case h1 =>
      intro hb4 hK
      have hc := hb4; (try simp only [nrm, Int.reduceEq, Int.reduceNe, Int.reduceLT, Int.reduceLE] at hc)
      refine gye ?_ (hbw := by exact hb4); refine o1 (mv ?_); refine gye ?_ (hbw := by exact hb4); refine o1 (mv ?_); refine gye ?_ (hbw := by exact hb4); refine o1 (iad ?_); refine gye ?_ (hbw := by exact hb4); refine o1 (mv ?_)
      refine gye ?_ (hbw := by exact hb4); refine o1 (igt ?_); exact hK [_, _, _, _, _] rfl rfl
    case h2 =>
      intro hb4 hK; refine gno ?_ (hbw := by exact hb4); refine gno ?_ (hbw := by exact hb4); refine gno ?_ (hbw := by exact hb4); refine gno ?_ (hbw := by exact hb4); refine gno ?_ (hbw := by exact hb4); exact hK [_, _, _, _, _] rfl
    refine nx ?_; refine cdf (fun h6 => ?_) (fun h6 => ?_)
    · (try simp only [nrm, Int.reduceEq, Int.reduceNe, Int.reduceLT, Int.reduceLE] at h6)
      refine runs_skip ?_; refine inb_normal ?_; refine seq_back ?_
      first | rw [putM_yes (f := joinL f up dn) h6] | rw [putM_no (f := joinL f up dn) h6.1 h6.2]
      refine back_c ((ks, kv) :: dn) rfl ?_ ([0, 1, 2, 3, 4]) ?_
      · have h8 := joinL_step hinv.1 hinv.2 hkv hnew
        have h9 := dn_len h8.1 h8.2 hL
        simp only [List.length_cons] at h9
        exact ⟨h8, by simp only [List.length_cons]; omega⟩
      · refine mei ?_ (sly (sly (sly slz))) (by repeat (first | exact trivial | refine And.intro rfl ?_))
        repeat (first | exact boz | refine boc ?_ | refine bom ?_ | refine boi ?_)
    (try simp only [nrm, Int.reduceEq, Int.reduceNe, Int.reduceLT, Int.reduceLE] at h6); refine kp [7, 6, 24, 0, 2] ?_; refine runs_region ?_; refine o1 (mv ?_); refine o1 (ncb ?_); refine o1 (fdb ti80 ?_); refine o1 (ldb ti59 ?_)
    refine o1 (mv ?_); refine o1 (mv ?_); refine o1 (mv ?_); refine o1 (iad ?_); refine oc (op_mapupd mt59 rfl rfl rfl rfl rfl rfl rfl rfl ?_); refine ops_nil ?_; refine inb_normal ?_; refine seq_back ?_
    first | rw [putM_yes (f := joinL f up dn) h6] | rw [putM_no (f := joinL f up dn) h6.1 h6.2]
    refine back_c ((ks, kv) :: dn) rfl ?_ ([0, 1, 2, 3, 4]) ?_
    · have h8 := joinL_step hinv.1 hinv.2 hkv hnew
      have h9 := dn_len h8.1 h8.2 hL
      simp only [List.length_cons] at h9
      exact ⟨h8, by simp only [List.length_cons]; omega⟩
    · refine mei ?_ (sly (sly (sly slz))) (by repeat (first | exact trivial | refine And.intro rfl ?_))
      repeat (first | exact boz | refine boc ?_ | refine bom ?_ | refine boi ?_)

theorem fleq_spec (n m : Int) (f g : MapF) (L : List ByteArray) (hL : ∀ p x, f p = some x → p ∈ L) :
    Tri Tryd.prog gl 47 [.mapI f, .mapI g] [.agg [.d (.v (.int .i64 n)), .map 0], .agg [.d (.v (.int .i64 m)), .map 1]] fun out ob' => ∃ b, out = .ret (.d (.v (.bool b))) ∧ ob' = [.mapI f, .mapI g] ∧ (b = true ↔ FLe n f m g) := by
  refine triS_of_runs Tryd.func47 rfl Tryd.ntmps47 (rs := [.tmp 4]) rfl rfl rfl 2 rfl ?_
  refine sr ?_; refine oc (T := fun _ => False) (bx ti80 ?_ (hl := by simp only [List.length_cons, List.length_nil, Nat.reduceAdd]; rfl))
  refine oc (T := fun _ => False) (bx ti80 ?_ (hl := by simp only [List.length_cons, List.length_nil, Nat.reduceAdd]; rfl)); refine o1 (asg ?_); refine nx ?_; refine runs_seq ?_; refine sr ?_; refine o1 (fdb ti80 ?_); refine o1 (ldb ti59 ?_)
  refine oc (T := fun _ => False) (op_range mt59 rfl rfl rfl rfl rfl (by simp only [List.length_cons, List.length_nil, Nat.reduceAdd]; rfl) rfl ?_); refine nx ?_; refine runs_block ?_; refine kp [11, 3, 2] ?_
  apply runs_loop_o (ι := List (ByteArray × Int)) (fun dn => []) (fun dn => [.mapI f, .mapI g, .cells [.d (.v (.int .i64 n)), .map 0] 80, .cells [.d (.v (.int .i64 m)), .map 1] 80, .itI 0 f dn none]) [11, 3, 2] (fun dn => ((dn.map Prod.fst).Nodup ∧ ∀ p ∈ dn, f p.1 = some p.2) ∧ ∀ p ∈ dn, ∃ y, g p.1 = some y ∧ p.2 ≤ y) (fun dn => L.length - dn.length) ([]) ([0, 1, 2, 3, 4])
  case hk => exact rfl
  case hI =>
    exact ⟨⟨by simp, by simp⟩, by simp⟩
  case hm =>
    refine mei ?_ (sly (sly (sly slz))) (by repeat (first | exact trivial | refine And.intro rfl ?_))
    repeat (first | exact boz | refine boc ?_ | refine bom ?_ | refine boi ?_)
  case h =>
    rintro dn hinv
    try dsimp only at hinv
    refine kp [11, 3, 2] ?_; refine sr ?_; refine oc (op_next rfl rfl rfl rfl rfl rfl (fun hall => ?_) (fun ks kv hkv hnew => ⟨_, rfl, ?_⟩))
    · refine o1 (ex2 ?_)
      refine nx ?_; refine runs_seq ?_; refine cd (fun h2 => ?_) (fun h2 => ?_)
      · simp only [nrm, Int.reduceEq, Int.reduceNe, Int.reduceLT, Int.reduceLE] at h2
      (try simp only [nrm, Int.reduceEq, Int.reduceNe, Int.reduceLT, Int.reduceLE] at h2); refine runs_exit ?_; refine seq_exit ?_; refine seq_exit ?_; refine inb_exit ?_; refine seq_normal ?_; refine sr ?_; refine o1 (fdb ti80 ?_)
      refine o1 (ldb ti3 ?_); refine o1 (fdb ti80 ?_); refine o1 (ldb ti3 ?_); refine o1 (ile ?_); refine o1 (asg ?_); refine nx ?_; refine runs_ret ?_; refine fin_ret ?_
      refine fin_odl ⟨_, _, rfl, rfl, rfl⟩ rfl (.v (.bool (decide (n ≤ m)))) (by exact .refl _) ([0, 1]) ([.mapI f, .mapI g]) rfl rfl rfl ?_ ?_
      · repeat (first | exact boz | refine bom ?_)
      · refine ⟨_, rfl, rfl, ?_⟩
        rw [decide_eq_true_eq]
        exact ⟨fun e => ⟨fun p x hx => hinv.2 (p, x) (hall p x hx), e⟩, fun hF => hF.2⟩
    refine o1 (ex2 ?_); refine nx ?_; refine runs_seq ?_; refine cdf (fun h2 => ?_) (fun h2 => ?_)
    · simp only [nrm, Int.reduceEq, Int.reduceNe, Int.reduceLT, Int.reduceLE] at h2
    (try simp only [nrm, Int.reduceEq, Int.reduceNe, Int.reduceLT, Int.reduceLE] at h2); refine runs_skip ?_; refine seq_normal ?_; refine runs_block ?_; refine sr ?_; refine oc (T := fun _ => False) (op_entry rfl rfl rfl rfl rfl ?_)
    refine o1 (ex2 ?_); refine o1 (ex2 ?_); refine o1 (asg ?_); refine o1 (asg ?_); refine nx ?_; refine kp [6, 5, 11, 3, 2] ?_; refine sr ?_; refine o1 (fdb ti80 ?_); refine o1 (ldb ti59 ?_); refine o1 (mv ?_)
    refine oc (op_lookup2 mt59 rfl rfl rfl rfl rfl rfl ?_); refine o1 (mv ?_); refine o1 (ex2 ?_); refine o1 (ex2 ?_); refine o1 (asg ?_); refine o1 (asg ?_); refine nx ?_; refine kp [8, 7, 6, 11, 3, 2] ?_; refine sr ?_; refine o1 (mv ?_)
    refine o1 (f_not ?_); refine o1 (mv ?_)
    apply ops_or (yt := 29) (d := 26) 3 rfl rfl rfl (.none rfl) rfl rfl
    case h1 =>
      intro hb4 hK
      have hc := hb4; (try simp only [nrm, Int.reduceEq, Int.reduceNe, Int.reduceLT, Int.reduceLE] at hc)
      refine gye ?_ (hbw := by exact hb4); refine o1 (mv ?_); refine gye ?_ (hbw := by exact hb4); refine o1 (mv ?_); refine gye ?_ (hbw := by exact hb4); refine o1 (igt ?_); exact hK [_, _, _] rfl rfl
    case h2 =>
      intro hb4 hK; refine gno ?_ (hbw := by exact hb4); refine gno ?_ (hbw := by exact hb4); refine gno ?_ (hbw := by exact hb4); exact hK [_, _, _] rfl
    refine nx ?_; refine cd (fun h5 => ?_) (fun h5 => ?_)
    · (try simp only [nrm, Int.reduceEq, Int.reduceNe, Int.reduceLT, Int.reduceLE] at h5)
      refine kp [] ?_; refine sr ?_; refine o1 (asg ?_); refine nx ?_; refine runs_ret ?_; refine inb_ret ?_; refine seq_ret ?_; refine inb_ret ?_; refine seq_ret ?_; refine fin_ret ?_
      refine fin_odl ⟨_, _, rfl, rfl, rfl⟩ rfl (.v (.bool false)) (by exact .refl _) ([0, 1]) ([.mapI f, .mapI g]) rfl rfl rfl ?_ ?_
      · repeat (first | exact boz | refine bom ?_)
      · refine ⟨false, rfl, rfl, fun e => (by cases e), fun hF => ?_⟩
        obtain ⟨y, hy, hxy⟩ := hF.1 ks kv hkv
        rw [hy] at h5; simp at h5; omega
    (try simp only [nrm, Int.reduceEq, Int.reduceNe, Int.reduceLT, Int.reduceLE] at h5); refine runs_skip ?_; refine inb_normal ?_; refine seq_back ?_; refine back_c ((ks, kv) :: dn) rfl ?_ ([0, 1, 2, 3, 4]) ?_
    · have h8 := joinL_step hinv.1.1 hinv.1.2 hkv hnew
      have h9 := dn_len h8.1 h8.2 hL
      simp only [List.length_cons] at h9
      refine ⟨⟨h8, fun p hp => ?_⟩, by simp only [List.length_cons]; omega⟩
      rcases List.mem_cons.1 hp with rfl | hp
      · cases hgk : g ks with
        | none => rw [hgk] at h5; simp at h5
        | some y => rw [hgk] at h5; exact ⟨y, rfl, by simpa using h5⟩
      · exact hinv.2 p hp
    · refine mei ?_ (sly (sly (sly slz))) (by repeat (first | exact trivial | refine And.intro rfl ?_))
      repeat (first | exact boz | refine boc ?_ | refine bom ?_ | refine boi ?_)
end Go.Proofs.YtafhnnbbfgoacaaDoor
