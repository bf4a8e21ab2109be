/-
  What is proved here, text by text: the contract of Closed. contracts of Closed and Has, the program's and the reference's. contracts of the reference's Spine, Apply. contracts of slices.Reverse at terms, New, Spine, Apply. contracts of Spine, New, Apply. the contract of the reference's Apply. contracts of the reference's functions on levels: Worth, SubstLevel, PrintLevel; and of the statements' own: sameNames, limit. contracts of the reference's functions on levels: SubstLevel, PrintLevel. the contract of slices.Index over texts. contracts of the program's functions on levels: Worth, Subst, and of slices.Contains. contracts of Levels (levels in place of parameters, in a term), the program's and the reference's. the contract of the reference's Levels. the reference's way to compare levels, by few numbers, is below under all numbers. No program in sight. terms held against each other but for what their levels are worth, as plain functions. contracts of the program's forms of levels: join, leq. the contract of the program's shape of levels. contracts of the program's leq, Leq, Same: below under all numbers. contracts of the program's Equal of terms (levels held by what they are worth), of slices.EqualFunc under it, of Written. contracts of the reference's succs, Leq, Same. the contract of the reference's SameLevel.
-/
import Derived.Test.YtneaancanfpdhaaGreatDoorI4
set_option linter.unusedSimpArgs false
set_option linter.unusedVariables false
namespace Go.Proofs.YtneaancanfpdhaaGreatDoor
open Go Go.Vd Go.RowKit
attribute [local irreducible] Runs OpsR OpR FloatR AnyR AnyO
variable {g gl : Nat → List D}
theorem some1_spec {G : Trm → Int → Bool} {f : FuncId} (hcf : callable Tryz.prog f = true) {x1 : D} {ty1 : TypeId}
    (hf : ∀ (k m : Int) (s : ByteArray) (ls : List Lvl) (args : List Trm) (d : Int), 0 ≤ d → d ≤ 1099511627776 → Tri Tryz.prog gl f [.cells [.d x1] ty1] [.d (Trm.mk k m s ls args).d, .d (.v (.int .i64 d)), .blk 0 0] fun out ob' => out = .ret (.d (.v (.bool (G (.mk k m s ls args) d)))) ∧ ob' = [.cells [.d x1] ty1]) :
    ∀ (n : Nat) (k m : Int) (s : ByteArray) (ls : List Lvl) (args : List Trm) (d : Int), (Trm.mk k m s ls args).size ≤ n → 0 ≤ d → d + (Trm.mk k m s ls args).size ≤ 1099511627776 →
      Tri Tryz.prog gl 49 [.cells [.d x1] ty1] [.d (Trm.mk k m s ls args).d, .d (.v (.int .i64 d)), .fn (.func f) [] [.blk 0 0]] fun out ob' => out = .ret (.d (.v (.bool (someT G (.mk k m s ls args) d)))) ∧ ob' = [.cells [.d x1] ty1] := by
  intro n
  induction n with
  | zero => intro k m s ls args d h; simp [Trm.size] at h
  | succ n ih =>
    intro k m s ls args d hsz hd0 hd1
    have hsz2 := hsz
    simp only [Trm.size] at hsz2 hd1
    have hal := trms_len args
    have hsa := sizesT_len args
    have hcx := hf k m s ls args d hd0 (by omega)
    refine triS_of_runs Tryz.func49 rfl Tryz.ntmps49 (rs := [.tmp 6]) rfl rfl rfl 1 rfl ?_
    refine sr ?_; refine oc (T := fun _ => False) (bx ti31 ?_ (hl := by simp only [List.length_cons, List.length_nil, Nat.reduceAdd]; rfl)); refine o1 (asg ?_); refine nx ?_; refine runs_seq ?_; refine sr ?_; refine o1 (mv ?_)
    refine o1 (ldb ti31 ?_); refine o1 (mv ?_); refine oc (op_callc hcf rfl rfl rfl rfl rfl rfl rfl rfl (hcx) ([0]) (boc .nil) rfl rfl rfl rfl (fid (fir (fir .nil))) (fun s ob' hq => ?_) (fun s ob' hq => ?_))
    rotate_left
    · first | exact hq.elim | cases hq.1
    obtain ⟨hq1, rfl⟩ := hq; cases hq1; refine ⟨_, _, _, _, _, rfl, rfl, rfl, rfl, rfl, ?_⟩; refine nx ?_; refine cd (fun h1 => ?_) (fun h1 => ?_)
    · (try simp only [nrm, Int.reduceEq, Int.reduceNe, Int.reduceLT, Int.reduceLE] at h1)
      refine kp [] ?_; refine sr ?_; refine o1 (asg ?_); refine nx ?_; refine runs_ret ?_; refine seq_ret ?_; refine fin_ret ?_
      refine fin_odl ⟨_, _, rfl, rfl, rfl⟩ rfl (.v (.bool true)) (by exact .refl _) ([0]) ([.cells [.d x1] ty1]) rfl rfl rfl ?_ ?_
      · repeat (first | exact boz | refine boc ?_)
      · rw [someT, h1, Bool.true_or]; exact ⟨rfl, rfl⟩
    (try simp only [nrm, Int.reduceEq, Int.reduceNe, Int.reduceLT, Int.reduceLE] at h1); refine runs_skip ?_; refine seq_normal ?_; refine runs_seq ?_; refine kp [3, 1, 2] ?_; refine sr ?_; refine o1 (fdb ti31 ?_); refine o1 (ldb ti29 ?_)
    refine o1 (le1 us29 ?_); refine o1 (mv ?_); refine nx ?_; refine runs_block ?_; refine kp [17, 16, 15, 3, 1, 2] ?_
    apply runs_loop_o (ι := Nat) (fun i => [(17, int i)]) (fun i => [.cells [.d x1] ty1, .cells [.d (.v (.int .i64 k)), .d (.v (.int .i64 m)), .d (.v (.string s)), .d (.sl 3 (lvls ls)), .d (.sl 5 (trms args))] 31]) [16, 15, 3, 1, 2] (fun i => i ≤ args.length ∧ ∀ (j : Nat) t, j < i → args[j]? = some t → someT G t (if decide (4 ≤ k) = true ∧ j + 1 = args.length then d + 1 else d) = false) (fun i => args.length - i) (0) ([0, 1])
    case hk => exact rfl
    case hI =>
      exact ⟨Nat.zero_le _, fun j t h => absurd h (Nat.not_lt_zero _)⟩
    case hm =>
      refine mo ?_ (sly (sly (sly (sly (sly (sly slz))))))
      repeat (first | exact boz | refine boc ?_)
    case h =>
      rintro i hinv
      try dsimp only at hinv
      refine kp [17, 16, 15, 3, 1, 2] ?_; refine sr ?_; refine o1 (ilt ?_); refine nx ?_; refine runs_seq ?_; refine cdf (fun h4 => ?_) (fun h4 => ?_)
      · (try simp only [nrm, Int.reduceEq, Int.reduceNe, Int.reduceLT, Int.reduceLE] at h4)
        refine runs_exit ?_; refine seq_exit ?_; refine seq_exit ?_; refine inb_exit ?_; refine seq_normal ?_; refine kp [] ?_; refine sr ?_; refine o1 (asg ?_); refine nx ?_; refine runs_ret ?_; refine fin_ret ?_
        refine fin_odl ⟨_, _, rfl, rfl, rfl⟩ rfl (.v (.bool false)) (by exact .refl _) ([0]) ([.cells [.d x1] ty1]) rfl rfl rfl ?_ ?_
        · repeat (first | exact boz | refine boc ?_)
        · rw [someT, h1, Bool.false_or, someTs_false (fun j t ht => hinv.2 j t (by have := (List.getElem?_eq_some_iff.1 ht).1; omega) ht)]; exact ⟨rfl, rfl⟩
      (try simp only [nrm, Int.reduceEq, Int.reduceNe, Int.reduceLT, Int.reduceLE] at h4); refine runs_skip ?_; refine seq_normal ?_; refine runs_seq ?_; refine runs_block ?_; refine runs_seq ?_
      obtain ⟨k2, m2, s2, l2, a2, hget⟩ := trm_get (show i < args.length by omega)
      have hg1 := sizeT_get hget
      refine runs_region ?_; refine o1 (mv ?_); refine o1 (ixs us29 te29 ?_ (he := by exact (trm_at hget))); refine o1 (ldc ti31 ?_)
      refine oc (T := fun _ => False) (alc ti31 ?_ (hl := by simp only [List.length_cons, List.length_nil, Nat.reduceAdd]; rfl)); refine o1 (asg ?_); refine oc (sto ti31 ?_); refine nx ?_; refine kp [7, 8, 17, 16, 15, 3, 1, 2] ?_; refine sr ?_
      refine o1 (mv ?_); refine o1 (asg ?_); refine nx ?_; refine runs_seq ?_; refine sr ?_; refine o1 (fdb ti31 ?_); refine o1 (ldb ti3 ?_); refine o1 (ige ?_); refine o1 (mv ?_)
      apply ops_and (yt := 32) (d := 26) 6 rfl rfl rfl (.none rfl) rfl rfl
      case h1 =>
        intro hb7 hK
        have hc := hb7; (try simp only [nrm, Int.reduceEq, Int.reduceNe, Int.reduceLT, Int.reduceLE] at hc)
        refine gye ?_ (hbw := by exact hb7); refine o1 (mv ?_); refine gye ?_ (hbw := by exact hb7); refine o1 (fdb ti31 ?_); refine gye ?_ (hbw := by exact hb7); refine o1 (ldb ti29 ?_); refine gye ?_ (hbw := by exact hb7); refine o1 (le1 us29 ?_)
        refine gye ?_ (hbw := by exact hb7); refine o1 (isu ?_); refine gye ?_ (hbw := by exact hb7); refine o1 (ieq ?_); exact hK [_, _, _, _, _, _] rfl rfl
      case h2 =>
        intro hb7 hK; refine gno ?_ (hbw := by exact hb7); refine gno ?_ (hbw := by exact hb7); refine gno ?_ (hbw := by exact hb7); refine gno ?_ (hbw := by exact hb7); refine gno ?_ (hbw := by exact hb7); refine gno ?_ (hbw := by exact hb7)
        exact hK [_, _, _, _, _, _] rfl
      refine nx ?_; refine kp [33, 9, 8, 17, 16, 15, 3, 1, 2] ?_
      apply runs_cut_c (ι := Unit) (fun _ => [(9, int (if decide (4 ≤ k) = true ∧ i + 1 = args.length then d + 1 else d))]) [8, 17, 16, 15, 3, 1, 2] (fun _ => True)
      case hk => exact rfl
      case h1 =>
        refine cdf (fun h7 => ?_) (fun h7 => ?_)
        · (try simp only [nrm, Int.reduceEq, Int.reduceNe, Int.reduceLT, Int.reduceLE] at h7)
          refine runs_skip ?_; refine seq_back ?_; refine back_i (()) rfl ?_ ?_
          · trivial
          · refine mo ?_ (slx rfl (by exact Fit.of_eq (by first | (rw [if_pos (by simp only [decide_eq_true_eq]; omega)]; rfl) | (rw [if_neg (by simp only [decide_eq_true_eq]; omega)]; rfl))) (sly (sly (sly (sly (sly (sly (sly slz))))))))
            repeat (first | exact boz | refine boc ?_)
        (try simp only [nrm, Int.reduceEq, Int.reduceNe, Int.reduceLT, Int.reduceLE] at h7); refine runs_region ?_; refine o1 (mv ?_); refine o1 (iad ?_); refine o1 (asg ?_); refine ops_nil ?_; refine seq_back ?_; refine back_i (()) rfl ?_ ?_
        · trivial
        · refine mo ?_ (slx rfl (by exact Fit.of_eq (by first | (rw [if_pos (by simp only [decide_eq_true_eq]; omega)]; rfl) | (rw [if_neg (by simp only [decide_eq_true_eq]; omega)]; rfl))) (sly (sly (sly (sly (sly (sly (sly slz))))))))
          repeat (first | exact boz | refine boc ?_)
      case h2 =>
        rintro _ hcut
        try dsimp only at hcut
        refine kp [9, 8, 17, 16, 15, 3, 1, 2] ?_; refine runs_seq ?_
        have hihx := ih k2 m2 s2 l2 a2 (if decide (4 ≤ k) = true ∧ i + 1 = args.length then d + 1 else d) (by omega) (by split <;> omega) (by split <;> omega)
        refine runs_region ?_; refine o1 (ldb ti31 ?_); refine o1 (mv ?_); refine o1 (mv ?_); refine oc (ck ca49 rfl rfl (hihx) [0] rfl (boc .nil) (fid (fir (fir .nil))) ?_); refine nx ?_; refine cd (fun h9 => ?_) (fun h9 => ?_)
        · (try simp only [nrm, Int.reduceEq, Int.reduceNe, Int.reduceLT, Int.reduceLE] at h9)
          refine kp [] ?_; refine sr ?_; refine o1 (asg ?_); refine nx ?_; refine runs_ret ?_; refine inb_ret ?_; refine seq_ret ?_; refine seq_ret ?_; refine inb_ret ?_; refine seq_ret ?_; refine fin_ret ?_
          refine fin_odl ⟨_, _, rfl, rfl, rfl⟩ rfl (.v (.bool true)) (by exact .refl _) ([0]) ([.cells [.d x1] ty1]) rfl rfl rfl ?_ ?_
          · repeat (first | exact boz | refine boc ?_)
          · rw [someT, someTs_true hget (by simpa only [decide_eq_true_eq] using h9), Bool.or_true]; exact ⟨rfl, rfl⟩
        (try simp only [nrm, Int.reduceEq, Int.reduceNe, Int.reduceLT, Int.reduceLE] at h9); refine runs_skip ?_; refine inb_normal ?_; refine seq_normal ?_; refine kp [17, 16, 15, 3, 1, 2] ?_; refine runs_region ?_; refine o1 (iad ?_)
        refine o1 (mv ?_); refine ops_nil ?_; refine seq_back ?_; refine back_c (i + 1) rfl ?_ ([0, 1]) ?_
        · exact ⟨⟨by omega, fun j t hj ht => by
          rcases Nat.lt_or_ge j i with h | h
          · exact hinv.2 j t h ht
          · obtain rfl : j = i := by omega
            rw [hget] at ht; cases ht
            simpa only [decide_eq_true_eq] using h9⟩, by omega⟩
        · refine mo ?_ (sly (sly (sly (sly (sly (sly slz))))))
          repeat (first | exact boz | refine boc ?_)
theorem closed1_spec {n0 : Int} (h0 : 0 ≤ n0 ∧ n0 ≤ 1099511627776) (k m : Int) (s : ByteArray) (ls : List Lvl) (args : List Trm) (d : Int) (hd0 : 0 ≤ d) (hd1 : d ≤ 1099511627776) :
    Tri Tryz.prog gl 50 [.cells [.d (.v (.int .i64 n0))] 3] [.d (Trm.mk k m s ls args).d, .d (.v (.int .i64 d)), .blk 0 0] fun out ob' => out = .ret (.d (.v (.bool (openF n0 (.mk k m s ls args) d)))) ∧ ob' = [.cells [.d (.v (.int .i64 n0))] 3] := by
  refine triS_of_runs Tryz.func50 rfl Tryz.ntmps50 (rs := [.tmp 5]) rfl rfl rfl 1 rfl ?_
  refine sr ?_; refine oc (T := fun _ => False) (bx ti31 ?_ (hl := by simp only [List.length_cons, List.length_nil, Nat.reduceAdd]; rfl)); refine o1 (asg ?_); refine nx ?_; refine sr ?_; refine o1 (fdb ti31 ?_); refine o1 (ldb ti3 ?_)
  refine o1 (ieq ?_); refine o1 (mv ?_)
  apply ops_and (yt := 15) (d := 9) 6 rfl rfl rfl (.none rfl) rfl rfl
  case h1 =>
    intro hb7 hK
    have hc := hb7; (try simp only [nrm, Int.reduceEq, Int.reduceNe, Int.reduceLT, Int.reduceLE] at hc)
    refine gye ?_ (hbw := by exact hb7); refine o1 (fdb ti31 ?_); refine gye ?_ (hbw := by exact hb7); refine o1 (ldb ti3 ?_); refine gye ?_ (hbw := by exact hb7); refine o1 (ldb ti3 ?_); refine gye ?_ (hbw := by exact hb7); refine o1 (mv ?_)
    refine gye ?_ (hbw := by exact hb7); refine o1 (iad ?_); refine gye ?_ (hbw := by exact hb7); refine o1 (ige ?_); exact hK [_, _, _, _, _, _] rfl rfl
  case h2 =>
    intro hb7 hK; refine gno ?_ (hbw := by exact hb7); refine gno ?_ (hbw := by exact hb7); refine gno ?_ (hbw := by exact hb7); refine gno ?_ (hbw := by exact hb7); refine gno ?_ (hbw := by exact hb7); refine gno ?_ (hbw := by exact hb7)
    exact hK [_, _, _, _, _, _] rfl
  refine o1 (asg ?_); refine nx ?_; refine runs_ret ?_; refine fin_ret ?_; refine fin_od ⟨_, _, rfl, rfl, rfl⟩ rfl ([0]) ([.cells [.d (.v (.int .i64 n0))] 3]) rfl rfl rfl ?_ ?_
  · repeat (first | exact boz | refine boc ?_)
  · exact ⟨rfl, rfl⟩
theorem closed_spec {n0 : Int} (h0 : 0 ≤ n0 ∧ n0 ≤ 1099511627776) (k m : Int) (s : ByteArray) (ls : List Lvl) (args : List Trm) (hsz : (Trm.mk k m s ls args).size ≤ 1099511627776) :
    TriD Tryz.prog gl 14 [(Trm.mk k m s ls args).d, .v (.int .i64 n0)] (· = .v (.bool (closedT (.mk k m s ls args) n0))) := by
  have hc := some1_spec (gl := gl) ca50 (closed1_spec h0) _ k m s ls args 0 (Nat.le_refl _) (Int.le_refl _) (by omega)
  refine triD_of_runs Tryz.func14 rfl Tryz.ntmps14 (rs := [.tmp 4]) rfl rfl rfl ?_
  refine sr ?_; refine oc (T := fun _ => False) (bx ti31 ?_ (hl := by simp only [List.length_cons, List.length_nil, Nat.reduceAdd]; rfl))
  refine oc (T := fun _ => False) (bx ti3 ?_ (hl := by simp only [List.length_cons, List.length_nil, Nat.reduceAdd]; rfl)); refine o1 (asg ?_); refine nx ?_; refine sr ?_; refine o1 (ldb ti31 ?_); refine o1 (f_func ?_)
  refine oc (ck ca49 rfl rfl (hc) [1] rfl (boc .nil) (fid (fir (fir .nil))) ?_); refine o1 (f_not ?_); refine o1 (asg ?_); refine nx ?_; refine runs_ret ?_; refine fin_ret ?_; refine fin_d1 rfl rfl ?_
  rfl
end Go.Proofs.YtneaancanfpdhaaGreatDoor
namespace Go.Proofs.YtneaancanfpdhaaGreatDoor
open Go Go.Vd Go.RowKit
attribute [local irreducible] Runs OpsR OpR FloatR AnyR AnyO
variable {g gl : Nat → List D}
mutual
theorem someT_shift {n : Int} : ∀ (t : Trm) (d : Int), someT (openF n) t d = someT (openF 0) t (n + d)
  | .mk k m s ls args, d => by
    simp only [someT, openF, someTs_shift args _ d, Int.zero_add]
theorem someTs_shift {n : Int} : ∀ (l : List Trm) (b : Bool) (d : Int), someTs (openF n) b l d = someTs (openF 0) b l (n + d)
  | [], b, d => rfl
  | t :: r, b, d => by
    simp only [someTs]
    rw [someT_shift t, someTs_shift r b d]
    congr 2
    split <;> omega
end
theorem rclosed_spec : ∀ (n : Nat) (k m : Int) (s : ByteArray) (ls : List Lvl) (args : List Trm) (d : Int), (Trm.mk k m s ls args).size ≤ n → goodT (.mk k m s ls args) → 0 ≤ d → d + (Trm.mk k m s ls args).size ≤ 1099511627776 →
    TriD Tryz.prog gl 20 [(Trm.mk k m s ls args).d, .v (.int .i64 d)] (· = .v (.bool (!someT (openF 0) (.mk k m s ls args) d))) := by
  intro n
  induction n with
  | zero => intro k m s ls args d h; simp [Trm.size] at h
  | succ n ih =>
    intro k m s ls args d hsz hg hd0 hd1
    have hsz2 := hsz
    simp only [Trm.size] at hsz2 hd1
    have hal := trms_len args
    have hsa := sizesT_len args
    refine triD_of_runs Tryz.func20 rfl Tryz.ntmps20 (rs := [.tmp 4]) rfl rfl rfl ?_
    refine sr ?_; refine oc (T := fun _ => False) (bx ti31 ?_ (hl := by simp only [List.length_cons, List.length_nil, Nat.reduceAdd]; rfl)); refine o1 (asg ?_); refine nx ?_; refine runs_seq ?_; refine sr ?_; refine o1 (fdb ti31 ?_)
    refine o1 (ldb ti3 ?_); refine o1 (ieq ?_); refine nx ?_; refine cd (fun h1 => ?_) (fun h1 => ?_)
    · (try simp only [nrm, Int.reduceEq, Int.reduceNe, Int.reduceLT, Int.reduceLE] at h1)
      refine kp [2, 1] ?_; refine sr ?_; refine o1 (fdb ti31 ?_); refine o1 (ldb ti3 ?_); refine o1 (mv ?_); refine o1 (ilt ?_); refine o1 (asg ?_); refine nx ?_; refine runs_ret ?_; refine seq_ret ?_; refine fin_ret ?_; refine fin_d1 rfl rfl ?_
      (obtain ⟨_, _, _, _, rfl⟩ := good_var hg h1; rw [someT, someTs, Bool.or_false, openF, decide_eq_true h1, Bool.true_and, ← decide_not]; congr 2; simp)
    (try simp only [nrm, Int.reduceEq, Int.reduceNe, Int.reduceLT, Int.reduceLE] at h1); refine runs_skip ?_; refine seq_normal ?_; refine runs_seq ?_; refine kp [2, 1] ?_; refine sr ?_; refine o1 (asg ?_); refine nx ?_; refine runs_block ?_
    apply runs_loop_c (ι := Nat) (fun i => [(5, int i)]) [2, 1] (fun i => i ≤ args.length ∧ ∀ (j : Nat) t, j < i → args[j]? = some t → someT (openF 0) t (if decide (4 ≤ k) = true ∧ j + 1 = args.length then d + 1 else d) = false) (fun i => args.length - i) (0)
    case hk => exact rfl
    case hI =>
      exact ⟨Nat.zero_le _, fun j t h => absurd h (Nat.not_lt_zero _)⟩
    case hm =>
      refine mo ?_ (sly (sly (sly slz)))
      repeat (first | exact boz | refine boc ?_)
    case h =>
      rintro i hinv
      try dsimp only at hinv
      refine kp [5, 2, 1] ?_; refine runs_seq ?_; refine sr ?_; refine o1 (mv ?_); refine o1 (fdb ti31 ?_); refine o1 (ldb ti29 ?_); refine o1 (le1 us29 ?_); refine o1 (ilt ?_); refine nx ?_; refine cdf (fun h4 => ?_) (fun h4 => ?_)
      · (try simp only [nrm, Int.reduceEq, Int.reduceNe, Int.reduceLT, Int.reduceLE] at h4)
        refine runs_exit ?_; refine seq_exit ?_; refine seq_exit ?_; refine inb_exit ?_; refine seq_normal ?_; refine kp [] ?_; refine sr ?_; refine o1 (asg ?_); refine nx ?_; refine runs_ret ?_; refine fin_ret ?_; refine fin_d1 rfl rfl ?_
        rw [someT, someTs_false (fun j t ht => hinv.2 j t (by have := (List.getElem?_eq_some_iff.1 ht).1; omega) ht), Bool.or_false, openF, decide_eq_false h1, Bool.false_and]; rfl
      (try simp only [nrm, Int.reduceEq, Int.reduceNe, Int.reduceLT, Int.reduceLE] at h4); refine runs_skip ?_; refine seq_normal ?_; refine runs_seq ?_; refine runs_block ?_; refine runs_seq ?_; refine kp [5, 2, 1] ?_
      obtain ⟨k2, m2, s2, l2, a2, hget⟩ := trm_get (show i < args.length by omega)
      have hg1 := sizeT_get hget
      have hgg := goodTs_get hg.2.1 hget
      refine runs_region ?_; refine o1 (mv ?_); refine o1 (asg ?_); refine nx ?_; refine runs_seq ?_; refine sr ?_; refine o1 (ldb ti31 ?_); refine o1 (mv ?_)
      refine oc (cv ca56 rfl rfl (bindsE_spec k m s ls args i (by omega)) (fid (fir .nil)) ?_); refine nx ?_; refine kp [25, 6, 5, 2, 1] ?_
      apply runs_cut_c (ι := Unit) (fun _ => [(6, int (if decide (4 ≤ k) = true ∧ i + 1 = args.length then d + 1 else d))]) [5, 2, 1] (fun _ => True)
      case hk => exact rfl
      case h1 =>
        refine cdf (fun h7 => ?_) (fun h7 => ?_)
        · (try simp only [nrm, Int.reduceEq, Int.reduceNe, Int.reduceLT, Int.reduceLE] at h7)
          refine runs_skip ?_; refine seq_back ?_; refine back_i (()) rfl ?_ ?_
          · trivial
          · refine mo ?_ (slx rfl (by exact Fit.of_eq (by first | (rw [if_pos (by simp only [decide_eq_true_eq]; omega)]; rfl) | (rw [if_neg (by simp only [decide_eq_true_eq]; omega)]; rfl))) (sly (sly (sly slz))))
            repeat (first | exact boz | refine boc ?_)
        (try simp only [nrm, Int.reduceEq, Int.reduceNe, Int.reduceLT, Int.reduceLE] at h7); refine runs_region ?_; refine o1 (mv ?_); refine o1 (iad ?_); refine o1 (asg ?_); refine ops_nil ?_; refine seq_back ?_; refine back_i (()) rfl ?_ ?_
        · trivial
        · refine mo ?_ (slx rfl (by exact Fit.of_eq (by first | (rw [if_pos (by simp only [decide_eq_true_eq]; omega)]; rfl) | (rw [if_neg (by simp only [decide_eq_true_eq]; omega)]; rfl))) (sly (sly (sly slz))))
          repeat (first | exact boz | refine boc ?_)
      case h2 =>
        rintro _ hcut
        try dsimp only at hcut
        refine kp [6, 5, 2, 1] ?_; refine runs_seq ?_
        have hihx := ih k2 m2 s2 l2 a2 (if decide (4 ≤ k) = true ∧ i + 1 = args.length then d + 1 else d) (by omega) hgg (by split <;> omega) (by split <;> omega)
        refine runs_region ?_; refine o1 (fdb ti31 ?_); refine o1 (ldb ti29 ?_); refine o1 (mv ?_); refine o1 (ixs us29 te29 ?_ (he := by exact (trm_at hget))); refine o1 (ldc ti31 ?_); refine o1 (mv ?_)
        refine oc (cv ca20 rfl rfl (hihx) (fid (fir .nil)) ?_); refine o1 (asg ?_); refine nx ?_; refine kp [7, 5, 2, 1] ?_; refine sr ?_; refine o1 (mv ?_); refine o1 (f_not ?_); refine nx ?_; refine cd (fun h10 => ?_) (fun h10 => ?_)
        · (try simp only [nrm, Int.reduceEq, Int.reduceNe, Int.reduceLT, Int.reduceLE] at h10)
          refine kp [] ?_; refine sr ?_; refine o1 (asg ?_); refine nx ?_; refine runs_ret ?_; refine inb_ret ?_; refine seq_ret ?_; refine seq_ret ?_; refine inb_ret ?_; refine seq_ret ?_; refine fin_ret ?_; refine fin_d1 rfl rfl ?_
          rw [someT, someTs_true hget (by simpa using h10), Bool.or_true]; rfl
        (try simp only [nrm, Int.reduceEq, Int.reduceNe, Int.reduceLT, Int.reduceLE] at h10); refine runs_skip ?_; refine inb_normal ?_; refine seq_normal ?_; refine runs_region ?_; refine o1 (mv ?_); refine o1 (iad ?_); refine o1 (asg ?_)
        refine ops_nil ?_; refine seq_back ?_; refine back_i (i + 1) rfl ?_ ?_
        · exact ⟨⟨by omega, fun j t hj ht => by
          rcases Nat.lt_or_ge j i with h | h
          · exact hinv.2 j t h ht
          · obtain rfl : j = i := by omega
            rw [hget] at ht; cases ht
            simpa using h10⟩, by omega⟩
        · refine mo ?_ (sly (sly (sly slz)))
          repeat (first | exact boz | refine boc ?_)
/-- a constant of that name -/
def hasF (name : ByteArray) : Trm → Int → Bool
  | .mk k _ s _ _, _ => decide (k = 2) && decide (s = name)
mutual
theorem has_any {nm : ByteArray} : ∀ (t : Trm) (d e : Int), someT (hasF nm) t d = someT (hasF nm) t e
  | .mk k m s ls args, d, e => by
    simp only [someT, hasF]
    rw [hass_any args _ d e]
theorem hass_any {nm : ByteArray} : ∀ (l : List Trm) (b : Bool) (d e : Int), someTs (hasF nm) b l d = someTs (hasF nm) b l e
  | [], b, d, e => rfl
  | t :: r, b, d, e => by
    simp only [someTs]
    rw [has_any t _ (if (b && r.isEmpty) = true then e + 1 else e), hass_any r b d e]
end
theorem has1_spec (nm : ByteArray) (k m : Int) (s : ByteArray) (ls : List Lvl) (args : List Trm) (d : Int) (hd0 : 0 ≤ d) (hd1 : d ≤ 1099511627776) :
    Tri Tryz.prog gl 51 [.cells [.d (.v (.string nm))] 9] [.d (Trm.mk k m s ls args).d, .d (.v (.int .i64 d)), .blk 0 0] fun out ob' => out = .ret (.d (.v (.bool (hasF nm (.mk k m s ls args) d)))) ∧ ob' = [.cells [.d (.v (.string nm))] 9] := by
  refine triS_of_runs Tryz.func51 rfl Tryz.ntmps51 (rs := [.tmp 5]) rfl rfl rfl 1 rfl ?_
  refine sr ?_; refine oc (T := fun _ => False) (bx ti31 ?_ (hl := by simp only [List.length_cons, List.length_nil, Nat.reduceAdd]; rfl)); refine o1 (asg ?_); refine nx ?_; refine sr ?_; refine o1 (fdb ti31 ?_); refine o1 (ldb ti3 ?_)
  refine o1 (ieq ?_); refine o1 (mv ?_)
  apply ops_and (yt := 13) (d := 9) 4 rfl rfl rfl (.none rfl) rfl rfl
  case h1 =>
    intro hb7 hK
    have hc := hb7; (try simp only [nrm, Int.reduceEq, Int.reduceNe, Int.reduceLT, Int.reduceLE] at hc)
    refine gye ?_ (hbw := by exact hb7); refine o1 (fdb ti31 ?_); refine gye ?_ (hbw := by exact hb7); refine o1 (ldb ti9 ?_); refine gye ?_ (hbw := by exact hb7); refine o1 (ldb ti9 ?_); refine gye ?_ (hbw := by exact hb7); refine o1 (seq1 ?_)
    exact hK [_, _, _, _] rfl rfl
  case h2 =>
    intro hb7 hK; refine gno ?_ (hbw := by exact hb7); refine gno ?_ (hbw := by exact hb7); refine gno ?_ (hbw := by exact hb7); refine gno ?_ (hbw := by exact hb7); exact hK [_, _, _, _] rfl
  refine o1 (asg ?_); refine nx ?_; refine runs_ret ?_; refine fin_ret ?_; refine fin_od ⟨_, _, rfl, rfl, rfl⟩ rfl ([0]) ([.cells [.d (.v (.string nm))] 9]) rfl rfl rfl ?_ ?_
  · repeat (first | exact boz | refine boc ?_)
  · exact ⟨rfl, rfl⟩
theorem has_spec (nm : ByteArray) (k m : Int) (s : ByteArray) (ls : List Lvl) (args : List Trm) (hsz : (Trm.mk k m s ls args).size ≤ 1099511627776) :
    TriD Tryz.prog gl 15 [(Trm.mk k m s ls args).d, .v (.string nm)] (· = .v (.bool (someT (hasF nm) (.mk k m s ls args) 0))) := by
  have hc := some1_spec (gl := gl) ca51 (has1_spec nm) _ k m s ls args 0 (Nat.le_refl _) (Int.le_refl _) (by omega)
  refine triD_of_runs Tryz.func15 rfl Tryz.ntmps15 (rs := [.tmp 4]) rfl rfl rfl ?_
  refine sr ?_; refine oc (T := fun _ => False) (bx ti31 ?_ (hl := by simp only [List.length_cons, List.length_nil, Nat.reduceAdd]; rfl))
  refine oc (T := fun _ => False) (bx ti9 ?_ (hl := by simp only [List.length_cons, List.length_nil, Nat.reduceAdd]; rfl)); refine o1 (asg ?_); refine nx ?_; refine sr ?_; refine o1 (ldb ti31 ?_); refine o1 (f_func ?_)
  refine oc (ck ca49 rfl rfl (hc) [1] rfl (boc .nil) (fid (fir (fir .nil))) ?_); refine o1 (asg ?_); refine nx ?_; refine runs_ret ?_; refine fin_ret ?_; refine fin_d1 rfl rfl ?_
  rfl
theorem rhas_spec (nm : ByteArray) : ∀ (n : Nat) (k m : Int) (s : ByteArray) (ls : List Lvl) (args : List Trm), (Trm.mk k m s ls args).size ≤ n → (Trm.mk k m s ls args).size ≤ 1099511627776 →
    TriD Tryz.prog gl 21 [(Trm.mk k m s ls args).d, .v (.string nm)] (· = .v (.bool (someT (hasF nm) (.mk k m s ls args) 0))) := by
  intro n
  induction n with
  | zero => intro k m s ls args h; simp [Trm.size] at h
  | succ n ih =>
    intro k m s ls args hsz hb
    have hsz2 := hsz
    simp only [Trm.size] at hsz2 hb
    have hal := trms_len args
    have hsa := sizesT_len args
    refine triD_of_runs Tryz.func21 rfl Tryz.ntmps21 (rs := [.tmp 4]) rfl rfl rfl ?_
    refine sr ?_; refine oc (T := fun _ => False) (bx ti31 ?_ (hl := by simp only [List.length_cons, List.length_nil, Nat.reduceAdd]; rfl)); refine o1 (asg ?_); refine nx ?_; refine runs_seq ?_; refine sr ?_; refine o1 (fdb ti31 ?_)
    refine o1 (ldb ti3 ?_); refine o1 (ieq ?_); refine o1 (mv ?_)
    apply ops_and (yt := 14) (d := 10) 4 rfl rfl rfl (.none rfl) rfl rfl
    case h1 =>
      intro hb7 hK
      have hc := hb7; (try simp only [nrm, Int.reduceEq, Int.reduceNe, Int.reduceLT, Int.reduceLE] at hc)
      refine gye ?_ (hbw := by exact hb7); refine o1 (fdb ti31 ?_); refine gye ?_ (hbw := by exact hb7); refine o1 (ldb ti9 ?_); refine gye ?_ (hbw := by exact hb7); refine o1 (mv ?_); refine gye ?_ (hbw := by exact hb7); refine o1 (seq1 ?_)
      exact hK [_, _, _, _] rfl rfl
    case h2 =>
      intro hb7 hK; refine gno ?_ (hbw := by exact hb7); refine gno ?_ (hbw := by exact hb7); refine gno ?_ (hbw := by exact hb7); refine gno ?_ (hbw := by exact hb7); exact hK [_, _, _, _] rfl
    refine nx ?_; refine cd (fun h1 => ?_) (fun h1 => ?_)
    · (try simp only [nrm, Int.reduceEq, Int.reduceNe, Int.reduceLT, Int.reduceLE] at h1)
      refine kp [] ?_; refine sr ?_; refine o1 (asg ?_); refine nx ?_; refine runs_ret ?_; refine seq_ret ?_; refine fin_ret ?_; refine fin_d1 rfl rfl ?_
      (simp only [someT, hasF]; rw [decide_eq_true h1.1, decide_eq_true h1.2]; rfl)
    (try simp only [nrm, Int.reduceEq, Int.reduceNe, Int.reduceLT, Int.reduceLE] at h1); refine runs_skip ?_; refine seq_normal ?_; refine runs_seq ?_; refine kp [2, 1] ?_; refine sr ?_; refine o1 (asg ?_); refine nx ?_; refine runs_block ?_
    apply runs_loop_c (ι := Nat) (fun i => [(5, int i)]) [2, 1] (fun i => i ≤ args.length ∧ ∀ (j : Nat) t, j < i → args[j]? = some t → someT (hasF nm) t 0 = false) (fun i => args.length - i) (0)
    case hk => exact rfl
    case hI =>
      exact ⟨Nat.zero_le _, fun j t h => absurd h (Nat.not_lt_zero _)⟩
    case hm =>
      refine mo ?_ (sly (sly (sly slz)))
      repeat (first | exact boz | refine boc ?_)
    case h =>
      rintro i hinv
      try dsimp only at hinv
      refine kp [5, 2, 1] ?_; refine runs_seq ?_; refine sr ?_; refine o1 (mv ?_); refine o1 (fdb ti31 ?_); refine o1 (ldb ti29 ?_); refine o1 (le1 us29 ?_); refine o1 (ilt ?_); refine nx ?_; refine cdf (fun h4 => ?_) (fun h4 => ?_)
      · (try simp only [nrm, Int.reduceEq, Int.reduceNe, Int.reduceLT, Int.reduceLE] at h4)
        refine runs_exit ?_; refine seq_exit ?_; refine seq_exit ?_; refine inb_exit ?_; refine seq_normal ?_; refine kp [] ?_; refine sr ?_; refine o1 (asg ?_); refine nx ?_; refine runs_ret ?_; refine fin_ret ?_; refine fin_d1 rfl rfl ?_
        rw [someT, someTs_false (fun j t ht => (has_any _ _ 0).trans (hinv.2 j t (by have := (List.getElem?_eq_some_iff.1 ht).1; omega) ht)), Bool.or_false, hasF, show (decide (k = 2) && decide (s = nm)) = false from (by simp only [Bool.and_eq_false_iff, decide_eq_false_iff_not]; first | exact h1 | (by_cases h : k = 2; exact .inr (h1 h); exact .inl h))]
      (try simp only [nrm, Int.reduceEq, Int.reduceNe, Int.reduceLT, Int.reduceLE] at h4); refine runs_skip ?_; refine seq_normal ?_; refine runs_seq ?_; refine runs_block ?_; refine runs_seq ?_; refine kp [5, 2, 1] ?_
      obtain ⟨k2, m2, s2, l2, a2, hget⟩ := trm_get (show i < args.length by omega)
      have hg1 := sizeT_get hget
      refine runs_region ?_; refine o1 (fdb ti31 ?_); refine o1 (ldb ti29 ?_); refine o1 (mv ?_); refine o1 (ixs us29 te29 ?_ (he := by exact (trm_at hget))); refine o1 (ldc ti31 ?_); refine o1 (mv ?_)
      refine oc (cv ca21 rfl rfl (ih k2 m2 s2 l2 a2 (by omega) (by omega)) (fid (fir .nil)) ?_); refine o1 (asg ?_); refine nx ?_; refine kp [6, 5, 2, 1] ?_; refine sr ?_; refine o1 (mv ?_); refine nx ?_; refine cd (fun h7 => ?_) (fun h7 => ?_)
      · (try simp only [nrm, Int.reduceEq, Int.reduceNe, Int.reduceLT, Int.reduceLE] at h7)
        refine kp [] ?_; refine sr ?_; refine o1 (asg ?_); refine nx ?_; refine runs_ret ?_; refine inb_ret ?_; refine seq_ret ?_; refine seq_ret ?_; refine inb_ret ?_; refine seq_ret ?_; refine fin_ret ?_; refine fin_d1 rfl rfl ?_
        rw [someT, someTs_true hget ((has_any _ _ 0).trans h7), Bool.or_true]
      (try simp only [nrm, Int.reduceEq, Int.reduceNe, Int.reduceLT, Int.reduceLE] at h7); refine runs_skip ?_; refine inb_normal ?_; refine seq_normal ?_; refine runs_region ?_; refine o1 (mv ?_); refine o1 (iad ?_); refine o1 (asg ?_)
      refine ops_nil ?_; refine seq_back ?_; refine back_i (i + 1) rfl ?_ ?_
      · exact ⟨⟨by omega, fun j t hj ht => by
        rcases Nat.lt_or_ge j i with h | h
        · exact hinv.2 j t h ht
        · obtain rfl : j = i := by omega
          rw [hget] at ht; cases ht
          exact h7⟩, by omega⟩
      · refine mo ?_ (sly (sly (sly slz)))
        repeat (first | exact boz | refine boc ?_)
end Go.Proofs.YtneaancanfpdhaaGreatDoor
namespace Go.Proofs.YtneaancanfpdhaaGreatDoor
open Go Go.Vd Go.RowKit
attribute [local irreducible] Runs OpsR OpR FloatR AnyR AnyO
variable {g gl : Nat → List D}
theorem rev_take {acc : List Trm} {j : Nat} {t : Trm} (h : acc[acc.length - 1 - j]? = some t) (hj : j < acc.length) : trms (acc.reverse.take j) ++ [t.cells] = trms (acc.reverse.take (j + 1)) := by
  have h2 : acc.reverse[j]? = some t := by rw [List.getElem?_reverse hj]; exact h
  rw [List.take_add_one, h2, trms_app]; rfl
theorem rspine_spec (k m : Int) (s : ByteArray) (ls : List Lvl) (args : List Trm) (hok : spOk (.mk k m s ls args)) (hsz : (Trm.mk k m s ls args).size ≤ 1099511627776) :
    TriD Tryz.prog gl 28 [(Trm.mk k m s ls args).d] (· = .tup [(spineT (.mk k m s ls args)).1.d, .sl 5 (trms (spineT (.mk k m s ls args)).2)]) := by
  refine triD_of_runs Tryz.func28 rfl Tryz.ntmps28 (rs := [.cell 2 31, .tmp 3]) rfl rfl rfl ?_
  refine sr ?_; refine oc (T := fun _ => False) (bx ti31 ?_ (hl := by simp only [List.length_cons, List.length_nil, Nat.reduceAdd]; rfl))
  refine oc (T := fun _ => False) (alc ti31 ?_ (hl := by simp only [List.length_cons, List.length_nil, Nat.reduceAdd]; rfl)); refine o1 (asg ?_); refine nx ?_; refine sr ?_; refine o1 (asg ?_); refine nx ?_; refine runs_seq ?_
  refine runs_block ?_; refine kp [4, 2, 1] ?_; refine runs_nilrow 31 5 rfl ?_
  apply runs_loop_o (ι := (Int × Int × ByteArray × List Lvl × List Trm) × List Trm) (fun ⟨⟨k1, m1, s1, l1, a1⟩, acc⟩ => [(4, .own 2 5 (trms acc))]) (fun ⟨⟨k1, m1, s1, l1, a1⟩, acc⟩ => [.cells [.d (.v (.int .i64 k1)), .d (.v (.int .i64 m1)), .d (.v (.string s1)), .d (.sl 3 (lvls l1)), .d (.sl 5 (trms a1))] 31, .cells [.d (.v (.int .i64 0)), .d (.v (.int .i64 0)), .d (.v (.string .empty)), .d (.v (.slice none 0 0)), .d (.v (.slice none 0 0))] 31, .row 31 5]) [2, 1] (fun ⟨⟨k1, m1, s1, l1, a1⟩, acc⟩ => spOk (.mk k1 m1 s1 l1 a1) ∧ spineT (.mk k m s ls args) = ((spineT (.mk k1 m1 s1 l1 a1)).1, (spineT (.mk k1 m1 s1 l1 a1)).2 ++ acc.reverse) ∧ (Trm.mk k1 m1 s1 l1 a1).size + acc.length ≤ (Trm.mk k m s ls args).size) (fun ⟨⟨k1, m1, s1, l1, a1⟩, acc⟩ => (Trm.mk k1 m1 s1 l1 a1).size) ((⟨k, m, s, ls, args⟩, [])) ([0, 1, 2])
  case hk => exact rfl
  case hI =>
    exact ⟨hok, by simp, by simp⟩
  case hm =>
    refine mo ?_ (slx rfl (by (show Fit _ _ (SV.own 2 5 []); exact Fit.nil rfl)) (sly (sly slz)))
    repeat (first | exact boz | refine boc ?_ | refine bon ?_)
  case h =>
    rintro ⟨⟨k1, m1, s1, l1, a1⟩, acc⟩ hinv
    try dsimp only at hinv
    refine kp [4, 2, 1] ?_; refine runs_seq ?_; refine sr ?_; refine o1 (fdb ti31 ?_); refine o1 (ldb ti3 ?_); refine o1 (ieq ?_); refine nx ?_; refine cd (fun h2 => ?_) (fun h2 => ?_)
    · (try simp only [nrm, Int.reduceEq, Int.reduceNe, Int.reduceLT, Int.reduceLE] at h2)
      refine runs_skip ?_; refine seq_normal ?_; refine runs_block ?_; refine runs_seq ?_; obtain rfl := h2; obtain ⟨k2, m2, s2, l2, a2, k3, m3, s3, l3, a3, rfl, hok2⟩ := spOk_app hinv.1 rfl
      have hal := trms_len acc
      have hal2 := hinv.2.2
      have hlast : trms acc ++ [[.v (.int .i64 k3), .v (.int .i64 m3), .v (.string s3), .sl 3 (lvls l3), .sl 5 (trms a3)]] = trms (acc ++ [.mk k3 m3 s3 l3 a3]) := (trms_app acc [.mk k3 m3 s3 l3 a3]).symm
      refine runs_region ?_; refine o1 (mv ?_); refine o1 (fdb ti31 ?_); refine o1 (ldb ti29 ?_); refine o1 (ixs us29 te29 ?_ (he := by exact (rfl))); refine o1 (ldc ti31 ?_)
      refine oc (T := fun _ => False) (op_lit sl29 [.tmp 14] ti31 rfl rfl rfl rfl rfl rfl rfl (by decide) (by decide) (by decide) (by simp only [List.length_cons, List.length_nil, Nat.reduceAdd]; rfl) rfl ?_)
      refine oc (op_append sl29 rfl rfl rfl rfl rfl rfl rfl (.inl rfl) (by decide) (by simp) (by (simp only [maxLen, List.length_cons, List.length_nil]; omega)) rfl rfl rfl ?_); refine o1 (asg ?_); refine nx ?_; refine kp [4, 2, 1] ?_
      refine runs_region ?_; refine o1 (fdb ti31 ?_); refine o1 (ldb ti29 ?_); refine o1 (ixs us29 te29 ?_ (he := by exact (rfl))); refine o1 (ldc ti31 ?_); refine oc (sto ti31 ?_); refine ops_nil ?_; refine inb_normal ?_; refine seq_back ?_
      rw [hlast]
      refine back_c ((⟨k2, m2, s2, l2, a2⟩, acc ++ [.mk k3 m3 s3 l3 a3])) rfl ?_ ([0, 1, 2]) ?_
      · exact ⟨⟨hok2, by rw [hinv.2.1, spine_app]; simp, by have := hinv.2.2; simp only [Trm.size, sizesT, List.length_append, List.length_cons, List.length_nil] at this ⊢; omega⟩, by simp only [Trm.size, sizesT]; omega⟩
      · refine mo ?_ (sly (sly (sly slz)))
        repeat (first | exact boz | refine boc ?_ | refine bor ?_)
    (try simp only [nrm, Int.reduceEq, Int.reduceNe, Int.reduceLT, Int.reduceLE] at h2); refine runs_exit ?_; refine seq_exit ?_; refine seq_exit ?_; refine inb_exit ?_; refine seq_normal ?_; refine runs_seq ?_
    have hal := trms_len acc
    have hal2 := hinv.2.2
    have hsp := hinv.2.1
    refine runs_region ?_; refine o1 (asg ?_); refine nx ?_; refine runs_seq ?_; refine sr ?_; refine o1 (mv ?_); refine o1 (le2 us29 ?_); refine o1 (isu ?_); refine o1 (asg ?_); refine nx ?_; refine runs_block ?_; refine kp [6, 5, 4, 2, 1] ?_
    refine runs_nilrow 31 5 rfl ?_
    apply runs_loop_o (ι := Nat) (fun j => [(6, int ((trms acc).length - 1 - j)), (5, .own 3 5 (trms (acc.reverse.take j)))]) (fun j => [.cells [.d (.v (.int .i64 k1)), .d (.v (.int .i64 m1)), .d (.v (.string s1)), .d (.sl 3 (lvls l1)), .d (.sl 5 (trms a1))] 31, .cells [.d (.v (.int .i64 0)), .d (.v (.int .i64 0)), .d (.v (.string .empty)), .d (.v (.slice none 0 0)), .d (.v (.slice none 0 0))] 31, .row 31 5, .row 31 5]) [4, 2, 1] (fun j => j ≤ acc.length) (fun j => acc.length - j) (0) ([0, 1, 2, 3])
    case hk => exact rfl
    case hI =>
      exact Nat.zero_le _
    case hm =>
      refine mo ?_ (slx rfl (by exact Fit.of_eq (by rw [show ((0 : Nat) : Int) = 0 from rfl, Int.sub_zero]; rfl)) (slx rfl (by (rw [List.take_zero]; exact Fit.nil rfl)) (sly (sly (sly slz)))))
      repeat (first | exact boz | refine boc ?_ | refine bor ?_ | refine bon ?_)
    case h =>
      rintro j hinv
      try dsimp only at hinv
      refine kp [6, 5, 4, 2, 1] ?_; refine runs_seq ?_; refine sr ?_; refine o1 (mv ?_); refine o1 (ige ?_); refine nx ?_; refine cdf (fun h7 => ?_) (fun h7 => ?_)
      · (try simp only [nrm, Int.reduceEq, Int.reduceNe, Int.reduceLT, Int.reduceLE] at h7)
        refine runs_exit ?_; refine seq_exit ?_; refine seq_exit ?_; refine inb_exit ?_; refine seq_normal ?_; refine runs_seq ?_; refine kp [5, 2, 1] ?_
        rw [List.take_of_length_le (by rw [List.length_reverse]; omega)]
        refine runs_region ?_; refine o1 (ldb ti31 ?_); refine o1 (mv ?_); refine oc (sto ti31 ?_); refine o1 (asg ?_); refine nx ?_; refine runs_ret ?_; refine fin_ret ?_
        refine fin_dl ⟨_, _, rfl, (from_cell rfl rfl ti31 rfl rfl rfl rfl), ⟨_, _, rfl, rfl, rfl⟩⟩ rfl (.tup [(Trm.mk k1 m1 s1 l1 a1).d, .sl 5 (trms acc.reverse)]) (by exact .refl _) ?_
        rw [hsp, spine_no h2, List.nil_append]
      (try simp only [nrm, Int.reduceEq, Int.reduceNe, Int.reduceLT, Int.reduceLE] at h7); refine runs_skip ?_; refine seq_normal ?_; refine runs_seq ?_; refine runs_block ?_
      obtain ⟨k2, m2, s2, l2, a2, hget⟩ := trm_get (show acc.length - 1 - j < acc.length by omega)
      have hix : (trms acc)[(((trms acc).length : Int) - 1 - j).toNat]? = some [.v (.int .i64 k2), .v (.int .i64 m2), .v (.string s2), .sl 3 (lvls l2), .sl 5 (trms a2)] := by rw [show (((trms acc).length : Int) - 1 - j).toNat = acc.length - 1 - j by omega, trms_get hget]; rfl
      have hnx : trms (acc.reverse.take j) ++ [[.v (.int .i64 k2), .v (.int .i64 m2), .v (.string s2), .sl 3 (lvls l2), .sl 5 (trms a2)]] = trms (acc.reverse.take (j + 1)) := rev_take hget (by omega)
      have htl := trms_len (acc.reverse.take j)
      have htk := List.length_take (i := j) (l := acc.reverse)
      have hrl : acc.reverse.length = acc.length := List.length_reverse
      refine runs_region ?_; refine o1 (mv ?_); refine o1 (mv ?_); refine o1 (mv ?_); refine o1 (ixo us29 te29 ?_ (he := by exact (hix))); refine o1 (ldc ti31 ?_)
      refine oc (T := fun _ => False) (op_lit sl29 [.tmp 32] ti31 rfl rfl rfl rfl rfl rfl rfl (by decide) (by decide) (by decide) (by simp only [List.length_cons, List.length_nil, Nat.reduceAdd]; rfl) rfl ?_)
      refine oc (op_append sl29 rfl rfl rfl rfl rfl rfl rfl (.inl rfl) (by decide) (by simp) (by (simp only [maxLen, List.length_cons, List.length_nil]; omega)) rfl rfl rfl ?_); refine o1 (asg ?_); refine ops_nil ?_; refine inb_normal ?_
      refine seq_normal ?_; refine kp [5, 6, 4, 2, 1] ?_; refine runs_region ?_; refine o1 (mv ?_); refine o1 (isu ?_); refine o1 (asg ?_); refine ops_nil ?_; refine seq_back ?_
      rw [hnx]
      refine back_c (j + 1) rfl ?_ ([0, 1, 2, 3]) ?_
      · exact ⟨by omega, by omega⟩
      · refine mo ?_ (slx rfl (by exact Fit.of_eq (by rw [show ((j + 1 : Nat) : Int) = (j : Int) + 1 by omega, show ((trms acc).length : Int) - 1 - ((j : Int) + 1) = (trms acc).length - 1 - j - 1 by omega]; rfl)) (sly (sly (sly (sly slz)))))
        repeat (first | exact boz | refine boc ?_ | refine bor ?_)
end Go.Proofs.YtneaancanfpdhaaGreatDoor
namespace Go.Proofs.YtneaancanfpdhaaGreatDoor
open Go Go.Vd Go.RowKit
attribute [local irreducible] Runs OpsR OpR FloatR AnyR AnyO
variable {g gl : Nat → List D}
theorem trms_set : ∀ {C : List Trm} {i : Nat} {t : Trm}, (trms C).set i t.cells = trms (C.set i t)
  | [], i, t => by simp [trms]
  | a :: r, 0, t => by simp [trms]
  | a :: r, i + 1, t => by simp [trms, trms_set]
/-- the outer i elements have changed places -/
def revI (L C : List Trm) (i : Nat) : Prop := C.length = L.length ∧ ∀ x, x < L.length → C[x]? = if x < i ∨ L.length ≤ x + i then L[L.length - 1 - x]? else L[x]?
theorem revI_zero (L : List Trm) : revI L L 0 := ⟨rfl, fun x hx => by rw [if_neg (by omega)]⟩
theorem revI_next {L C : List Trm} {i : Nat} {ti tj : Trm} (h : revI L C i) (hij : i + 1 < L.length - i) (hi : C[i]? = some ti) (hj : C[L.length - 1 - i]? = some tj) : revI L ((C.set i tj).set (L.length - 1 - i) ti) (i + 1) := by
  obtain ⟨h1, h2⟩ := h
  refine ⟨by simpa using h1, fun x hx => ?_⟩
  have ei := h2 i (by omega)
  have ej := h2 (L.length - 1 - i) (by omega)
  rw [if_neg (by omega)] at ei ej
  rw [List.getElem?_set, List.getElem?_set, List.length_set, h1]
  by_cases e1 : L.length - 1 - i = x
  · rw [if_pos e1, if_pos (by omega), if_pos (by omega), show L.length - 1 - x = i by omega, ← ei, hi]
  · rw [if_neg e1]
    by_cases e2 : i = x
    · rw [if_pos e2, if_pos (by omega), if_pos (by omega), ← e2, ← ej, hj]
    · rw [if_neg e2, h2 x hx]
      by_cases e3 : x < i ∨ L.length ≤ x + i
      · rw [if_pos e3, if_pos (by omega)]
      · rw [if_neg e3, if_neg (by omega)]
theorem revI_end {L C : List Trm} {i : Nat} (h : revI L C i) (hi : ¬ (i : Int) < (L.length : Int) - 1 - i) : C = L.reverse := by
  obtain ⟨h1, h2⟩ := h
  apply List.ext_getElem?
  intro x
  by_cases hx : x < L.length
  · rw [h2 x hx, List.getElem?_reverse hx]
    by_cases e3 : x < i ∨ L.length ≤ x + i
    · rw [if_pos e3]
    · rw [if_neg e3, show L.length - 1 - x = x by omega]
  · rw [List.getElem?_eq_none (by omega), List.getElem?_eq_none (by simp; omega)]
theorem reverse_spec {pq : Option (Option Nat × Nat)} (L : List Trm) (hb : L.length ≤ 1099511627776) : Tri Tryz.prog gl 63 [.buf 31 5 (trms L) pq] [.arr 0 (trms L).length] fun out ob' => out = .ret (.d (.tup [])) ∧ ob' = [.buf 31 5 (trms L.reverse) pq] := by
  have hN := trms_len L
  refine triS_of_runs Tryz.func63 rfl Tryz.ntmps63 (rs := []) rfl rfl rfl 1 rfl ?_
  refine sr ?_; refine o1 (mv ?_); refine o1 (fl_len_arr us29 rfl rfl ?_); refine o1 (isu ?_); refine o1 (asg ?_); refine o1 (asg ?_); refine nx ?_; refine runs_block ?_; refine kp [3, 2, 0] ?_
  apply runs_loop_o (ι := Nat × List Trm) (fun ⟨i, C⟩ => [(2, int i), (3, int ((trms L).length - 1 - i))]) (fun ⟨i, C⟩ => [.buf 31 5 (trms C) pq]) [0] (fun ⟨i, C⟩ => revI L C i ∧ i ≤ L.length) (fun ⟨i, C⟩ => L.length - i) ((0, L)) ([0])
  case hk => exact rfl
  case hI =>
    exact ⟨revI_zero L, Nat.zero_le _⟩
  case hm =>
    refine mo ?_ (sly (slx rfl (by exact Fit.of_eq (by rw [show ((0 : Nat) : Int) = 0 from rfl, Int.sub_zero]; rfl)) (sly slz)))
    repeat (first | exact boz | refine bob ?_)
  case h =>
    rintro ⟨i, C⟩ hinv
    try dsimp only at hinv
    refine kp [2, 3, 0] ?_; refine runs_seq ?_; refine sr ?_; refine o1 (mv ?_); refine o1 (mv ?_); refine o1 (ilt ?_); refine nx ?_; refine cdf (fun h1 => ?_) (fun h1 => ?_)
    · (try simp only [nrm, Int.reduceEq, Int.reduceNe, Int.reduceLT, Int.reduceLE] at h1)
      refine runs_exit ?_; refine seq_exit ?_; refine seq_exit ?_; refine inb_exit ?_; refine fin_normal ?_; refine fin_od (l := []) rfl rfl ([0]) ([.buf 31 5 (trms C) pq]) rfl rfl rfl ?_ ?_
      · repeat (first | exact boz | refine bob ?_)
      · rw [revI_end hinv.1 (by rw [← hN]; omega)]; exact ⟨rfl, rfl⟩
    (try simp only [nrm, Int.reduceEq, Int.reduceNe, Int.reduceLT, Int.reduceLE] at h1); refine runs_skip ?_; refine seq_normal ?_; refine runs_seq ?_; refine runs_block ?_
    have hCl := hinv.1.1
    have hCt := trms_len C
    obtain ⟨k1, m1, s1, l1, a1, hg1⟩ := trm_get (show i < C.length by omega); obtain ⟨k2, m2, s2, l2, a2, hg2⟩ := trm_get (show L.length - 1 - i < C.length by omega)
    have hn : (((trms L).length : Int) - 1 - i).toNat = L.length - 1 - i := by omega
    have hei := trm_at hg1
    have hej : (trms C)[(((trms L).length : Int) - 1 - i).toNat]? = some [.v (.int .i64 k2), .v (.int .i64 m2), .v (.string s2), .sl 3 (lvls l2), .sl 5 (trms a2)] := by rw [hn, trms_get hg2]; rfl
    have hs1 : (trms C).set i [.v (.int .i64 k2), .v (.int .i64 m2), .v (.string s2), .sl 3 (lvls l2), .sl 5 (trms a2)] = trms (C.set i (.mk k2 m2 s2 l2 a2)) := trms_set (t := .mk k2 m2 s2 l2 a2)
    have hs2 : (trms (C.set i (.mk k2 m2 s2 l2 a2))).set (L.length - 1 - i) [.v (.int .i64 k1), .v (.int .i64 m1), .v (.string s1), .sl 3 (lvls l1), .sl 5 (trms a1)] = trms ((C.set i (.mk k2 m2 s2 l2 a2)).set (L.length - 1 - i) (.mk k1 m1 s1 l1 a1)) := trms_set (t := .mk k1 m1 s1 l1 a1)
    refine a_start ?_ (hm := by exact mixed); refine A1 0 rfl (mv ⟨_, rfl, ?_⟩); refine A1 1 rfl (mv ⟨_, rfl, ?_⟩); refine A1 2 rfl (mv ⟨_, rfl, ?_⟩); refine A1 3 rfl (mv ⟨_, rfl, ?_⟩); refine A1 4 rfl (mv ⟨_, rfl, ?_⟩)
    refine A1 5 rfl (mv ⟨_, rfl, ?_⟩); refine A1 6 rfl (fl_index_arr' us29 te29 rfl rfl rfl rfl rfl rfl (by omega) ⟨_, rfl, ?_⟩); refine A1 8 rfl (mv ⟨_, rfl, ?_⟩); refine A1 9 rfl (mv ⟨_, rfl, ?_⟩)
    refine A1 10 rfl (fl_index_arr' us29 te29 rfl rfl rfl rfl rfl rfl (by omega) ⟨_, rfl, ?_⟩); refine any_many (rs := [7, 11]) (by kernel_rfl) rfl ⟨?_, ?_, trivial⟩
    · skip
      refine A4 (T := fun _ => False) 7 rfl (op_load_bp ti31 rfl rfl rfl rfl rfl rfl rfl rfl rfl (hej) ?_); refine A2 (T := fun _ => False) 11 rfl (op_load_bp ti31 rfl rfl rfl rfl rfl rfl rfl rfl rfl (hei) ?_)
      refine A1 12 rfl (fl_index_arr' us29 te29 rfl rfl rfl rfl rfl rfl (by omega) ⟨_, rfl, ?_⟩); refine A2 13 rfl (op_store_bp ti31 rfl rfl rfl rfl rfl rfl rfl rfl rfl rfl rfl rfl ⟨rfl, by omega⟩ rfl ?_)
      refine A1 14 rfl (fl_index_arr' us29 te29 rfl rfl rfl rfl rfl rfl (by omega) ⟨_, rfl, ?_⟩); refine A2 15 rfl (op_store_bp ti31 rfl rfl rfl rfl rfl rfl rfl rfl rfl rfl rfl rfl ⟨rfl, by (simp only [List.length_set, trms_len]; omega)⟩ rfl ?_)
      refine a_end ?_; refine inb_normal ?_; refine seq_normal ?_; refine kp [2, 3, 0] ?_; refine runs_region ?_; refine o1 (mv ?_); refine o1 (iad ?_); refine o1 (mv ?_); refine o1 (isu ?_); refine o1 (asg ?_); refine o1 (asg ?_)
      refine ops_nil ?_; refine seq_back ?_
      simp only [Int.toNat_natCast]; rw [hn, hs1, hs2]
      refine back_c ((i + 1, (C.set i (.mk k2 m2 s2 l2 a2)).set (L.length - 1 - i) (.mk k1 m1 s1 l1 a1))) rfl ?_ ([0]) ?_
      · exact ⟨⟨revI_next hinv.1 (by omega) hg1 hg2, by omega⟩, by omega⟩
      · refine mo ?_ (sly (slx rfl (by exact Fit.of_eq (by rw [show ((i + 1 : Nat) : Int) = (i : Int) + 1 by omega, show ((trms L).length : Int) - 1 - ((i : Int) + 1) = (trms L).length - 1 - i - 1 by omega]; rfl)) (sly slz)))
        repeat (first | exact boz | refine bob ?_)
    · skip
      refine A4 (T := fun _ => False) 11 rfl (op_load_bp ti31 rfl rfl rfl rfl rfl rfl rfl rfl rfl (hei) ?_); refine A2 (T := fun _ => False) 7 rfl (op_load_bp ti31 rfl rfl rfl rfl rfl rfl rfl rfl rfl (hej) ?_)
      refine A1 12 rfl (fl_index_arr' us29 te29 rfl rfl rfl rfl rfl rfl (by omega) ⟨_, rfl, ?_⟩); refine A2 13 rfl (op_store_bp ti31 rfl rfl rfl rfl rfl rfl rfl rfl rfl rfl rfl rfl ⟨rfl, by omega⟩ rfl ?_)
      refine A1 14 rfl (fl_index_arr' us29 te29 rfl rfl rfl rfl rfl rfl (by omega) ⟨_, rfl, ?_⟩); refine A2 15 rfl (op_store_bp ti31 rfl rfl rfl rfl rfl rfl rfl rfl rfl rfl rfl rfl ⟨rfl, by (simp only [List.length_set, trms_len]; omega)⟩ rfl ?_)
      refine a_end ?_; refine inb_normal ?_; refine seq_normal ?_; refine kp [2, 3, 0] ?_; refine runs_region ?_; refine o1 (mv ?_); refine o1 (iad ?_); refine o1 (mv ?_); refine o1 (isu ?_); refine o1 (asg ?_); refine o1 (asg ?_)
      refine ops_nil ?_; refine seq_back ?_
      simp only [Int.toNat_natCast]; rw [hn, hs1, hs2]
      refine back_c ((i + 1, (C.set i (.mk k2 m2 s2 l2 a2)).set (L.length - 1 - i) (.mk k1 m1 s1 l1 a1))) rfl ?_ ([0]) ?_
      · exact ⟨⟨revI_next hinv.1 (by omega) hg1 hg2, by omega⟩, by omega⟩
      · refine mo ?_ (sly (slx rfl (by exact Fit.of_eq (by rw [show ((i + 1 : Nat) : Int) = (i : Int) + 1 by omega, show ((trms L).length : Int) - 1 - ((i : Int) + 1) = (trms L).length - 1 - i - 1 by omega]; rfl)) (sly slz)))
        repeat (first | exact boz | refine bob ?_)
end Go.Proofs.YtneaancanfpdhaaGreatDoor
namespace Go.Proofs.YtneaancanfpdhaaGreatDoor
open Go Go.Vd Go.RowKit
attribute [local irreducible] Runs OpsR OpR FloatR AnyR AnyO
variable {g gl : Nat → List D}
theorem spine_spec (k m : Int) (s : ByteArray) (ls : List Lvl) (args : List Trm) (hok : spOk (.mk k m s ls args)) (hsz : (Trm.mk k m s ls args).size ≤ 1099511627776) :
    TriD Tryz.prog gl 27 [(Trm.mk k m s ls args).d] (· = .tup [(spineT (.mk k m s ls args)).1.d, .sl 5 (trms (spineT (.mk k m s ls args)).2)]) := by
  refine triD_of_runs Tryz.func27 rfl Tryz.ntmps27 (rs := [.cell 2 31, .tmp 3]) rfl rfl rfl ?_
  refine sr ?_; refine oc (T := fun _ => False) (bx ti31 ?_ (hl := by simp only [List.length_cons, List.length_nil, Nat.reduceAdd]; rfl))
  refine oc (T := fun _ => False) (alc ti31 ?_ (hl := by simp only [List.length_cons, List.length_nil, Nat.reduceAdd]; rfl)); refine o1 (asg ?_); refine nx ?_; refine sr ?_; refine o1 (asg ?_); refine nx ?_; refine runs_seq ?_
  refine runs_block ?_; refine kp [4, 2, 1] ?_; refine runs_nilrow 31 5 rfl ?_
  apply runs_loop_o (ι := (Int × Int × ByteArray × List Lvl × List Trm) × List Trm) (fun ⟨⟨k1, m1, s1, l1, a1⟩, acc⟩ => [(4, .arr 2 (trms acc).length)]) (fun ⟨⟨k1, m1, s1, l1, a1⟩, acc⟩ => [.cells [.d (.v (.int .i64 k1)), .d (.v (.int .i64 m1)), .d (.v (.string s1)), .d (.sl 3 (lvls l1)), .d (.sl 5 (trms a1))] 31, .cells [.d (.v (.int .i64 0)), .d (.v (.int .i64 0)), .d (.v (.string .empty)), .d (.v (.slice none 0 0)), .d (.v (.slice none 0 0))] 31, .buf 31 5 (trms acc) none]) [2, 1] (fun ⟨⟨k1, m1, s1, l1, a1⟩, acc⟩ => spOk (.mk k1 m1 s1 l1 a1) ∧ spineT (.mk k m s ls args) = ((spineT (.mk k1 m1 s1 l1 a1)).1, (spineT (.mk k1 m1 s1 l1 a1)).2 ++ acc.reverse) ∧ (Trm.mk k1 m1 s1 l1 a1).size + acc.length ≤ (Trm.mk k m s ls args).size) (fun ⟨⟨k1, m1, s1, l1, a1⟩, acc⟩ => (Trm.mk k1 m1 s1 l1 a1).size) ((⟨k, m, s, ls, args⟩, [])) ([0, 1, 2])
  case hk => exact rfl
  case hI =>
    exact ⟨hok, by simp, by simp⟩
  case hm =>
    refine mo ?_ (slx rfl (by (show Fit _ _ (SV.arr 2 0); exact Fit.nilA rfl)) (sly (sly slz)))
    repeat (first | exact boz | refine boc ?_ | refine bonb ?_)
  case h =>
    rintro ⟨⟨k1, m1, s1, l1, a1⟩, acc⟩ hinv
    try dsimp only at hinv
    refine kp [4, 2, 1] ?_; refine runs_seq ?_; refine sr ?_; refine o1 (fdb ti31 ?_); refine o1 (ldb ti3 ?_); refine o1 (ieq ?_); refine nx ?_; refine cdf (fun h2 => ?_) (fun h2 => ?_)
    · (try simp only [nrm, Int.reduceEq, Int.reduceNe, Int.reduceLT, Int.reduceLE] at h2)
      refine runs_exit ?_; refine seq_exit ?_; refine seq_exit ?_; refine inb_exit ?_; refine seq_normal ?_; refine runs_seq ?_
      have hal2 := hinv.2.2
      have hrv := fun pq => reverse_spec (gl := gl) (pq := pq) acc (by omega)
      have hla := trms_len acc
      have hlr := trms_len acc.reverse
      refine runs_region ?_; refine ops_fixb 2 4 rfl rfl rfl (fun r ob' hob' => ?_); cases hob'; refine o1 (mv ?_); refine ops_unfixb 2 19 rfl rfl rfl ?_; refine oc (ck ca63 rfl rfl (hrv _) [2] rfl (.cons rfl .buf .nil) (fir .nil) ?_)
      refine nx ?_; refine kp [4, 2, 1] ?_; refine sr ?_; refine ops_unfixb 2 4 rfl rfl (by rw [hlr, List.length_reverse, hla]) ?_; refine ops_freezeb 2 rfl rfl rfl rfl ?_; refine o1 (ldb ti31 ?_); refine o1 (mv ?_); refine oc (sto ti31 ?_)
      refine o1 (asg ?_); refine nx ?_; refine runs_ret ?_; refine fin_ret ?_
      refine fin_dl ⟨_, _, rfl, (from_cell rfl rfl ti31 rfl rfl rfl rfl), ⟨_, _, rfl, rfl, rfl⟩⟩ rfl (.tup [(Trm.mk k1 m1 s1 l1 a1).d, .sl 5 (trms acc.reverse)]) (by exact .refl _) ?_
      rw [hinv.2.1, spine_no h2, List.nil_append]
    (try simp only [nrm, Int.reduceEq, Int.reduceNe, Int.reduceLT, Int.reduceLE] at h2); refine runs_skip ?_; refine seq_normal ?_; refine runs_block ?_; refine runs_seq ?_; obtain rfl := h2
    obtain ⟨k2, m2, s2, l2, a2, k3, m3, s3, l3, a3, rfl, hok2⟩ := spOk_app hinv.1 rfl
    have hal := trms_len acc
    have hal2 := hinv.2.2
    have hlast : trms acc ++ [[.v (.int .i64 k3), .v (.int .i64 m3), .v (.string s3), .sl 3 (lvls l3), .sl 5 (trms a3)]] = trms (acc ++ [.mk k3 m3 s3 l3 a3]) := (trms_app acc [.mk k3 m3 s3 l3 a3]).symm
    refine runs_region ?_; refine o1 (mv ?_); refine o1 (fdb ti31 ?_); refine o1 (ldb ti29 ?_); refine o1 (ixs us29 te29 ?_ (he := by exact (rfl))); refine o1 (ldc ti31 ?_)
    refine oc (T := fun _ => False) (op_lit sl29 [.tmp 12] ti31 rfl rfl rfl rfl rfl rfl rfl (by decide) (by decide) (by decide) (by simp only [List.length_cons, List.length_nil, Nat.reduceAdd]; rfl) rfl ?_)
    refine oc (op_append_arr sl29 rfl rfl rfl rfl rfl rfl rfl (by decide) (by simp) (by (simp only [maxLen, List.length_cons, List.length_nil]; omega)) rfl rfl rfl ?_); refine o1 (asg ?_); refine nx ?_; refine kp [4, 2, 1] ?_
    refine runs_region ?_; refine o1 (fdb ti31 ?_); refine o1 (ldb ti29 ?_); refine o1 (ixs us29 te29 ?_ (he := by exact (rfl))); refine o1 (ldc ti31 ?_); refine oc (sto ti31 ?_); refine ops_nil ?_; refine inb_normal ?_; refine seq_back ?_
    rw [hlast]
    refine back_c ((⟨k2, m2, s2, l2, a2⟩, acc ++ [.mk k3 m3 s3 l3 a3])) rfl ?_ ([0, 1, 2]) ?_
    · exact ⟨⟨hok2, by rw [hinv.2.1, spine_app]; simp, by have := hinv.2.2; simp only [Trm.size, sizesT, List.length_append, List.length_cons, List.length_nil] at this ⊢; omega⟩, by simp only [Trm.size, sizesT]; omega⟩
    · refine mo ?_ (sly (sly (sly slz)))
      repeat (first | exact boz | refine boc ?_ | refine bob ?_)
theorem tnew_spec (k : Int) (args : List Trm) : TriD Tryz.prog gl 64 [.v (.int .i64 k), .sl 5 (trms args)] (· = (Trm.mk k 0 .empty [] args).d) := by
  refine triD_of_runs Tryz.func64 rfl Tryz.ntmps64 (rs := [.cell 4 31]) rfl rfl rfl ?_
  refine sr ?_; refine oc (T := fun _ => False) (alc ti31 ?_ (hl := by simp only [List.length_cons, List.length_nil, Nat.reduceAdd]; rfl)); refine nx ?_; refine sr ?_; refine o1 (mv ?_); refine o1 (mv ?_); refine o1 (bld ti31 ?_)
  refine oc (sto ti31 ?_); refine nx ?_; refine runs_ret ?_; refine fin_ret ?_
  refine fin_dl ⟨_, _, rfl, (from_cell rfl rfl ti31 rfl rfl rfl rfl), rfl⟩ rfl ((Trm.mk k 0 .empty [] args).d) (by repeat (first | exact .refl _ | exact .nil | refine .agg ?_ | refine .cons ?_ ?_)) ?_
  rfl
theorem applyT_take {f a : Trm} {bs : List Trm} {i : Nat} (h : bs[i]? = some a) : applyT f (bs.take (i + 1)) = .mk 3 0 .empty [] [applyT f (bs.take i), a] := by
  rw [List.take_add_one, h, applyT, List.foldl_append]; rfl
theorem apply_spec (k m : Int) (s : ByteArray) (ls : List Lvl) (args : List Trm) (bs : List Trm) (hb : bs.length ≤ 1099511627776) :
    TriD Tryz.prog gl 29 [(Trm.mk k m s ls args).d, .sl 5 (trms bs)] (· = (applyT (.mk k m s ls args) bs).d) := by
  have hal := trms_len bs
  refine triD_of_runs Tryz.func29 rfl Tryz.ntmps29 (rs := [.cell 4 31]) rfl rfl rfl ?_
  refine sr ?_; refine oc (T := fun _ => False) (bx ti31 ?_ (hl := by simp only [List.length_cons, List.length_nil, Nat.reduceAdd]; rfl))
  refine oc (T := fun _ => False) (alc ti31 ?_ (hl := by simp only [List.length_cons, List.length_nil, Nat.reduceAdd]; rfl)); refine nx ?_; refine runs_seq ?_; refine sr ?_; refine o1 (mv ?_); refine o1 (le1 us29 ?_); refine o1 (mv ?_)
  refine nx ?_; refine runs_block ?_; refine kp [9, 8, 7, 4, 2] ?_
  apply runs_loop_o (ι := Nat × (Int × Int × ByteArray × List Lvl × List Trm)) (fun ⟨i, ⟨k1, m1, s1, l1, a1⟩⟩ => [(9, int i)]) (fun ⟨i, ⟨k1, m1, s1, l1, a1⟩⟩ => [.cells [.d (.v (.int .i64 k1)), .d (.v (.int .i64 m1)), .d (.v (.string s1)), .d (.sl 3 (lvls l1)), .d (.sl 5 (trms a1))] 31, .cells [.d (.v (.int .i64 0)), .d (.v (.int .i64 0)), .d (.v (.string .empty)), .d (.v (.slice none 0 0)), .d (.v (.slice none 0 0))] 31]) [8, 7, 4, 2] (fun ⟨i, ⟨k1, m1, s1, l1, a1⟩⟩ => i ≤ bs.length ∧ applyT (.mk k m s ls args) (bs.take i) = .mk k1 m1 s1 l1 a1) (fun ⟨i, ⟨k1, m1, s1, l1, a1⟩⟩ => bs.length - i) ((0, ⟨k, m, s, ls, args⟩)) ([0, 1])
  case hk => exact rfl
  case hI =>
    exact ⟨Nat.zero_le _, rfl⟩
  case hm =>
    refine mo ?_ (sly (sly (sly (sly (sly slz)))))
    repeat (first | exact boz | refine boc ?_)
  case h =>
    rintro ⟨i, ⟨k1, m1, s1, l1, a1⟩⟩ hinv
    try dsimp only at hinv
    refine kp [9, 8, 7, 4, 2] ?_; refine sr ?_; refine o1 (ilt ?_); refine nx ?_; refine runs_seq ?_; refine cdf (fun h2 => ?_) (fun h2 => ?_)
    · (try simp only [nrm, Int.reduceEq, Int.reduceNe, Int.reduceLT, Int.reduceLE] at h2)
      refine runs_exit ?_; refine seq_exit ?_; refine seq_exit ?_; refine inb_exit ?_; refine seq_normal ?_; refine kp [4, 2] ?_; refine sr ?_; refine o1 (ldb ti31 ?_); refine oc (sto ti31 ?_); refine nx ?_; refine runs_ret ?_; refine fin_ret ?_
      refine fin_dl ⟨_, _, rfl, (from_cell rfl rfl ti31 rfl rfl rfl rfl), rfl⟩ rfl ((Trm.mk k1 m1 s1 l1 a1).d) (by exact .refl _) ?_
      rw [← hinv.2, List.take_of_length_le (by omega)]
    (try simp only [nrm, Int.reduceEq, Int.reduceNe, Int.reduceLT, Int.reduceLE] at h2); refine runs_skip ?_; refine seq_normal ?_; refine runs_seq ?_; refine runs_block ?_; refine runs_seq ?_
    obtain ⟨k2, m2, s2, l2, a2, hget⟩ := trm_get (show i < bs.length by omega)
    have hnw := tnew_spec (gl := gl) 3 [.mk k1 m1 s1 l1 a1, .mk k2 m2 s2 l2 a2]
    refine runs_region ?_; refine o1 (ixs us29 te29 ?_ (he := by exact (trm_at hget))); refine o1 (ldc ti31 ?_); refine oc (T := fun _ => False) (alc ti31 ?_ (hl := by simp only [List.length_cons, List.length_nil, Nat.reduceAdd]; rfl))
    refine oc (sto ti31 ?_); refine nx ?_; refine runs_region ?_; refine o1 (ldb ti31 ?_); refine o1 (ldb ti31 ?_)
    refine oc (T := fun _ => False) (op_lit sl29 [.tmp 13, .tmp 14] ti31 rfl rfl rfl rfl rfl rfl rfl (by decide) (by decide) (by decide) (by simp only [List.length_cons, List.length_nil, Nat.reduceAdd]; rfl) rfl ?_)
    refine oc (cv ca64 rfl rfl (hnw) (fir (fid .nil)) ?_); refine oc (sto ti31 ?_); refine ops_nil ?_; refine inb_normal ?_; refine seq_normal ?_; refine kp [9, 8, 7, 4, 2] ?_; refine runs_region ?_; refine o1 (iad ?_); refine o1 (mv ?_)
    refine ops_nil ?_; refine seq_back ?_; refine back_c ((i + 1, ⟨3, 0, .empty, [], [.mk k1 m1 s1 l1 a1, .mk k2 m2 s2 l2 a2]⟩)) rfl ?_ ([0, 1]) ?_
    · exact ⟨⟨by omega, by rw [applyT_take hget, hinv.2]⟩, show bs.length - (i + 1) < bs.length - i by omega⟩
    · refine mo ?_ (sly (sly (sly (sly (sly slz)))))
      repeat (first | exact boz | refine boc ?_)
end Go.Proofs.YtneaancanfpdhaaGreatDoor
namespace Go.Proofs.YtneaancanfpdhaaGreatDoor
open Go Go.Vd Go.RowKit
attribute [local irreducible] Runs OpsR OpR FloatR AnyR AnyO
variable {g gl : Nat → List D}
theorem rapp_spec (k m : Int) (s : ByteArray) (ls : List Lvl) (args : List Trm) (k2 m2 : Int) (s2 : ByteArray) (ls2 : List Lvl) (args2 : List Trm) : TriD Tryz.prog gl 65 [(Trm.mk k m s ls args).d, (Trm.mk k2 m2 s2 ls2 args2).d] (· = (Trm.mk 3 0 .empty [] [.mk k m s ls args, .mk k2 m2 s2 ls2 args2]).d) := by
  refine triD_of_runs Tryz.func65 rfl Tryz.ntmps65 (rs := [.cell 4 31]) rfl rfl rfl ?_
  refine sr ?_; refine oc (T := fun _ => False) (bx ti31 ?_ (hl := by simp only [List.length_cons, List.length_nil, Nat.reduceAdd]; rfl))
  refine oc (T := fun _ => False) (bx ti31 ?_ (hl := by simp only [List.length_cons, List.length_nil, Nat.reduceAdd]; rfl))
  refine oc (T := fun _ => False) (alc ti31 ?_ (hl := by simp only [List.length_cons, List.length_nil, Nat.reduceAdd]; rfl)); refine nx ?_; refine sr ?_; refine o1 (ldb ti31 ?_); refine o1 (ldb ti31 ?_)
  refine oc (T := fun _ => False) (op_lit sl29 [.tmp 5, .tmp 6] ti31 rfl rfl rfl rfl rfl rfl rfl (by decide) (by decide) (by decide) (by simp only [List.length_cons, List.length_nil, Nat.reduceAdd]; rfl) rfl ?_); refine o1 (bld ti31 ?_)
  refine oc (sto ti31 ?_); refine nx ?_; refine runs_ret ?_; refine fin_ret ?_
  refine fin_dl ⟨_, _, rfl, (from_cell rfl rfl ti31 rfl rfl rfl rfl), rfl⟩ rfl ((Trm.mk 3 0 .empty [] [.mk k m s ls args, .mk k2 m2 s2 ls2 args2]).d) (by repeat (first | exact .refl _ | exact .nil | refine .agg ?_ | refine .cons ?_ ?_)) ?_
  rfl
theorem rapply_spec (k m : Int) (s : ByteArray) (ls : List Lvl) (args : List Trm) (bs : List Trm) (hb : bs.length ≤ 1099511627776) :
    TriD Tryz.prog gl 30 [(Trm.mk k m s ls args).d, .sl 5 (trms bs)] (· = (applyT (.mk k m s ls args) bs).d) := by
  have hal := trms_len bs
  refine triD_of_runs Tryz.func30 rfl Tryz.ntmps30 (rs := [.cell 4 31]) rfl rfl rfl ?_
  refine sr ?_; refine oc (T := fun _ => False) (bx ti31 ?_ (hl := by simp only [List.length_cons, List.length_nil, Nat.reduceAdd]; rfl))
  refine oc (T := fun _ => False) (alc ti31 ?_ (hl := by simp only [List.length_cons, List.length_nil, Nat.reduceAdd]; rfl)); refine nx ?_; refine runs_seq ?_; refine sr ?_; refine o1 (asg ?_); refine nx ?_; refine runs_block ?_
  refine kp [5, 4, 2, 1] ?_
  apply runs_loop_o (ι := Nat × (Int × Int × ByteArray × List Lvl × List Trm)) (fun ⟨i, ⟨k1, m1, s1, l1, a1⟩⟩ => [(5, int i)]) (fun ⟨i, ⟨k1, m1, s1, l1, a1⟩⟩ => [.cells [.d (.v (.int .i64 k1)), .d (.v (.int .i64 m1)), .d (.v (.string s1)), .d (.sl 3 (lvls l1)), .d (.sl 5 (trms a1))] 31, .cells [.d (.v (.int .i64 0)), .d (.v (.int .i64 0)), .d (.v (.string .empty)), .d (.v (.slice none 0 0)), .d (.v (.slice none 0 0))] 31]) [4, 2, 1] (fun ⟨i, ⟨k1, m1, s1, l1, a1⟩⟩ => i ≤ bs.length ∧ applyT (.mk k m s ls args) (bs.take i) = .mk k1 m1 s1 l1 a1) (fun ⟨i, ⟨k1, m1, s1, l1, a1⟩⟩ => bs.length - i) ((0, ⟨k, m, s, ls, args⟩)) ([0, 1])
  case hk => exact rfl
  case hI =>
    exact ⟨Nat.zero_le _, rfl⟩
  case hm =>
    refine mo ?_ (sly (sly (sly (sly slz))))
    repeat (first | exact boz | refine boc ?_)
  case h =>
    rintro ⟨i, ⟨k1, m1, s1, l1, a1⟩⟩ hinv
    try dsimp only at hinv
    refine kp [5, 4, 2, 1] ?_; refine runs_seq ?_; refine sr ?_; refine o1 (mv ?_); refine o1 (mv ?_); refine o1 (le1 us29 ?_); refine o1 (ilt ?_); refine nx ?_; refine cdf (fun h2 => ?_) (fun h2 => ?_)
    · (try simp only [nrm, Int.reduceEq, Int.reduceNe, Int.reduceLT, Int.reduceLE] at h2)
      refine runs_exit ?_; refine seq_exit ?_; refine seq_exit ?_; refine inb_exit ?_; refine seq_normal ?_; refine kp [4, 2] ?_; refine sr ?_; refine o1 (ldb ti31 ?_); refine oc (sto ti31 ?_); refine nx ?_; refine runs_ret ?_; refine fin_ret ?_
      refine fin_dl ⟨_, _, rfl, (from_cell rfl rfl ti31 rfl rfl rfl rfl), rfl⟩ rfl ((Trm.mk k1 m1 s1 l1 a1).d) (by exact .refl _) ?_
      rw [← hinv.2, List.take_of_length_le (by omega)]
    (try simp only [nrm, Int.reduceEq, Int.reduceNe, Int.reduceLT, Int.reduceLE] at h2); refine runs_skip ?_; refine seq_normal ?_; refine runs_seq ?_; refine runs_block ?_; refine kp [5, 4, 2, 1] ?_
    obtain ⟨k2, m2, s2, l2, a2, hget⟩ := trm_get (show i < bs.length by omega)
    have hnw := rapp_spec (gl := gl) k1 m1 s1 l1 a1 k2 m2 s2 l2 a2
    refine a_start ?_ (hm := by exact mixed); refine A1 0 rfl (ldb ti31 ⟨_, rfl, ?_⟩); refine A1 1 rfl (mv ⟨_, rfl, ?_⟩); refine A1 2 rfl (mv ⟨_, rfl, ?_⟩); refine A1 3 rfl (ixs us29 te29 ⟨_, rfl, ?_⟩ (he := by exact (trm_at hget)))
    refine A1 4 rfl (ldc ti31 ⟨_, rfl, ?_⟩); refine A2 5 rfl (cv ca65 rfl rfl (hnw) (fid (fid .nil)) ?_); refine A2 6 rfl (sto ti31 ?_); refine a_end ?_; refine inb_normal ?_; refine seq_normal ?_; refine kp [5, 4, 2, 1] ?_
    refine runs_region ?_; refine o1 (mv ?_); refine o1 (iad ?_); refine o1 (asg ?_); refine ops_nil ?_; refine seq_back ?_; refine back_c ((i + 1, ⟨3, 0, .empty, [], [.mk k1 m1 s1 l1 a1, .mk k2 m2 s2 l2 a2]⟩)) rfl ?_ ([0, 1]) ?_
    · exact ⟨⟨by omega, by rw [applyT_take hget, hinv.2]⟩, show bs.length - (i + 1) < bs.length - i by omega⟩
    · refine mo ?_ (sly (sly (sly (sly slz))))
      repeat (first | exact boz | refine boc ?_)
end Go.Proofs.YtneaancanfpdhaaGreatDoor
namespace Go.Proofs.YtneaancanfpdhaaGreatDoor
open Go Go.Vd Go.RowKit
attribute [local irreducible] Runs OpsR OpR FloatR AnyR
variable {gl : Nat → List D}
theorem worth_spec (ps : List ByteArray) (ns : List Int) (hl : ps.length ≤ ns.length) (hl2 : ps.length ≤ 281474976710656) (hB : ∀ n ∈ ns, -1099511627776 ≤ n ∧ n ≤ 1099511627776) : ∀ x : Lev, x.size ≤ 1073741824 →
    TriD Tryz.prog gl 135 [x.toLvl.d, strsD ps, intsD ns] (· = .v (.int .i64 (x.worth (pval ps ns)))) := by
  have hlp := strs_len ps
  have hln := ints_len ns
  have hbd : ∀ x : Lev, -1099511627776 ≤ x.worth (pval ps ns) ∧ x.worth (pval ps ns) ≤ 1099511627776 + x.size := fun x => x.worth_bound (by omega) fun s => pval_bound (by omega) hB
  intro x
  induction x with
  | zero =>
    intro hsz
    refine triD_of_runs Tryz.func135 rfl Tryz.ntmps135 (rs := [.tmp 6]) rfl rfl rfl ?_
    refine sr ?_; refine oc (T := fun _ => False) (bx ti45 ?_ (hl := by simp only [List.length_cons, List.length_nil, Nat.reduceAdd]; rfl)); refine o1 (asg ?_); refine nx ?_; refine runs_seq ?_; refine sr ?_; refine o1 (fdb ti45 ?_)
    refine o1 (ldb ti3 ?_); refine nx ?_; refine runs_block ?_; refine sr ?_; refine o1 (ieq ?_); refine o1 (asg ?_); refine nx ?_; refine cdf (fun h2 => ?_) (fun h2 => ?_)
    · simp only [nrm, Int.reduceEq, Int.reduceNe, Int.reduceLT, Int.reduceLE] at h2
    (try simp only [nrm, Int.reduceEq, Int.reduceNe, Int.reduceLT, Int.reduceLE] at h2); refine kp [] ?_; refine sr ?_; refine o1 (asg ?_); refine nx ?_; refine runs_ret ?_; refine inb_ret ?_; refine seq_ret ?_; refine fin_ret ?_
    refine fin_d1 rfl rfl ?_
    rfl
  | succ a ih =>
    intro hsz
    simp only [Lev.size] at hsz
    have h9 := hbd a
    refine triD_of_runs Tryz.func135 rfl Tryz.ntmps135 (rs := [.tmp 6]) rfl rfl rfl ?_
    refine sr ?_; refine oc (T := fun _ => False) (bx ti45 ?_ (hl := by simp only [List.length_cons, List.length_nil, Nat.reduceAdd]; rfl)); refine o1 (asg ?_); refine nx ?_; refine runs_seq ?_; refine sr ?_; refine o1 (fdb ti45 ?_)
    refine o1 (ldb ti3 ?_); refine nx ?_; refine runs_block ?_; refine sr ?_; refine o1 (ieq ?_); refine o1 (asg ?_); refine nx ?_; refine cd (fun h2 => ?_) (fun h2 => ?_)
    · simp only [nrm, Int.reduceEq, Int.reduceNe, Int.reduceLT, Int.reduceLE] at h2
    (try simp only [nrm, Int.reduceEq, Int.reduceNe, Int.reduceLT, Int.reduceLE] at h2); refine kp [11, 3, 1, 2] ?_; refine sr ?_; refine o1 (ieq ?_); refine o1 (asg ?_); refine nx ?_; refine cdf (fun h4 => ?_) (fun h4 => ?_)
    · simp only [nrm, Int.reduceEq, Int.reduceNe, Int.reduceLT, Int.reduceLE] at h4
    (try simp only [nrm, Int.reduceEq, Int.reduceNe, Int.reduceLT, Int.reduceLE] at h4); refine sr ?_; refine o1 (fdb ti45 ?_); refine o1 (ldb ti28 ?_); refine o1 (ixs us28 te28 ?_ (he := by exact (rfl)))
    refine o1 (lda ti45 ?_ (hlen := by exact (Lvl.cells_len _))); refine o1 (mv ?_); refine o1 (mv ?_); refine oc (cv ca135 rfl rfl (ih (by omega)) (fir (fir (fir .nil))) ?_); refine o1 (iad ?_); refine o1 (asg ?_); refine nx ?_
    refine runs_ret ?_; refine inb_ret ?_; refine seq_ret ?_; refine fin_ret ?_; refine fin_d1 rfl rfl ?_
    rfl
  | param s =>
    intro hsz
    refine triD_of_runs Tryz.func135 rfl Tryz.ntmps135 (rs := [.tmp 6]) rfl rfl rfl ?_
    refine sr ?_; refine oc (T := fun _ => False) (bx ti45 ?_ (hl := by simp only [List.length_cons, List.length_nil, Nat.reduceAdd]; rfl)); refine o1 (asg ?_); refine nx ?_; refine runs_seq ?_; refine sr ?_; refine o1 (fdb ti45 ?_)
    refine o1 (ldb ti3 ?_); refine nx ?_; refine runs_block ?_; refine sr ?_; refine o1 (ieq ?_); refine o1 (asg ?_); refine nx ?_; refine cd (fun h2 => ?_) (fun h2 => ?_)
    · simp only [nrm, Int.reduceEq, Int.reduceNe, Int.reduceLT, Int.reduceLE] at h2
    (try simp only [nrm, Int.reduceEq, Int.reduceNe, Int.reduceLT, Int.reduceLE] at h2); refine kp [11, 3, 1, 2] ?_; refine sr ?_; refine o1 (ieq ?_); refine o1 (asg ?_); refine nx ?_; refine cd (fun h4 => ?_) (fun h4 => ?_)
    · simp only [nrm, Int.reduceEq, Int.reduceNe, Int.reduceLT, Int.reduceLE] at h4
    (try simp only [nrm, Int.reduceEq, Int.reduceNe, Int.reduceLT, Int.reduceLE] at h4); refine sr ?_; refine o1 (ieq ?_); refine o1 (asg ?_); refine nx ?_; refine cdf (fun h6 => ?_) (fun h6 => ?_)
    · simp only [nrm, Int.reduceEq, Int.reduceNe, Int.reduceLT, Int.reduceLE] at h6
    (try simp only [nrm, Int.reduceEq, Int.reduceNe, Int.reduceLT, Int.reduceLE] at h6); refine runs_seq ?_; refine kp [3, 1, 2] ?_; refine sr ?_; refine o1 (asg ?_); refine nx ?_; refine runs_block ?_
    apply runs_loop_c (ι := Nat) (fun i => [(7, int i)]) [3, 1, 2] (fun i => i ≤ ps.length ∧ s ∉ ps.take i) (fun i => ps.length - i) (0)
    case hk => exact rfl
    case hI =>
      exact ⟨Nat.zero_le _, by simp⟩
    case hm =>
      refine mo ?_ (sly (sly (sly (sly slz))))
      repeat (first | exact boz | refine boc ?_)
    case h =>
      rintro i hinv
      try dsimp only at hinv
      refine kp [7, 3, 1, 2] ?_; refine runs_seq ?_; refine sr ?_; refine o1 (mv ?_); refine o1 (mv ?_); refine o1 (le1 us42 ?_); refine o1 (ilt ?_); refine nx ?_; refine cdf (fun h8 => ?_) (fun h8 => ?_)
      · (try simp only [nrm, Int.reduceEq, Int.reduceNe, Int.reduceLT, Int.reduceLE] at h8)
        refine runs_exit ?_; refine seq_exit ?_; refine seq_exit ?_; refine inb_exit ?_; refine seq_normal ?_; refine kp [] ?_; refine sr ?_; refine o1 (asg ?_); refine nx ?_; refine runs_ret ?_; refine inb_ret ?_; refine seq_ret ?_
        refine fin_ret ?_; refine fin_d1 rfl rfl ?_
        have h := hinv.2
        rw [List.take_of_length_le (by omega)] at h
        simp only [Lev.worth, pval_none h]
      (try simp only [nrm, Int.reduceEq, Int.reduceNe, Int.reduceLT, Int.reduceLE] at h8); refine runs_skip ?_; refine seq_normal ?_; refine runs_seq ?_; refine runs_block ?_; refine runs_seq ?_; refine kp [7, 3, 1, 2] ?_
      refine a_start ?_ (hm := by exact mixed); refine A1 0 rfl (mv ⟨_, rfl, ?_⟩); refine A1 1 rfl (mv ⟨_, rfl, ?_⟩); refine A1 2 rfl (ixs us42 te42 ⟨_, rfl, ?_⟩ (he := by exact (str_at (by omega)))); refine A1 3 rfl (ldc ti9 ⟨_, rfl, ?_⟩)
      refine A1 4 rfl (fdb ti45 ⟨_, rfl, ?_⟩); refine A1 5 rfl (ldb ti9 ⟨_, rfl, ?_⟩); refine A1 6 rfl (seq1 ⟨_, rfl, ?_⟩); refine a_end ?_; refine seq_normal ?_; refine cdf (fun h10 => ?_) (fun h10 => ?_)
      · (try simp only [nrm, Int.reduceEq, Int.reduceNe, Int.reduceLT, Int.reduceLE] at h10)
        refine runs_skip ?_; refine inb_normal ?_; refine seq_normal ?_; refine kp [7, 3, 1, 2] ?_; refine runs_region ?_; refine o1 (mv ?_); refine o1 (iad ?_); refine o1 (asg ?_); refine ops_nil ?_; refine seq_back ?_
        refine back_i (i + 1) rfl ?_ ?_
        · exact ⟨⟨by omega, not_mem_take_succ (by omega) hinv.2 h10⟩, by omega⟩
        · refine mo ?_ (sly (sly (sly (sly slz))))
          repeat (first | exact boz | refine boc ?_)
      (try simp only [nrm, Int.reduceEq, Int.reduceNe, Int.reduceLT, Int.reduceLE] at h10); refine kp [7, 2] ?_; refine sr ?_; refine o1 (mv ?_); refine o1 (mv ?_)
      have hin : i < ns.length := by omega
      refine o1 (ixs us153 te153 ?_ (he := by exact (int_at (by omega)))); refine o1 (ldc ti3 ?_); refine o1 (asg ?_); refine nx ?_; refine runs_ret ?_; refine inb_ret ?_; refine seq_ret ?_; refine seq_ret ?_; refine inb_ret ?_; refine seq_ret ?_
      refine inb_ret ?_; refine seq_ret ?_; refine fin_ret ?_; refine fin_d1 rfl rfl ?_; obtain ⟨n, hn1, hn2⟩ := pval_at hl hinv.2 (show ps[i]? = some s by rw [List.getElem?_eq_getElem (by omega), h10])
      rw [List.getElem?_eq_getElem hin] at hn1
      simp only [Lev.worth, hn2]
      cases hn1; rfl
  | max a b iha ihb =>
    intro hsz
    simp only [Lev.size] at hsz
    have h9 := hbd a
    have h10 := hbd b
    refine triD_of_runs Tryz.func135 rfl Tryz.ntmps135 (rs := [.tmp 6]) rfl rfl rfl ?_
    refine sr ?_; refine oc (T := fun _ => False) (bx ti45 ?_ (hl := by simp only [List.length_cons, List.length_nil, Nat.reduceAdd]; rfl)); refine o1 (asg ?_); refine nx ?_; refine runs_seq ?_; refine sr ?_; refine o1 (fdb ti45 ?_)
    refine o1 (ldb ti3 ?_); refine nx ?_; refine runs_block ?_; refine sr ?_; refine o1 (ieq ?_); refine o1 (asg ?_); refine nx ?_; refine cd (fun h2 => ?_) (fun h2 => ?_)
    · simp only [nrm, Int.reduceEq, Int.reduceNe, Int.reduceLT, Int.reduceLE] at h2
    (try simp only [nrm, Int.reduceEq, Int.reduceNe, Int.reduceLT, Int.reduceLE] at h2); refine kp [11, 3, 1, 2] ?_; refine sr ?_; refine o1 (ieq ?_); refine o1 (asg ?_); refine nx ?_; refine cd (fun h4 => ?_) (fun h4 => ?_)
    · simp only [nrm, Int.reduceEq, Int.reduceNe, Int.reduceLT, Int.reduceLE] at h4
    (try simp only [nrm, Int.reduceEq, Int.reduceNe, Int.reduceLT, Int.reduceLE] at h4); refine sr ?_; refine o1 (ieq ?_); refine o1 (asg ?_); refine nx ?_; refine cd (fun h6 => ?_) (fun h6 => ?_)
    · simp only [nrm, Int.reduceEq, Int.reduceNe, Int.reduceLT, Int.reduceLE] at h6
    (try simp only [nrm, Int.reduceEq, Int.reduceNe, Int.reduceLT, Int.reduceLE] at h6); refine runs_skip ?_; refine inb_normal ?_; refine seq_normal ?_; refine kp [3, 1, 2] ?_; refine sr ?_; refine o1 (fdb ti45 ?_); refine o1 (ldb ti28 ?_)
    refine o1 (ixs us28 te28 ?_ (he := by exact (rfl))); refine o1 (lda ti45 ?_ (hlen := by exact (Lvl.cells_len _))); refine o1 (mv ?_); refine o1 (mv ?_); refine oc (cv ca135 rfl rfl (iha (by omega)) (fir (fir (fir .nil))) ?_)
    refine o1 (asg ?_); refine nx ?_; refine kp [8, 3, 1, 2] ?_; refine sr ?_; refine o1 (fdb ti45 ?_); refine o1 (ldb ti28 ?_); refine o1 (ixs us28 te28 ?_ (he := by exact (rfl))); refine o1 (lda ti45 ?_ (hlen := by exact (Lvl.cells_len _)))
    refine o1 (mv ?_); refine o1 (mv ?_); refine oc (cv ca135 rfl rfl (ihb (by omega)) (fir (fir (fir .nil))) ?_); refine o1 (asg ?_); refine nx ?_; refine runs_seq ?_; refine kp [9, 8, 3] ?_; refine sr ?_; refine o1 (fdb ti45 ?_)
    refine o1 (ldb ti3 ?_); refine o1 (ieq ?_); refine o1 (mv ?_); refine ops_set 60 false rfl (by decide) ?_; refine gno ?_ (hbw := by exact rfl); refine gno ?_ (hbw := by exact rfl); refine o1 (f_pick_f ?_); refine nx ?_
    refine cd (fun h15 => ?_) (fun h15 => ?_)
    · simp only [nrm, Int.reduceEq, Int.reduceNe, Int.reduceLT, Int.reduceLE] at h15
    (try simp only [nrm, Int.reduceEq, Int.reduceNe, Int.reduceLT, Int.reduceLE] at h15); refine runs_skip ?_; refine seq_normal ?_; refine runs_seq ?_; refine kp [9, 8] ?_; refine sr ?_; refine o1 (mv ?_); refine o1 (mv ?_); refine o1 (igt ?_)
    refine nx ?_; refine cd (fun h17 => ?_) (fun h17 => ?_)
    · (try simp only [nrm, Int.reduceEq, Int.reduceNe, Int.reduceLT, Int.reduceLE] at h17)
      refine kp [9] ?_; refine sr ?_; refine o1 (mv ?_); refine o1 (asg ?_); refine nx ?_; refine runs_ret ?_; refine seq_ret ?_; refine fin_ret ?_; refine fin_d1 rfl rfl ?_
      rw [show (Lev.max a b).worth (pval ps ns) = b.worth (pval ps ns) by simp only [Lev.worth]; omega]
    (try simp only [nrm, Int.reduceEq, Int.reduceNe, Int.reduceLT, Int.reduceLE] at h17); refine runs_skip ?_; refine seq_normal ?_; refine kp [8] ?_; refine sr ?_; refine o1 (mv ?_); refine o1 (asg ?_); refine nx ?_; refine runs_ret ?_
    refine fin_ret ?_; refine fin_d1 rfl rfl ?_
    rw [show (Lev.max a b).worth (pval ps ns) = a.worth (pval ps ns) by simp only [Lev.worth]; omega]
  | imax a b iha ihb =>
    intro hsz
    simp only [Lev.size] at hsz
    have h9 := hbd a
    have h10 := hbd b
    refine triD_of_runs Tryz.func135 rfl Tryz.ntmps135 (rs := [.tmp 6]) rfl rfl rfl ?_
    refine sr ?_; refine oc (T := fun _ => False) (bx ti45 ?_ (hl := by simp only [List.length_cons, List.length_nil, Nat.reduceAdd]; rfl)); refine o1 (asg ?_); refine nx ?_; refine runs_seq ?_; refine sr ?_; refine o1 (fdb ti45 ?_)
    refine o1 (ldb ti3 ?_); refine nx ?_; refine runs_block ?_; refine sr ?_; refine o1 (ieq ?_); refine o1 (asg ?_); refine nx ?_; refine cd (fun h2 => ?_) (fun h2 => ?_)
    · simp only [nrm, Int.reduceEq, Int.reduceNe, Int.reduceLT, Int.reduceLE] at h2
    (try simp only [nrm, Int.reduceEq, Int.reduceNe, Int.reduceLT, Int.reduceLE] at h2); refine kp [11, 3, 1, 2] ?_; refine sr ?_; refine o1 (ieq ?_); refine o1 (asg ?_); refine nx ?_; refine cd (fun h4 => ?_) (fun h4 => ?_)
    · simp only [nrm, Int.reduceEq, Int.reduceNe, Int.reduceLT, Int.reduceLE] at h4
    (try simp only [nrm, Int.reduceEq, Int.reduceNe, Int.reduceLT, Int.reduceLE] at h4); refine sr ?_; refine o1 (ieq ?_); refine o1 (asg ?_); refine nx ?_; refine cd (fun h6 => ?_) (fun h6 => ?_)
    · simp only [nrm, Int.reduceEq, Int.reduceNe, Int.reduceLT, Int.reduceLE] at h6
    (try simp only [nrm, Int.reduceEq, Int.reduceNe, Int.reduceLT, Int.reduceLE] at h6); refine runs_skip ?_; refine inb_normal ?_; refine seq_normal ?_; refine kp [3, 1, 2] ?_; refine sr ?_; refine o1 (fdb ti45 ?_); refine o1 (ldb ti28 ?_)
    refine o1 (ixs us28 te28 ?_ (he := by exact (rfl))); refine o1 (lda ti45 ?_ (hlen := by exact (Lvl.cells_len _))); refine o1 (mv ?_); refine o1 (mv ?_); refine oc (cv ca135 rfl rfl (iha (by omega)) (fir (fir (fir .nil))) ?_)
    refine o1 (asg ?_); refine nx ?_; refine kp [8, 3, 1, 2] ?_; refine sr ?_; refine o1 (fdb ti45 ?_); refine o1 (ldb ti28 ?_); refine o1 (ixs us28 te28 ?_ (he := by exact (rfl))); refine o1 (lda ti45 ?_ (hlen := by exact (Lvl.cells_len _)))
    refine o1 (mv ?_); refine o1 (mv ?_); refine oc (cv ca135 rfl rfl (ihb (by omega)) (fir (fir (fir .nil))) ?_); refine o1 (asg ?_); refine nx ?_; refine runs_seq ?_; refine kp [9, 8, 3] ?_; refine sr ?_; refine o1 (fdb ti45 ?_)
    refine o1 (ldb ti3 ?_); refine o1 (ieq ?_); refine o1 (mv ?_); refine ops_set 60 true rfl (by decide) ?_; refine gye ?_ (hbw := by exact rfl); refine o1 (mv ?_); refine gye ?_ (hbw := by exact rfl); refine o1 (ieq ?_)
    refine o1 (f_pick_t ?_); refine nx ?_; refine cd (fun h15 => ?_) (fun h15 => ?_)
    · (try simp only [nrm, Int.reduceEq, Int.reduceNe, Int.reduceLT, Int.reduceLE] at h15)
      refine kp [] ?_; refine sr ?_; refine o1 (asg ?_); refine nx ?_; refine runs_ret ?_; refine seq_ret ?_; refine fin_ret ?_; refine fin_d1 rfl rfl ?_
      rw [show (Lev.imax a b).worth (pval ps ns) = 0 by simp only [Lev.worth, h15, if_true]]
    (try simp only [nrm, Int.reduceEq, Int.reduceNe, Int.reduceLT, Int.reduceLE] at h15); refine runs_skip ?_; refine seq_normal ?_; refine runs_seq ?_; refine kp [9, 8] ?_; refine sr ?_; refine o1 (mv ?_); refine o1 (mv ?_); refine o1 (igt ?_)
    refine nx ?_; refine cd (fun h17 => ?_) (fun h17 => ?_)
    · (try simp only [nrm, Int.reduceEq, Int.reduceNe, Int.reduceLT, Int.reduceLE] at h17)
      refine kp [9] ?_; refine sr ?_; refine o1 (mv ?_); refine o1 (asg ?_); refine nx ?_; refine runs_ret ?_; refine seq_ret ?_; refine fin_ret ?_; refine fin_d1 rfl rfl ?_
      rw [show (Lev.imax a b).worth (pval ps ns) = b.worth (pval ps ns) by simp only [Lev.worth, h15, if_false]; omega]
    (try simp only [nrm, Int.reduceEq, Int.reduceNe, Int.reduceLT, Int.reduceLE] at h17); refine runs_skip ?_; refine seq_normal ?_; refine kp [8] ?_; refine sr ?_; refine o1 (mv ?_); refine o1 (asg ?_); refine nx ?_; refine runs_ret ?_
    refine fin_ret ?_; refine fin_d1 rfl rfl ?_
    rw [show (Lev.imax a b).worth (pval ps ns) = a.worth (pval ps ns) by simp only [Lev.worth, h15, if_false]; omega]
end Go.Proofs.YtneaancanfpdhaaGreatDoor
namespace Go.Proofs.YtneaancanfpdhaaGreatDoor
open Go Go.Vd Go.RowKit
attribute [local irreducible] Runs OpsR OpR FloatR AnyR
variable {gl : Nat → List D}
theorem substLevel_spec (ps : List ByteArray) (ls : List Lvl) (hl : ps.length ≤ ls.length) (hl2 : ps.length ≤ 281474976710656) : ∀ (n : Nat) (k : Int) (s : ByteArray) (args : List Lvl), (Lvl.mk k s args).size ≤ n → (Lvl.mk k s args).size ≤ 1099511627776 →
    TriD Tryz.prog gl 62 [(Lvl.mk k s args).d, strsD ps, .sl 3 (lvls ls)] (· = ((Lvl.mk k s args).subst ps ls).d) := by
  have hlp := strs_len ps
  have hll := lvls_len ls
  intro n
  induction n with
  | zero => intro k s args h; simp [Lvl.size] at h
  | succ n ih =>
    intro k s args hn hb
    have hsz : sizes args ≤ n := by simp [Lvl.size] at hn; omega
    have hlen := lvls_len args
    have hlb := lvls_size args
    simp only [Lvl.size] at hb
    refine triD_of_runs Tryz.func62 rfl Tryz.ntmps62 (rs := [.cell 6 45]) rfl rfl rfl ?_
    refine sr ?_; refine oc (T := fun _ => False) (bx ti45 ?_ (hl := by simp only [List.length_cons, List.length_nil, Nat.reduceAdd]; rfl))
    refine oc (T := fun _ => False) (alc ti45 ?_ (hl := by simp only [List.length_cons, List.length_nil, Nat.reduceAdd]; rfl)); refine nx ?_; refine runs_seq ?_; refine sr ?_; refine o1 (fdb ti45 ?_); refine o1 (ldb ti3 ?_); refine o1 (ieq ?_)
    refine nx ?_; refine cd (fun h1 => ?_) (fun h1 => ?_)
    · (try simp only [nrm, Int.reduceEq, Int.reduceNe, Int.reduceLT, Int.reduceLE] at h1)
      refine runs_seq ?_; refine kp [6, 3, 1, 2] ?_; refine sr ?_; refine o1 (asg ?_); refine nx ?_; refine runs_block ?_
      apply runs_loop_c (ι := Nat) (fun i => [(7, int i)]) [6, 3, 1, 2] (fun i => i ≤ ps.length ∧ s ∉ ps.take i) (fun i => ps.length - i) (0)
      case hk => exact rfl
      case hI =>
        exact ⟨Nat.zero_le _, by simp⟩
      case hm =>
        refine mo ?_ (sly (sly (sly (sly (sly slz)))))
        repeat (first | exact boz | refine boc ?_)
      case h =>
        rintro i hinv
        try dsimp only at hinv
        refine kp [7, 6, 3, 1, 2] ?_; refine runs_seq ?_; refine sr ?_; refine o1 (mv ?_); refine o1 (mv ?_); refine o1 (le1 us42 ?_); refine o1 (ilt ?_); refine nx ?_; refine cdf (fun h3 => ?_) (fun h3 => ?_)
        · (try simp only [nrm, Int.reduceEq, Int.reduceNe, Int.reduceLT, Int.reduceLE] at h3)
          refine runs_exit ?_; refine seq_exit ?_; refine seq_exit ?_; refine inb_exit ?_; refine seq_normal ?_; refine kp [6, 3] ?_; refine sr ?_; refine o1 (ldb ti45 ?_); refine oc (sto ti45 ?_); refine nx ?_; refine runs_ret ?_; refine seq_ret ?_
          refine fin_ret ?_; refine fin_d ⟨_, _, rfl, (from_cell rfl rfl ti45 rfl rfl rfl rfl), rfl⟩ rfl ?_
          have hk : k = 4 := by omega
          have h := hinv.2
          rw [List.take_of_length_le (by omega)] at h
          simp only [Lvl.subst, if_pos hk, findIdx_none h]
          rfl
        (try simp only [nrm, Int.reduceEq, Int.reduceNe, Int.reduceLT, Int.reduceLE] at h3); refine runs_skip ?_; refine seq_normal ?_; refine runs_seq ?_; refine runs_block ?_; refine runs_seq ?_; refine kp [7, 6, 3, 1, 2] ?_
        refine a_start ?_ (hm := by exact mixed); refine A1 0 rfl (mv ⟨_, rfl, ?_⟩); refine A1 1 rfl (mv ⟨_, rfl, ?_⟩); refine A1 2 rfl (ixs us42 te42 ⟨_, rfl, ?_⟩ (he := by exact (str_at (by omega)))); refine A1 3 rfl (ldc ti9 ⟨_, rfl, ?_⟩)
        refine A1 4 rfl (fdb ti45 ⟨_, rfl, ?_⟩); refine A1 5 rfl (ldb ti9 ⟨_, rfl, ?_⟩); refine A1 6 rfl (seq1 ⟨_, rfl, ?_⟩); refine a_end ?_; refine seq_normal ?_; refine cdf (fun h5 => ?_) (fun h5 => ?_)
        · (try simp only [nrm, Int.reduceEq, Int.reduceNe, Int.reduceLT, Int.reduceLE] at h5)
          refine runs_skip ?_; refine inb_normal ?_; refine seq_normal ?_; refine kp [7, 6, 3, 1, 2] ?_; refine runs_region ?_; refine o1 (mv ?_); refine o1 (iad ?_); refine o1 (asg ?_); refine ops_nil ?_; refine seq_back ?_
          refine back_i (i + 1) rfl ?_ ?_
          · exact ⟨⟨by omega, not_mem_take_succ (by omega) hinv.2 h5⟩, by omega⟩
          · refine mo ?_ (sly (sly (sly (sly (sly slz)))))
            repeat (first | exact boz | refine boc ?_)
        (try simp only [nrm, Int.reduceEq, Int.reduceNe, Int.reduceLT, Int.reduceLE] at h5); refine kp [7, 6, 2] ?_; refine sr ?_; refine o1 (mv ?_); refine o1 (mv ?_); obtain ⟨k', s', a', hget⟩ := lvl_get (show i < ls.length by omega)
        refine o1 (ixs us28 te28 ?_ (he := by exact (lvl_at hget))); refine o1 (ldc ti45 ?_); refine oc (sto ti45 ?_); refine nx ?_; refine runs_ret ?_; refine inb_ret ?_; refine seq_ret ?_; refine seq_ret ?_; refine inb_ret ?_; refine seq_ret ?_
        refine seq_ret ?_; refine fin_ret ?_; refine fin_d ⟨_, _, rfl, (from_cell rfl rfl ti45 rfl rfl rfl rfl), rfl⟩ rfl ?_
        have hk : k = 4 := by omega
        have hf := findIdx_some (show i < ps.length by omega) hinv.2 h5
        simp only [Lvl.subst, if_pos hk, hf, List.getD_eq_getElem?_getD, hget, Option.getD_some]
        rfl
    (try simp only [nrm, Int.reduceEq, Int.reduceNe, Int.reduceLT, Int.reduceLE] at h1); refine runs_skip ?_; refine seq_normal ?_; refine kp [6, 3, 1, 2] ?_; refine sr ?_; refine o1 (fdb ti45 ?_); refine o1 (ldb ti3 ?_); refine o1 (fdb ti45 ?_)
    refine o1 (ldb ti9 ?_); refine o1 (bld ti45 ?_); refine oc (T := fun _ => False) (alc ti45 ?_ (hl := by simp only [List.length_cons, List.length_nil, Nat.reduceAdd]; rfl)); refine oc (sto ti45 ?_); refine nx ?_; refine runs_seq ?_
    refine kp [8, 6, 3, 1, 2] ?_; refine sr ?_; refine o1 (asg ?_); refine nx ?_; refine runs_block ?_; refine runs_nilrow 45 3 rfl ?_
    apply runs_loop_o (ι := Nat) (fun i => [(9, int i)]) (fun i => [.cells [.d (.v (.int .i64 k)), .d (.v (.string s)), .d (.sl 3 (lvls args))] 45, .cells [.d (.v (.int .i64 0)), .d (.v (.string .empty)), .d (.v (.slice none 0 0))] 45, .cells [.d (.v (.int .i64 k)), .d (.v (.string s)), .own 3 3 (lvls (substL ps ls (args.take i)))] 45, .row 45 3]) [8, 6, 3, 1, 2] (fun i => i ≤ args.length) (fun i => args.length - i) (0) ([0, 1, 2, 3])
    case hk => exact rfl
    case hI =>
      exact Nat.zero_le _
    case hm =>
      refine mo ?_ (sly (sly (sly (sly (sly (sly slz))))))
      repeat (first | exact boz | exact fiz | refine boc ?_ | refine bon ?_ | refine boe ?_ ?_ | refine fir ?_ | refine .cons (.nil rfl) ?_)
    case h =>
      rintro i hinv
      try dsimp only at hinv
      refine kp [9, 8, 6, 3, 1, 2] ?_; refine runs_seq ?_; refine sr ?_; refine o1 (mv ?_); refine o1 (fdb ti45 ?_); refine o1 (ldb ti28 ?_); refine o1 (le1 us28 ?_); refine o1 (ilt ?_); refine nx ?_; refine cdf (fun h10 => ?_) (fun h10 => ?_)
      · (try simp only [nrm, Int.reduceEq, Int.reduceNe, Int.reduceLT, Int.reduceLE] at h10)
        refine runs_exit ?_; refine seq_exit ?_; refine seq_exit ?_; refine inb_exit ?_; refine seq_normal ?_; refine kp [8, 6] ?_; refine sr ?_; refine o1 (ldb ti45 ?_); refine oc (sto ti45 ?_); refine nx ?_; refine runs_ret ?_; refine fin_ret ?_
        refine fin_d ⟨_, _, rfl, (from_cell rfl rfl ti45 rfl rfl rfl rfl), rfl⟩ rfl ?_
        have hk : ¬ k = 4 := by omega
        simp only [Lvl.subst, if_neg hk]
        rw [List.take_of_length_le (by omega)]
        rfl
      (try simp only [nrm, Int.reduceEq, Int.reduceNe, Int.reduceLT, Int.reduceLE] at h10); refine runs_skip ?_; refine seq_normal ?_; refine runs_seq ?_; refine runs_block ?_; refine kp [9, 8, 6, 3, 1, 2] ?_
      obtain ⟨k', s', a', hget⟩ := lvl_get (show i < args.length by omega); obtain ⟨k2, s2, a2, hs2⟩ := Lvl.case ((Lvl.mk k' s' a').subst ps ls)
      have hsz' := size_get hget
      have hlast : lvls (substL ps ls (args.take i)) ++ [[.v (.int .i64 k2), .v (.string s2), .sl 3 (lvls a2)]] = lvls (substL ps ls (args.take (i + 1))) := by
        rw [substL_take hget, lvls_app, hs2]; rfl
      have hll2 := lvls_len (substL ps ls (args.take i))
      have hll3 := substL_len ps ls (args.take i)
      simp only [List.length_take] at hll3
      refine a_start ?_ (hm := by exact mixed); refine A1 0 rfl (fdb ti45 ⟨_, rfl, ?_⟩); refine A1 1 rfl (ldb ti28 ⟨_, rfl, ?_⟩); refine A1 2 rfl (fdb ti45 ⟨_, rfl, ?_⟩); refine A1 3 rfl (ldb ti28 ⟨_, rfl, ?_⟩); refine A1 4 rfl (mv ⟨_, rfl, ?_⟩)
      refine A1 5 rfl (ixs us28 te28 ⟨_, rfl, ?_⟩ (he := by exact (lvl_at hget))); refine A1 6 rfl (ldc ti45 ⟨_, rfl, ?_⟩); refine A1 7 rfl (mv ⟨_, rfl, ?_⟩); refine A1 8 rfl (mv ⟨_, rfl, ?_⟩)
      refine A2 (T := fun _ => False) 9 rfl (op_call ca62 rfl rfl rfl rfl (ih k' s' a' (by omega) (by omega)) (fid (fir (fir .nil))) (fun d hd => ?_))
      rw [hs2] at hd; obtain rfl := hd
      refine A2 (T := fun _ => False) 10 rfl (op_lit sl28 [.tmp 52] ti45 rfl rfl rfl rfl rfl rfl rfl (by decide) (by decide) (by decide) (by simp only [List.length_cons, List.length_nil, Nat.reduceAdd]; rfl) rfl ?_)
      refine A2 11 rfl (op_append sl28 rfl rfl rfl rfl rfl rfl rfl (.inl rfl) (by decide) (by simp) (by first | decide | (simp only [maxLen, List.length_cons, List.length_nil, List.length_append, List.length_map]; omega) | omega) rfl rfl rfl ?_)
      refine A1 12 rfl (fdb ti45 ⟨_, rfl, ?_⟩); refine A2 13 rfl (sto ti28 ?_); refine a_end ?_; refine inb_normal ?_; refine seq_normal ?_; refine kp [9, 8, 6, 3, 1, 2] ?_; refine runs_region ?_; refine o1 (mv ?_); refine o1 (iad ?_)
      refine o1 (asg ?_); refine ops_nil ?_; refine seq_back ?_
      rw [hlast]
      refine back_c (i + 1) rfl ?_ ([0, 1, 2, 3]) ?_
      · exact ⟨by omega, by omega⟩
      · refine mo ?_ (sly (sly (sly (sly (sly (sly slz))))))
        repeat (first | exact boz | refine boc ?_ | refine bor ?_)
end Go.Proofs.YtneaancanfpdhaaGreatDoor
namespace Go.Proofs.YtneaancanfpdhaaGreatDoor
open Go Go.Vd Go.RowKit
attribute [local irreducible] Runs OpsR OpR FloatR AnyR
variable {gl : Nat → List D}
/-- the place of a text, or -1 -/
def idxI (ps : List ByteArray) (s : ByteArray) : Int := match ps.findIdx? (· = s) with
  | some i => i
  | none => -1
theorem idxI_some {ps : List ByteArray} {s : ByteArray} {i : Nat} (h : i < ps.length) (h1 : s ∉ ps.take i) (h2 : ps[i] = s) : idxI ps s = i := by
  unfold idxI; rw [findIdx_some h h1 h2]
theorem idxI_none {ps : List ByteArray} {s : ByteArray} (h : s ∉ ps) : idxI ps s = -1 := by
  unfold idxI; rw [findIdx_none h]
theorem idxI_case (ps : List ByteArray) (s : ByteArray) : (s ∉ ps ∧ idxI ps s = -1) ∨ ∃ i, ∃ h : i < ps.length, s ∉ ps.take i ∧ ps[i] = s ∧ idxI ps s = i := by
  by_cases hm : s ∈ ps
  · right
    have h0 : (ps.findIdx? (· = s)).isSome = true := by rw [List.findIdx?_isSome]; simpa using hm
    obtain ⟨i, hi⟩ := Option.isSome_iff_exists.1 h0
    obtain ⟨h1, h2, h3⟩ := List.findIdx?_eq_some_iff_getElem.1 hi
    refine ⟨i, h1, fun hc => ?_, by simpa using h2, by unfold idxI; rw [hi]⟩
    obtain ⟨j, hj, e⟩ := List.mem_iff_getElem.1 hc
    simp only [List.length_take] at hj
    have := h3 j (by omega)
    simp only [List.getElem_take] at e
    simp [e] at this
  · exact .inl ⟨hm, idxI_none hm⟩
theorem index_spec (ps : List ByteArray) (s : ByteArray) (hl : ps.length ≤ 281474976710656) :
    TriD Tryz.prog gl 98 [strsD ps, .v (.string s)] (· = .v (.int .i64 (idxI ps s))) := by
  have hlp := strs_len ps
  refine triD_of_runs Tryz.func98 rfl Tryz.ntmps98 (rs := [.tmp 4]) rfl rfl rfl ?_
  refine sr ?_; refine o1 (asg ?_); refine nx ?_; refine runs_seq ?_; refine sr ?_; refine o1 (mv ?_); refine o1 (le1 us42 ?_); refine o1 (mv ?_); refine nx ?_; refine runs_block ?_; refine kp [8, 7, 0, 1] ?_
  apply runs_loop_c (ι := Nat) (fun i => [(8, int i)]) [7, 0, 1] (fun i => i ≤ ps.length ∧ s ∉ ps.take i) (fun i => ps.length - i) (0)
  case hk => exact rfl
  case hI =>
    exact ⟨Nat.zero_le _, by simp⟩
  case hm =>
    refine mo ?_ (sly (sly (sly (sly slz)))); exact boz
  case h =>
    rintro i hinv
    try dsimp only at hinv
    refine kp [8, 7, 0, 1] ?_; refine sr ?_; refine o1 (ilt ?_); refine nx ?_; refine runs_seq ?_; refine cdf (fun h2 => ?_) (fun h2 => ?_)
    · (try simp only [nrm, Int.reduceEq, Int.reduceNe, Int.reduceLT, Int.reduceLE] at h2)
      refine runs_exit ?_; refine seq_exit ?_; refine seq_exit ?_; refine inb_exit ?_; refine seq_normal ?_; refine kp [] ?_; refine sr ?_; refine o1 (asg ?_); refine nx ?_; refine runs_ret ?_; refine fin_ret ?_; refine fin_d1 rfl rfl ?_
      have h := hinv.2
      rw [List.take_of_length_le (by omega)] at h
      rw [idxI_none h]
    (try simp only [nrm, Int.reduceEq, Int.reduceNe, Int.reduceLT, Int.reduceLE] at h2); refine runs_skip ?_; refine seq_normal ?_; refine runs_seq ?_; refine runs_block ?_; refine sr ?_; refine o1 (mv ?_); refine o1 (asg ?_); refine nx ?_
    refine sr ?_; refine o1 (mv ?_); refine o1 (mv ?_); refine o1 (mv ?_); refine o1 (ixs us42 te42 ?_ (he := by exact (str_at (by omega)))); refine o1 (ldc ti9 ?_); refine o1 (seq1 ?_); refine nx ?_; refine cd (fun h4 => ?_) (fun h4 => ?_)
    · (try simp only [nrm, Int.reduceEq, Int.reduceNe, Int.reduceLT, Int.reduceLE] at h4)
      refine kp [5] ?_; refine sr ?_; refine o1 (mv ?_); refine o1 (asg ?_); refine nx ?_; refine runs_ret ?_; refine inb_ret ?_; refine seq_ret ?_; refine seq_ret ?_; refine inb_ret ?_; refine seq_ret ?_; refine fin_ret ?_
      refine fin_d1 rfl rfl ?_
      rw [idxI_some (show i < ps.length by omega) hinv.2 h4.symm]
    (try simp only [nrm, Int.reduceEq, Int.reduceNe, Int.reduceLT, Int.reduceLE] at h4); refine runs_skip ?_; refine inb_normal ?_; refine seq_normal ?_; refine kp [8, 7, 0, 1] ?_; refine runs_region ?_; refine o1 (iad ?_); refine o1 (mv ?_)
    refine ops_nil ?_; refine seq_back ?_; refine back_i (i + 1) rfl ?_ ?_
    · exact ⟨⟨by omega, not_mem_take_succ (by omega) hinv.2 (fun e => h4 e.symm)⟩, by omega⟩
    · refine mo ?_ (sly (sly (sly (sly slz))))
      exact boz
end Go.Proofs.YtneaancanfpdhaaGreatDoor
namespace Go.Proofs.YtneaancanfpdhaaGreatDoor
open Go Go.Vd Go.RowKit
attribute [local irreducible] Runs OpsR OpR FloatR AnyR
variable {gl : Nat → List D}
theorem psubst_spec (ps : List ByteArray) (ls : List Lvl) (hl : ps.length ≤ ls.length) (hl2 : ps.length ≤ 281474976710656) : ∀ (n : Nat) (k : Int) (s : ByteArray) (args : List Lvl), (Lvl.mk k s args).size ≤ n → (Lvl.mk k s args).size ≤ 1099511627776 →
    TriD Tryz.prog gl 61 [(Lvl.mk k s args).d, strsD ps, .sl 3 (lvls ls)] (· = ((Lvl.mk k s args).subst ps ls).d) := by
  have hlp := strs_len ps
  have hll := lvls_len ls
  intro n
  induction n with
  | zero => intro k s args h; simp [Lvl.size] at h
  | succ n ih =>
    intro k s args hn hb
    have hsz : sizes args ≤ n := by simp [Lvl.size] at hn; omega
    have hlen := lvls_len args
    have hlb := lvls_size args
    simp only [Lvl.size] at hb
    refine triD_of_runs Tryz.func61 rfl Tryz.ntmps61 (rs := [.cell 6 45]) rfl rfl rfl ?_
    refine sr ?_; refine oc (T := fun _ => False) (bx ti45 ?_ (hl := by simp only [List.length_cons, List.length_nil, Nat.reduceAdd]; rfl))
    refine oc (T := fun _ => False) (alc ti45 ?_ (hl := by simp only [List.length_cons, List.length_nil, Nat.reduceAdd]; rfl)); refine nx ?_; refine runs_seq ?_; refine sr ?_; refine o1 (fdb ti45 ?_); refine o1 (ldb ti3 ?_); refine o1 (ieq ?_)
    refine nx ?_; refine cd (fun h1 => ?_) (fun h1 => ?_)
    · (try simp only [nrm, Int.reduceEq, Int.reduceNe, Int.reduceLT, Int.reduceLE] at h1)
      refine runs_seq ?_; refine kp [6, 3, 1, 2] ?_; refine sr ?_; refine o1 (mv ?_); refine o1 (fdb ti45 ?_); refine o1 (ldb ti9 ?_); refine oc (cv ca98 rfl rfl (index_spec ps s hl2) (fir (fir .nil)) ?_); refine o1 (asg ?_); refine nx ?_
      refine kp [7, 6, 3, 2] ?_; refine sr ?_; refine o1 (mv ?_); refine o1 (ige ?_); refine nx ?_; refine cdf (fun h3 => ?_) (fun h3 => ?_)
      · (try simp only [nrm, Int.reduceEq, Int.reduceNe, Int.reduceLT, Int.reduceLE] at h3)
        refine runs_skip ?_; refine seq_normal ?_; refine kp [6, 3] ?_; refine sr ?_; refine o1 (ldb ti45 ?_); refine oc (sto ti45 ?_); refine nx ?_; refine runs_ret ?_; refine seq_ret ?_; refine fin_ret ?_
        refine fin_d ⟨_, _, rfl, (from_cell rfl rfl ti45 rfl rfl rfl rfl), rfl⟩ rfl ?_
        have hk : k = 4 := by omega
        rcases idxI_case ps s with ⟨hx, _⟩ | ⟨i, hi, hx1, hx2, hx⟩
        · simp only [Lvl.subst, if_pos hk, findIdx_none hx]
          rfl
        · omega
      (try simp only [nrm, Int.reduceEq, Int.reduceNe, Int.reduceLT, Int.reduceLE] at h3); refine sr ?_; refine o1 (mv ?_); refine o1 (mv ?_)
      rcases idxI_case ps s with ⟨_, hx⟩ | ⟨i, hi, hx1, hx2, hx⟩
      · omega
      obtain ⟨k', s', a', hget⟩ := lvl_get (show i < ls.length by omega)
      rw [hx]
      refine o1 (ixs us28 te28 ?_ (he := by exact (lvl_at hget))); refine o1 (ldc ti45 ?_); refine oc (sto ti45 ?_); refine nx ?_; refine runs_ret ?_; refine seq_ret ?_; refine seq_ret ?_; refine fin_ret ?_
      refine fin_d ⟨_, _, rfl, (from_cell rfl rfl ti45 rfl rfl rfl rfl), rfl⟩ rfl ?_
      have hk : k = 4 := by omega
      have hf := findIdx_some hi hx1 hx2
      simp only [Lvl.subst, if_pos hk, hf, List.getD_eq_getElem?_getD, hget, Option.getD_some]
      rfl
    (try simp only [nrm, Int.reduceEq, Int.reduceNe, Int.reduceLT, Int.reduceLE] at h1); refine runs_skip ?_; refine seq_normal ?_; refine kp [6, 3, 1, 2] ?_; refine sr ?_; refine o1 (ldb ti45 ?_)
    refine oc (T := fun _ => False) (alc ti45 ?_ (hl := by simp only [List.length_cons, List.length_nil, Nat.reduceAdd]; rfl)); refine oc (sto ti45 ?_); refine nx ?_; refine sr ?_; refine o1 (fdb ti45 ?_); refine oc (sto ti28 ?_); refine nx ?_
    refine runs_seq ?_; refine sr ?_; refine o1 (fdb ti45 ?_); refine o1 (ldb ti28 ?_); refine o1 (le1 us28 ?_); refine o1 (mv ?_); refine nx ?_; refine runs_block ?_; refine kp [30, 29, 28, 8, 6, 1, 2] ?_; refine runs_nilrow 45 3 rfl ?_
    apply runs_loop_o (ι := Nat) (fun i => [(30, int i)]) (fun i => [.cells [.d (.v (.int .i64 k)), .d (.v (.string s)), .d (.sl 3 (lvls args))] 45, .cells [.d (.v (.int .i64 0)), .d (.v (.string .empty)), .d (.v (.slice none 0 0))] 45, .cells [.d (.v (.int .i64 k)), .d (.v (.string s)), .own 3 3 (lvls (substL ps ls (args.take i)))] 45, .row 45 3]) [29, 28, 8, 6, 1, 2] (fun i => i ≤ args.length) (fun i => args.length - i) (0) ([0, 1, 2, 3])
    case hk => exact rfl
    case hI =>
      exact Nat.zero_le _
    case hm =>
      refine mo ?_ (sly (sly (sly (sly (sly (sly (sly slz)))))))
      repeat (first | exact boz | exact fiz | refine boc ?_ | refine bon ?_ | refine boe ?_ ?_ | refine fir ?_ | refine .cons (.nil rfl) ?_)
    case h =>
      rintro i hinv
      try dsimp only at hinv
      refine kp [30, 29, 28, 8, 6, 1, 2] ?_; refine sr ?_; refine o1 (ilt ?_); refine nx ?_; refine runs_seq ?_; refine cdf (fun h9 => ?_) (fun h9 => ?_)
      · (try simp only [nrm, Int.reduceEq, Int.reduceNe, Int.reduceLT, Int.reduceLE] at h9)
        refine runs_exit ?_; refine seq_exit ?_; refine seq_exit ?_; refine inb_exit ?_; refine seq_normal ?_; refine kp [8, 6] ?_; refine sr ?_; refine o1 (ldb ti45 ?_); refine oc (sto ti45 ?_); refine nx ?_; refine runs_ret ?_; refine fin_ret ?_
        refine fin_d ⟨_, _, rfl, (from_cell rfl rfl ti45 rfl rfl rfl rfl), rfl⟩ rfl ?_
        have hk : ¬ k = 4 := by omega
        simp only [Lvl.subst, if_neg hk]
        rw [List.take_of_length_le (by omega)]
        rfl
      (try simp only [nrm, Int.reduceEq, Int.reduceNe, Int.reduceLT, Int.reduceLE] at h9); refine runs_skip ?_; refine seq_normal ?_; refine runs_seq ?_; refine runs_block ?_; refine runs_seq ?_
      obtain ⟨k', s', a', hget⟩ := lvl_get (show i < args.length by omega); obtain ⟨k2, s2, a2, hs2⟩ := Lvl.case ((Lvl.mk k' s' a').subst ps ls)
      have hsz' := size_get hget
      have hlast : lvls (substL ps ls (args.take i)) ++ [[.v (.int .i64 k2), .v (.string s2), .sl 3 (lvls a2)]] = lvls (substL ps ls (args.take (i + 1))) := by
        rw [substL_take hget, lvls_app, hs2]; rfl
      have hll2 := lvls_len (substL ps ls (args.take i))
      have hll3 := substL_len ps ls (args.take i)
      simp only [List.length_take] at hll3
      refine runs_region ?_; refine o1 (ixs us28 te28 ?_ (he := by exact (lvl_at hget))); refine o1 (ldc ti45 ?_); refine oc (T := fun _ => False) (alc ti45 ?_ (hl := by simp only [List.length_cons, List.length_nil, Nat.reduceAdd]; rfl))
      refine oc (sto ti45 ?_); refine nx ?_; refine a_start ?_ (hm := by exact mixed); refine A1 0 rfl (fdb ti45 ⟨_, rfl, ?_⟩); refine A1 1 rfl (ldb ti28 ⟨_, rfl, ?_⟩); refine A1 2 rfl (ldb ti45 ⟨_, rfl, ?_⟩); refine A1 3 rfl (mv ⟨_, rfl, ?_⟩)
      refine A1 4 rfl (mv ⟨_, rfl, ?_⟩); refine A2 (T := fun _ => False) 5 rfl (op_call ca61 rfl rfl rfl rfl (ih k' s' a' (by omega) (by omega)) (fid (fir (fir .nil))) (fun d hd => ?_))
      rw [hs2] at hd; obtain rfl := hd
      refine A2 (T := fun _ => False) 6 rfl (op_lit sl28 [.tmp 39] ti45 rfl rfl rfl rfl rfl rfl rfl (by decide) (by decide) (by decide) (by simp only [List.length_cons, List.length_nil, Nat.reduceAdd]; rfl) rfl ?_)
      refine A2 7 rfl (op_append sl28 rfl rfl rfl rfl rfl rfl rfl (.inl rfl) (by decide) (by simp) (by first | decide | (simp only [maxLen, List.length_cons, List.length_nil, List.length_append, List.length_map]; omega) | omega) rfl rfl rfl ?_)
      refine A1 8 rfl (fdb ti45 ⟨_, rfl, ?_⟩); refine A2 9 rfl (sto ti28 ?_); refine a_end ?_; refine inb_normal ?_; refine seq_normal ?_; refine kp [30, 29, 28, 8, 6, 1, 2] ?_; refine runs_region ?_; refine o1 (iad ?_); refine o1 (mv ?_)
      refine ops_nil ?_; refine seq_back ?_
      rw [hlast]
      refine back_c (i + 1) rfl ?_ ([0, 1, 2, 3]) ?_
      · exact ⟨by omega, by omega⟩
      · refine mo ?_ (sly (sly (sly (sly (sly (sly (sly slz)))))))
        repeat (first | exact boz | refine boc ?_ | refine bor ?_)
end Go.Proofs.YtneaancanfpdhaaGreatDoor
namespace Go.Proofs.YtneaancanfpdhaaGreatDoor
open Go Go.Vd Go.RowKit
attribute [local irreducible] Runs OpsR OpR FloatR AnyR AnyO
variable {g gl : Nat → List D}
mutual
/-- levels in place of parameters -/
def subT (ps : List ByteArray) (us : List Lvl) : Trm → Trm
  | .mk k n s ls args => .mk k n s (ls.map fun x => x.subst ps us) (subTs ps us args)
def subTs (ps : List ByteArray) (us : List Lvl) : List Trm → List Trm
  | [] => []
  | t :: r => subT ps us t :: subTs ps us r
end
theorem subTs_len {ps : List ByteArray} {us : List Lvl} : ∀ l : List Trm, (subTs ps us l).length = l.length
  | [] => rfl
  | t :: r => by simp [subTs, subTs_len r]
theorem subTs_get {ps : List ByteArray} {us : List Lvl} : ∀ {l : List Trm} {i : Nat} {t : Trm}, l[i]? = some t → (subTs ps us l)[i]? = some (subT ps us t)
  | [], i, t, h => by simp at h
  | a :: r, 0, t, h => by simp at h; subst h; simp [subTs]
  | a :: r, i + 1, t, h => by simpa [subTs] using subTs_get (l := r) (i := i) (t := t) (by simpa using h)
theorem lvls_take1 {l : List Lvl} {i : Nat} {x : Lvl} (h : l[i]? = some x) : lvls (l.take i) ++ [x.cells] = lvls (l.take (i + 1)) := by
  rw [List.take_add_one, h, lvls_app]; rfl
theorem trms_take1 {l : List Trm} {i : Nat} {x : Trm} (h : l[i]? = some x) : trms (l.take i) ++ [x.cells] = trms (l.take (i + 1)) := by
  rw [List.take_add_one, h, trms_app]; rfl
theorem sizes_getL : ∀ {l : List Lvl} {i : Nat} {t : Lvl}, l[i]? = some t → t.size ≤ sizes l
  | [], i, t, h => by simp at h
  | a :: r, 0, t, h => by simp at h; subst h; simp [sizes]
  | a :: r, i + 1, t, h => by
    have := sizes_getL (l := r) (i := i) (t := t) (by simpa using h)
    simp [sizes]; omega
theorem sizes_lenL : ∀ l : List Lvl, l.length ≤ sizes l
  | [] => by simp
  | .mk k s args :: r => by have := sizes_lenL r; simp [sizes, Lvl.size]; omega
theorem plevels_spec (ps : List ByteArray) (us : List Lvl) (hp0 : 0 < ps.length) (hl : ps.length ≤ us.length) (hl2 : ps.length ≤ 281474976710656) : ∀ (n : Nat) (k m : Int) (s : ByteArray) (ls : List Lvl) (args : List Trm), (Trm.mk k m s ls args).size ≤ n → (Trm.mk k m s ls args).size ≤ 1099511627776 →
    TriD Tryz.prog gl 25 [(Trm.mk k m s ls args).d, strsD ps, .sl 3 (lvls us)] (· = (subT ps us (.mk k m s ls args)).d) := by
  intro n
  induction n with
  | zero => intro k m s ls args h; simp [Trm.size] at h
  | succ n ih =>
    intro k m s ls args hsz hb
    simp only [Trm.size] at hsz hb
    have hal := trms_len args
    have hsa := sizesT_len args
    have hll := lvls_len ls
    have hsl := sizes_lenL ls
    have hpl := strs_len ps
    have hml := subTs_len (ps := ps) (us := us) args
    refine triD_of_runs Tryz.func25 rfl Tryz.ntmps25 (rs := [.cell 6 31]) rfl rfl rfl ?_
    refine sr ?_; refine oc (T := fun _ => False) (bx ti31 ?_ (hl := by simp only [List.length_cons, List.length_nil, Nat.reduceAdd]; rfl))
    refine oc (T := fun _ => False) (alc ti31 ?_ (hl := by simp only [List.length_cons, List.length_nil, Nat.reduceAdd]; rfl)); refine nx ?_; refine runs_seq ?_; refine sr ?_; refine o1 (mv ?_); refine o1 (le1 us42 ?_); refine o1 (ieq ?_)
    refine nx ?_; refine cd (fun h1 => ?_) (fun h1 => ?_)
    · (try simp only [nrm, Int.reduceEq, Int.reduceNe, Int.reduceLT, Int.reduceLE] at h1); omega
    (try simp only [nrm, Int.reduceEq, Int.reduceNe, Int.reduceLT, Int.reduceLE] at h1); refine runs_skip ?_; refine seq_normal ?_; refine kp [6, 3, 1, 2] ?_; refine sr ?_; refine o1 (ldb ti31 ?_)
    refine oc (T := fun _ => False) (alc ti31 ?_ (hl := by simp only [List.length_cons, List.length_nil, Nat.reduceAdd]; rfl)); refine oc (sto ti31 ?_); refine nx ?_; refine sr ?_; refine o1 (fdb ti31 ?_); refine oc (sto ti28 ?_)
    refine o1 (fdb ti31 ?_); refine oc (sto ti29 ?_); refine nx ?_; refine runs_seq ?_; refine sr ?_; refine o1 (fdb ti31 ?_); refine o1 (ldb ti28 ?_); refine o1 (le1 us28 ?_); refine o1 (mv ?_); refine nx ?_; refine runs_block ?_
    refine kp [22, 21, 20, 7, 6, 3, 1, 2] ?_; refine runs_nilrow 45 3 rfl ?_
    apply runs_loop_o (ι := Nat) (fun i => [(22, int i)]) (fun i => [.cells [.d (.v (.int .i64 k)), .d (.v (.int .i64 m)), .d (.v (.string s)), .d (.sl 3 (lvls ls)), .d (.sl 5 (trms args))] 31, .cells [.d (.v (.int .i64 0)), .d (.v (.int .i64 0)), .d (.v (.string .empty)), .d (.v (.slice none 0 0)), .d (.v (.slice none 0 0))] 31, .cells [.d (.v (.int .i64 k)), .d (.v (.int .i64 m)), .d (.v (.string s)), .own 3 3 (lvls ((ls.map fun x => x.subst ps us).take i)), .d (.v (.slice none 0 0))] 31, .row 45 3]) [21, 20, 7, 6, 3, 1, 2] (fun i => i ≤ ls.length) (fun i => ls.length - i) (0) ([0, 1, 2, 3])
    case hk => exact rfl
    case hI =>
      exact Nat.zero_le _
    case hm =>
      refine mo ?_ (sly (sly (sly (sly (sly (sly (sly (sly slz))))))))
      repeat (first | exact boz | exact fiz | refine boc ?_ | refine bon ?_ | refine boe ?_ ?_ | refine fir ?_ | refine .cons (.nil rfl) ?_)
    case h =>
      rintro i hinv
      try dsimp only at hinv
      refine kp [22, 21, 20, 7, 6, 3, 1, 2] ?_; refine sr ?_; refine o1 (ilt ?_); refine nx ?_; refine runs_seq ?_; refine cd (fun h6 => ?_) (fun h6 => ?_)
      · (try simp only [nrm, Int.reduceEq, Int.reduceNe, Int.reduceLT, Int.reduceLE] at h6)
        refine runs_skip ?_; refine seq_normal ?_; refine runs_seq ?_; refine runs_block ?_; refine runs_seq ?_; obtain ⟨k2, s2, a2, hget⟩ := lvl_get (show i < ls.length by omega)
        have hg1 := sizes_getL hget
        obtain ⟨k3, s3, a3, hY⟩ := Lvl.case ((Lvl.mk k2 s2 a2).subst ps us)
        have hsu := psubst_spec (gl := gl) ps us hl hl2 _ k2 s2 a2 (Nat.le_refl _) (by omega)
        rw [hY] at hsu
        have hgm : (ls.map fun x => x.subst ps us)[i]? = some (.mk k3 s3 a3) := (by rw [List.getElem?_map, hget, Option.map_some, hY])
        have hnx : lvls ((ls.map fun x => x.subst ps us).take i) ++ [[.v (.int .i64 k3), .v (.string s3), .sl 3 (lvls a3)]] = lvls ((ls.map fun x => x.subst ps us).take (i + 1)) := lvls_take1 hgm
        have htl := lvls_len ((ls.map fun x => x.subst ps us).take i)
        have htk := List.length_take (i := i) (l := ls.map fun x => x.subst ps us)
        refine runs_region ?_; refine o1 (ixs us28 te28 ?_ (he := by exact (lvl_at hget))); refine o1 (ldc ti45 ?_); refine oc (T := fun _ => False) (alc ti45 ?_ (hl := by simp only [List.length_cons, List.length_nil, Nat.reduceAdd]; rfl))
        refine oc (sto ti45 ?_); refine nx ?_; refine a_start ?_ (hm := by exact mixed); refine A1 0 rfl (fdb ti31 ⟨_, rfl, ?_⟩); refine A1 1 rfl (ldb ti28 ⟨_, rfl, ?_⟩); refine A1 2 rfl (ldb ti45 ⟨_, rfl, ?_⟩); refine A1 3 rfl (mv ⟨_, rfl, ?_⟩)
        refine A1 4 rfl (mv ⟨_, rfl, ?_⟩); refine A2 5 rfl (cv ca61 rfl rfl (hsu) (fid (fir (fir .nil))) ?_)
        refine A2 (T := fun _ => False) 6 rfl (op_lit sl28 [.tmp 31] ti45 rfl rfl rfl rfl rfl rfl rfl (by decide) (by decide) (by decide) (by simp only [List.length_cons, List.length_nil, Nat.reduceAdd]; rfl) rfl ?_)
        refine A2 7 rfl (op_append sl28 rfl rfl rfl rfl rfl rfl rfl (.inl rfl) (by decide) (by simp) (by (simp only [maxLen, List.length_cons, List.length_nil]; omega)) rfl rfl rfl ?_); refine A1 8 rfl (fdb ti31 ⟨_, rfl, ?_⟩)
        refine A2 9 rfl (sto ti28 ?_); refine a_end ?_; refine inb_normal ?_; refine seq_normal ?_; refine kp [22, 21, 20, 7, 6, 3, 1, 2] ?_; refine runs_region ?_; refine o1 (iad ?_); refine o1 (mv ?_); refine ops_nil ?_; refine seq_back ?_
        rw [hnx]
        refine back_c (i + 1) rfl ?_ ([0, 1, 2, 3]) ?_
        · exact ⟨by omega, by omega⟩
        · refine mo ?_ (sly (sly (sly (sly (sly (sly (sly (sly slz))))))))
          repeat (first | exact boz | refine boc ?_ | refine bor ?_)
      (try simp only [nrm, Int.reduceEq, Int.reduceNe, Int.reduceLT, Int.reduceLE] at h6); refine runs_exit ?_; refine seq_exit ?_; refine seq_exit ?_; refine inb_exit ?_; refine seq_normal ?_; refine runs_seq ?_; refine runs_seq ?_
      refine kp [7, 6, 3, 1, 2] ?_; obtain rfl : i = ls.length := (by omega)
      rw [List.take_of_length_le (by rw [List.length_map]; omega)]
      refine runs_region ?_; refine o1 (fdb ti31 ?_); refine o1 (ldb ti29 ?_); refine o1 (le1 us29 ?_); refine o1 (mv ?_); refine nx ?_; refine runs_block ?_; refine kp [39, 38, 37, 7, 6, 1, 2] ?_; refine runs_nilrow 31 5 rfl ?_
      apply runs_loop_o (ι := Nat) (fun j => [(39, int j)]) (fun j => [.cells [.d (.v (.int .i64 k)), .d (.v (.int .i64 m)), .d (.v (.string s)), .d (.sl 3 (lvls ls)), .d (.sl 5 (trms args))] 31, .cells [.d (.v (.int .i64 0)), .d (.v (.int .i64 0)), .d (.v (.string .empty)), .d (.v (.slice none 0 0)), .d (.v (.slice none 0 0))] 31, .cells [.d (.v (.int .i64 k)), .d (.v (.int .i64 m)), .d (.v (.string s)), .own 3 3 (lvls (ls.map fun x => x.subst ps us)), .own 4 5 (trms ((subTs ps us args).take j))] 31, .row 45 3, .row 31 5]) [38, 37, 7, 6, 1, 2] (fun j => j ≤ args.length) (fun j => args.length - j) (0) ([0, 1, 2, 3, 4])
      case hk => exact rfl
      case hI =>
        exact Nat.zero_le _
      case hm =>
        refine mo ?_ (sly (sly (sly (sly (sly (sly (sly slz)))))))
        repeat (first | exact boz | exact fiz | refine boc ?_ | refine bor ?_ | refine bon ?_ | refine boe ?_ ?_ | refine fir ?_ | refine .cons (.nil rfl) ?_)
      case h =>
        rintro j hinv
        try dsimp only at hinv
        refine kp [39, 38, 37, 7, 6, 1, 2] ?_; refine sr ?_; refine o1 (ilt ?_); refine nx ?_; refine runs_seq ?_; refine cdf (fun h11 => ?_) (fun h11 => ?_)
        · (try simp only [nrm, Int.reduceEq, Int.reduceNe, Int.reduceLT, Int.reduceLE] at h11)
          refine runs_exit ?_; refine seq_exit ?_; refine seq_exit ?_; refine inb_exit ?_; refine seq_normal ?_; refine runs_seq ?_; refine kp [7, 6] ?_; obtain rfl : j = args.length := (by omega)
          rw [List.take_of_length_le (by omega)]
          refine runs_region ?_; refine o1 (ldb ti31 ?_); refine oc (sto ti31 ?_); refine nx ?_; refine runs_ret ?_; refine fin_ret ?_
          refine fin_dl ⟨_, _, rfl, (from_cell rfl rfl ti31 rfl rfl rfl rfl), rfl⟩ rfl ((Trm.mk k m s (ls.map fun x => x.subst ps us) (subTs ps us args)).d) (by exact .refl _) ?_
          rw [subT]
        (try simp only [nrm, Int.reduceEq, Int.reduceNe, Int.reduceLT, Int.reduceLE] at h11); refine runs_skip ?_; refine seq_normal ?_; refine runs_seq ?_; refine runs_block ?_; refine runs_seq ?_
        obtain ⟨k2, m2, s2, l2, a2, hget⟩ := trm_get (show j < args.length by omega)
        have hg1 := sizeT_get hget
        obtain ⟨k3, m3, s3, l3, a3, hY⟩ := Trm.case (subT ps us (.mk k2 m2 s2 l2 a2))
        have hsu := ih k2 m2 s2 l2 a2 (by omega) (by omega)
        have hgm := subTs_get (ps := ps) (us := us) hget
        rw [hY] at hsu hgm
        have hnx : trms ((subTs ps us args).take j) ++ [[.v (.int .i64 k3), .v (.int .i64 m3), .v (.string s3), .sl 3 (lvls l3), .sl 5 (trms a3)]] = trms ((subTs ps us args).take (j + 1)) := trms_take1 hgm
        have htl := trms_len ((subTs ps us args).take j)
        have htk := List.length_take (i := j) (l := subTs ps us args)
        refine runs_region ?_; refine o1 (ixs us29 te29 ?_ (he := by exact (trm_at hget))); refine o1 (ldc ti31 ?_); refine oc (T := fun _ => False) (alc ti31 ?_ (hl := by simp only [List.length_cons, List.length_nil, Nat.reduceAdd]; rfl))
        refine oc (sto ti31 ?_); refine nx ?_; refine a_start ?_ (hm := by exact mixed); refine A1 0 rfl (fdb ti31 ⟨_, rfl, ?_⟩); refine A1 1 rfl (ldb ti29 ⟨_, rfl, ?_⟩); refine A1 2 rfl (ldb ti31 ⟨_, rfl, ?_⟩); refine A1 3 rfl (mv ⟨_, rfl, ?_⟩)
        refine A1 4 rfl (mv ⟨_, rfl, ?_⟩); refine A2 5 rfl (cv ca25 rfl rfl (hsu) (fid (fir (fir .nil))) ?_)
        refine A2 (T := fun _ => False) 6 rfl (op_lit sl29 [.tmp 48] ti31 rfl rfl rfl rfl rfl rfl rfl (by decide) (by decide) (by decide) (by simp only [List.length_cons, List.length_nil, Nat.reduceAdd]; rfl) rfl ?_)
        refine A2 7 rfl (op_append sl29 rfl rfl rfl rfl rfl rfl rfl (.inl rfl) (by decide) (by simp) (by (simp only [maxLen, List.length_cons, List.length_nil]; omega)) rfl rfl rfl ?_); refine A1 8 rfl (fdb ti31 ⟨_, rfl, ?_⟩)
        refine A2 9 rfl (sto ti29 ?_); refine a_end ?_; refine inb_normal ?_; refine seq_normal ?_; refine kp [39, 38, 37, 7, 6, 1, 2] ?_; refine runs_region ?_; refine o1 (iad ?_); refine o1 (mv ?_); refine ops_nil ?_; refine seq_back ?_
        rw [hnx]
        refine back_c (j + 1) rfl ?_ ([0, 1, 2, 3, 4]) ?_
        · exact ⟨by omega, by omega⟩
        · refine mo ?_ (sly (sly (sly (sly (sly (sly (sly slz)))))))
          repeat (first | exact boz | refine boc ?_ | refine bor ?_)
end Go.Proofs.YtneaancanfpdhaaGreatDoor
namespace Go.Proofs.YtneaancanfpdhaaGreatDoor
open Go Go.Vd Go.RowKit
attribute [local irreducible] Runs OpsR OpR FloatR AnyR AnyO
variable {g gl : Nat → List D}
theorem rlevels_spec (ps : List ByteArray) (us : List Lvl) (hl : ps.length ≤ us.length) (hl2 : ps.length ≤ 281474976710656) : ∀ (n : Nat) (k m : Int) (s : ByteArray) (ls : List Lvl) (args : List Trm), (Trm.mk k m s ls args).size ≤ n → (Trm.mk k m s ls args).size ≤ 1099511627776 →
    TriD Tryz.prog gl 26 [(Trm.mk k m s ls args).d, strsD ps, .sl 3 (lvls us)] (· = (subT ps us (.mk k m s ls args)).d) := by
  intro n
  induction n with
  | zero => intro k m s ls args h; simp [Trm.size] at h
  | succ n ih =>
    intro k m s ls args hsz hb
    simp only [Trm.size] at hsz hb
    have hal := trms_len args
    have hsa := sizesT_len args
    have hll := lvls_len ls
    have hsl := sizes_lenL ls
    have hpl := strs_len ps
    have hml := subTs_len (ps := ps) (us := us) args
    refine triD_of_runs Tryz.func26 rfl Tryz.ntmps26 (rs := [.cell 6 31]) rfl rfl rfl ?_
    refine sr ?_; refine oc (T := fun _ => False) (bx ti31 ?_ (hl := by simp only [List.length_cons, List.length_nil, Nat.reduceAdd]; rfl))
    refine oc (T := fun _ => False) (alc ti31 ?_ (hl := by simp only [List.length_cons, List.length_nil, Nat.reduceAdd]; rfl)); refine nx ?_; refine sr ?_; refine o1 (fdb ti31 ?_); refine o1 (ldb ti3 ?_); refine o1 (fdb ti31 ?_)
    refine o1 (ldb ti3 ?_); refine o1 (fdb ti31 ?_); refine o1 (ldb ti9 ?_); refine o1 (bld ti31 ?_); refine oc (T := fun _ => False) (alc ti31 ?_ (hl := by simp only [List.length_cons, List.length_nil, Nat.reduceAdd]; rfl))
    refine oc (sto ti31 ?_); refine nx ?_; refine runs_seq ?_; refine kp [7, 6, 3, 1, 2] ?_; refine sr ?_; refine o1 (asg ?_); refine nx ?_; refine runs_block ?_; refine runs_nilrow 45 3 rfl ?_
    apply runs_loop_o (ι := Nat) (fun i => [(8, int i)]) (fun i => [.cells [.d (.v (.int .i64 k)), .d (.v (.int .i64 m)), .d (.v (.string s)), .d (.sl 3 (lvls ls)), .d (.sl 5 (trms args))] 31, .cells [.d (.v (.int .i64 0)), .d (.v (.int .i64 0)), .d (.v (.string .empty)), .d (.v (.slice none 0 0)), .d (.v (.slice none 0 0))] 31, .cells [.d (.v (.int .i64 k)), .d (.v (.int .i64 m)), .d (.v (.string s)), .own 3 3 (lvls ((ls.map fun x => x.subst ps us).take i)), .d (.v (.slice none 0 0))] 31, .row 45 3]) [7, 6, 3, 1, 2] (fun i => i ≤ ls.length) (fun i => ls.length - i) (0) ([0, 1, 2, 3])
    case hk => exact rfl
    case hI =>
      exact Nat.zero_le _
    case hm =>
      refine mo ?_ (sly (sly (sly (sly (sly (sly slz))))))
      repeat (first | exact boz | exact fiz | refine boc ?_ | refine bon ?_ | refine boe ?_ ?_ | refine fir ?_ | refine .cons (.nil rfl) ?_)
    case h =>
      rintro i hinv
      try dsimp only at hinv
      refine kp [8, 7, 6, 3, 1, 2] ?_; refine runs_seq ?_; refine sr ?_; refine o1 (mv ?_); refine o1 (fdb ti31 ?_); refine o1 (ldb ti28 ?_); refine o1 (le1 us28 ?_); refine o1 (ilt ?_); refine nx ?_; refine cd (fun h3 => ?_) (fun h3 => ?_)
      · (try simp only [nrm, Int.reduceEq, Int.reduceNe, Int.reduceLT, Int.reduceLE] at h3)
        refine runs_skip ?_; refine seq_normal ?_; refine runs_seq ?_; refine runs_block ?_; refine kp [8, 7, 6, 3, 1, 2] ?_; obtain ⟨k2, s2, a2, hget⟩ := lvl_get (show i < ls.length by omega)
        have hg1 := sizes_getL hget
        obtain ⟨k3, s3, a3, hY⟩ := Lvl.case ((Lvl.mk k2 s2 a2).subst ps us)
        have hsu := substLevel_spec (gl := gl) ps us hl hl2 _ k2 s2 a2 (Nat.le_refl _) (by omega)
        rw [hY] at hsu
        have hgm : (ls.map fun x => x.subst ps us)[i]? = some (.mk k3 s3 a3) := (by rw [List.getElem?_map, hget, Option.map_some, hY])
        have hnx : lvls ((ls.map fun x => x.subst ps us).take i) ++ [[.v (.int .i64 k3), .v (.string s3), .sl 3 (lvls a3)]] = lvls ((ls.map fun x => x.subst ps us).take (i + 1)) := lvls_take1 hgm
        have htl := lvls_len ((ls.map fun x => x.subst ps us).take i)
        have htk := List.length_take (i := i) (l := ls.map fun x => x.subst ps us)
        refine a_start ?_ (hm := by exact mixed); refine A1 0 rfl (fdb ti31 ⟨_, rfl, ?_⟩); refine A1 1 rfl (ldb ti28 ⟨_, rfl, ?_⟩); refine A1 2 rfl (fdb ti31 ⟨_, rfl, ?_⟩); refine A1 3 rfl (ldb ti28 ⟨_, rfl, ?_⟩); refine A1 4 rfl (mv ⟨_, rfl, ?_⟩)
        refine A1 5 rfl (ixs us28 te28 ⟨_, rfl, ?_⟩ (he := by exact (lvl_at hget))); refine A1 6 rfl (ldc ti45 ⟨_, rfl, ?_⟩); refine A1 7 rfl (mv ⟨_, rfl, ?_⟩); refine A1 8 rfl (mv ⟨_, rfl, ?_⟩)
        refine A2 9 rfl (cv ca62 rfl rfl (hsu) (fid (fir (fir .nil))) ?_)
        refine A2 (T := fun _ => False) 10 rfl (op_lit sl28 [.tmp 33] ti45 rfl rfl rfl rfl rfl rfl rfl (by decide) (by decide) (by decide) (by simp only [List.length_cons, List.length_nil, Nat.reduceAdd]; rfl) rfl ?_)
        refine A2 11 rfl (op_append sl28 rfl rfl rfl rfl rfl rfl rfl (.inl rfl) (by decide) (by simp) (by (simp only [maxLen, List.length_cons, List.length_nil]; omega)) rfl rfl rfl ?_); refine A1 12 rfl (fdb ti31 ⟨_, rfl, ?_⟩)
        refine A2 13 rfl (sto ti28 ?_); refine a_end ?_; refine inb_normal ?_; refine seq_normal ?_; refine kp [8, 7, 6, 3, 1, 2] ?_; refine runs_region ?_; refine o1 (mv ?_); refine o1 (iad ?_); refine o1 (asg ?_); refine ops_nil ?_
        refine seq_back ?_
        rw [hnx]
        refine back_c (i + 1) rfl ?_ ([0, 1, 2, 3]) ?_
        · exact ⟨by omega, by omega⟩
        · refine mo ?_ (sly (sly (sly (sly (sly (sly slz))))))
          repeat (first | exact boz | refine boc ?_ | refine bor ?_)
      (try simp only [nrm, Int.reduceEq, Int.reduceNe, Int.reduceLT, Int.reduceLE] at h3); refine runs_exit ?_; refine seq_exit ?_; refine seq_exit ?_; refine inb_exit ?_; refine seq_normal ?_; refine runs_seq ?_; refine runs_seq ?_
      refine kp [7, 6, 3, 1, 2] ?_; obtain rfl : i = ls.length := (by omega)
      rw [List.take_of_length_le (by rw [List.length_map]; omega)]
      refine runs_region ?_; refine o1 (asg ?_); refine nx ?_; refine runs_block ?_; refine runs_nilrow 31 5 rfl ?_
      apply runs_loop_o (ι := Nat) (fun j => [(9, int j)]) (fun j => [.cells [.d (.v (.int .i64 k)), .d (.v (.int .i64 m)), .d (.v (.string s)), .d (.sl 3 (lvls ls)), .d (.sl 5 (trms args))] 31, .cells [.d (.v (.int .i64 0)), .d (.v (.int .i64 0)), .d (.v (.string .empty)), .d (.v (.slice none 0 0)), .d (.v (.slice none 0 0))] 31, .cells [.d (.v (.int .i64 k)), .d (.v (.int .i64 m)), .d (.v (.string s)), .own 3 3 (lvls (ls.map fun x => x.subst ps us)), .own 4 5 (trms ((subTs ps us args).take j))] 31, .row 45 3, .row 31 5]) [7, 6, 3, 1, 2] (fun j => j ≤ args.length) (fun j => args.length - j) (0) ([0, 1, 2, 3, 4])
      case hk => exact rfl
      case hI =>
        exact Nat.zero_le _
      case hm =>
        refine mo ?_ (sly (sly (sly (sly (sly (sly slz))))))
        repeat (first | exact boz | exact fiz | refine boc ?_ | refine bor ?_ | refine bon ?_ | refine boe ?_ ?_ | refine fir ?_ | refine .cons (.nil rfl) ?_)
      case h =>
        rintro j hinv
        try dsimp only at hinv
        refine kp [9, 7, 6, 3, 1, 2] ?_; refine runs_seq ?_; refine sr ?_; refine o1 (mv ?_); refine o1 (fdb ti31 ?_); refine o1 (ldb ti29 ?_); refine o1 (le1 us29 ?_); refine o1 (ilt ?_); refine nx ?_; refine cdf (fun h7 => ?_) (fun h7 => ?_)
        · (try simp only [nrm, Int.reduceEq, Int.reduceNe, Int.reduceLT, Int.reduceLE] at h7)
          refine runs_exit ?_; refine seq_exit ?_; refine seq_exit ?_; refine inb_exit ?_; refine seq_normal ?_; refine runs_seq ?_; refine kp [7, 6] ?_; obtain rfl : j = args.length := (by omega)
          rw [List.take_of_length_le (by omega)]
          refine runs_region ?_; refine o1 (ldb ti31 ?_); refine oc (sto ti31 ?_); refine nx ?_; refine runs_ret ?_; refine fin_ret ?_
          refine fin_dl ⟨_, _, rfl, (from_cell rfl rfl ti31 rfl rfl rfl rfl), rfl⟩ rfl ((Trm.mk k m s (ls.map fun x => x.subst ps us) (subTs ps us args)).d) (by exact .refl _) ?_
          rw [subT]
        (try simp only [nrm, Int.reduceEq, Int.reduceNe, Int.reduceLT, Int.reduceLE] at h7); refine runs_skip ?_; refine seq_normal ?_; refine runs_seq ?_; refine runs_block ?_; refine kp [9, 7, 6, 3, 1, 2] ?_
        obtain ⟨k2, m2, s2, l2, a2, hget⟩ := trm_get (show j < args.length by omega)
        have hg1 := sizeT_get hget
        obtain ⟨k3, m3, s3, l3, a3, hY⟩ := Trm.case (subT ps us (.mk k2 m2 s2 l2 a2))
        have hsu := ih k2 m2 s2 l2 a2 (by omega) (by omega)
        have hgm := subTs_get (ps := ps) (us := us) hget
        rw [hY] at hsu hgm
        have hnx : trms ((subTs ps us args).take j) ++ [[.v (.int .i64 k3), .v (.int .i64 m3), .v (.string s3), .sl 3 (lvls l3), .sl 5 (trms a3)]] = trms ((subTs ps us args).take (j + 1)) := trms_take1 hgm
        have htl := trms_len ((subTs ps us args).take j)
        have htk := List.length_take (i := j) (l := subTs ps us args)
        refine a_start ?_ (hm := by exact mixed); refine A1 0 rfl (fdb ti31 ⟨_, rfl, ?_⟩); refine A1 1 rfl (ldb ti29 ⟨_, rfl, ?_⟩); refine A1 2 rfl (fdb ti31 ⟨_, rfl, ?_⟩); refine A1 3 rfl (ldb ti29 ⟨_, rfl, ?_⟩); refine A1 4 rfl (mv ⟨_, rfl, ?_⟩)
        refine A1 5 rfl (ixs us29 te29 ⟨_, rfl, ?_⟩ (he := by exact (trm_at hget))); refine A1 6 rfl (ldc ti31 ⟨_, rfl, ?_⟩); refine A1 7 rfl (mv ⟨_, rfl, ?_⟩); refine A1 8 rfl (mv ⟨_, rfl, ?_⟩)
        refine A2 9 rfl (cv ca26 rfl rfl (hsu) (fid (fir (fir .nil))) ?_)
        refine A2 (T := fun _ => False) 10 rfl (op_lit sl29 [.tmp 53] ti31 rfl rfl rfl rfl rfl rfl rfl (by decide) (by decide) (by decide) (by simp only [List.length_cons, List.length_nil, Nat.reduceAdd]; rfl) rfl ?_)
        refine A2 11 rfl (op_append sl29 rfl rfl rfl rfl rfl rfl rfl (.inl rfl) (by decide) (by simp) (by (simp only [maxLen, List.length_cons, List.length_nil]; omega)) rfl rfl rfl ?_); refine A1 12 rfl (fdb ti31 ⟨_, rfl, ?_⟩)
        refine A2 13 rfl (sto ti29 ?_); refine a_end ?_; refine inb_normal ?_; refine seq_normal ?_; refine kp [9, 7, 6, 3, 1, 2] ?_; refine runs_region ?_; refine o1 (mv ?_); refine o1 (iad ?_); refine o1 (asg ?_); refine ops_nil ?_
        refine seq_back ?_
        rw [hnx]
        refine back_c (j + 1) rfl ?_ ([0, 1, 2, 3, 4]) ?_
        · exact ⟨by omega, by omega⟩
        · refine mo ?_ (sly (sly (sly (sly (sly (sly slz))))))
          repeat (first | exact boz | refine boc ?_ | refine bor ?_)
end Go.Proofs.YtneaancanfpdhaaGreatDoor
namespace Go.Vd
open Go Go.RowKit
theorem shape_ex {z o : MapF} (hz : Ones z) (ho : Ones o) (l : Lev) : nmL l → ∃ n f q, Shape l z o n f q := by
  induction l with
  | zero => exact fun _ => ⟨_, _, _, shape_zero⟩
  | param s =>
    intro _
    by_cases h : z s = none
    · exact ⟨_, _, _, shape_param hz ho s h⟩
    · exact ⟨_, _, _, shape_zeroed s h⟩
  | succ a ih =>
    intro hn
    obtain ⟨n, f, q, h⟩ := ih hn
    by_cases hq : q = .empty
    · subst hq
      exact ⟨_, _, _, shape_succ ⟨0, _, n, f, ⟨rfl, rfl⟩, h, rfl, rfl⟩⟩
    · exact ⟨_, _, _, shape_early (l := .succ a) (as1 := []) (up := 1) (n := 0) (f := fun _ => none) ⟨rfl, rfl⟩ (by decide) (fun x hx => by cases hx) hq ⟨(h.no hq).1, (h.no hq).2⟩⟩
  | max a b iha ihb =>
    intro hn
    obtain ⟨n, f, q, h⟩ := iha fun p hp => hn p (.inl hp)
    by_cases hq : q = .empty
    · subst hq
      obtain ⟨n2, f2, q2, h2⟩ := ihb fun p hp => hn p (.inr hp)
      by_cases hq2 : q2 = .empty
      · subst hq2
        exact ⟨_, _, _, shape_max ⟨_, _, n2, f2, ⟨0, _, n, f, ⟨rfl, rfl⟩, h, rfl, rfl⟩, h2, rfl, rfl⟩⟩
      · exact ⟨_, _, _, shape_early (l := .max a b) (as1 := []) (up := 0) (n := 0) (f := fun _ => none) ⟨rfl, rfl⟩ (by decide) (fun x hx => by cases hx) hq2 ⟨.inr (h2.no hq2).1, (h2.no hq2).2⟩⟩
    · exact ⟨_, _, _, shape_early (l := .max a b) (as1 := []) (up := 0) (n := 0) (f := fun _ => none) ⟨rfl, rfl⟩ (by decide) (fun x hx => by cases hx) hq ⟨.inl (h.no hq).1, (h.no hq).2⟩⟩
  | imax a b iha ihb =>
    intro hn
    obtain ⟨n, f, q, h⟩ := ihb fun p hp => hn p (.inr hp)
    by_cases hq : q = .empty
    · subst hq
      by_cases h0 : n = 0
      · subst h0
        by_cases he : ∀ p, f p = none
        · exact ⟨_, _, _, shape_imax_zero h he⟩
        · obtain ⟨p, hp⟩ := Classical.not_forall.1 he
          cases hf : f p with
          | none => exact absurd hf hp
          | some m => exact ⟨_, _, _, shape_imax_at ho h hf (hn p (.inr (h.b.sup p m hf)))⟩
      · obtain ⟨n2, f2, q2, h2⟩ := iha fun p hp => hn p (.inl hp)
        exact ⟨_, _, _, shape_imax h h0 h2⟩
    · exact ⟨_, _, _, shape_imax_b h hq⟩
theorem leq_ex {a b : Lev} (hna : nmL a) (hnb : nmL b) : ∀ (n : Nat) {z o : MapF}, Ones z → Ones o → (∀ q, z q ≠ none → o q = none) → freeN z o (b.params (a.params [])) < n → ∃ c, LeqA z o a b c := by
  intro n
  induction n with
  | zero => intro z o _ _ _ h; omega
  | succ n ih =>
    intro z o hz ho hd hn
    obtain ⟨n1, f1, q1, h1⟩ := shape_ex hz ho a hna
    obtain ⟨n2, f2, q2, h2⟩ := shape_ex hz ho b hnb
    have split : ∀ q, (a.has q ∨ b.has q) → z q = none → o q = none → ∃ c, LeqA z o a b c := fun q hq hzq hoq => by
      have hqU : q ∈ b.params (a.params []) := hq.elim (fun h => b.params_mono (a.has_params h)) (fun h => b.has_params h)
      have hf0 := free_zero hqU hzq hoq
      have hf1 := free_one hqU hzq hoq
      obtain ⟨c1, hA1⟩ := ih (ones_upd hz) ho (disj_zero hd hoq) (show freeN (updM z q 1) o _ < n by omega)
      obtain ⟨c2, hA2⟩ := ih hz (ones_upd ho) (disj_one hd hzq) (show freeN z (updM o q 1) _ < n by omega)
      cases c1 with
      | false => exact ⟨false, fun e => (by cases e), fun _ => (hA1.no rfl).zero⟩
      | true => exact ⟨c2, fun e => (sem_split (q := q) a b).2 ⟨hA1.yes rfl, hA2.yes e⟩, fun e => (hA2.no e).one⟩
    by_cases hq1 : q1 = .empty
    · by_cases hq2 : q2 = .empty
      · subst hq1 hq2
        by_cases hF : FLe n1 f1 n2 f2
        · exact ⟨true, fun _ => sem_of_fle (h1.ok rfl) (h2.ok rfl) hF, fun e => by cases e⟩
        · exact ⟨false, fun e => (by cases e), fun _ => cex_of_not hz ho hd (h1.ok rfl) (h2.ok rfl) hF⟩
      · exact split q2 (.inr (h2.no hq2).1) (h2.no hq2).2.1 (h2.no hq2).2.2
    · exact split q1 (.inl (h1.no hq1).1) (h1.no hq1).2.1 (h1.no hq1).2.2
theorem Lev.worth_congr {σ τ : ByteArray → Int} : ∀ (l : Lev), (∀ p, l.has p → σ p = τ p) → l.worth σ = l.worth τ
  | .zero, _ => rfl
  | .succ a, h => by simp only [Lev.worth]; rw [a.worth_congr h]
  | .max a b, h => by simp only [Lev.worth]; rw [a.worth_congr fun p hp => h p (.inl hp), b.worth_congr fun p hp => h p (.inr hp)]
  | .imax a b, h => by simp only [Lev.worth]; rw [a.worth_congr fun p hp => h p (.inl hp), b.worth_congr fun p hp => h p (.inr hp)]
  | .param s, h => h s rfl
theorem pval_map {σ : ByteArray → Int} : ∀ {ps : List ByteArray} {p : ByteArray}, p ∈ ps → pval ps (ps.map σ) p = σ p
  | q :: r, p, h => by
    simp only [List.map_cons, pval]
    by_cases e : q = p
    · rw [if_pos e, e]
    · rw [if_neg e]
      exact pval_map ((List.mem_cons.1 h).resolve_left (Ne.symm e))
theorem pval_nonneg : ∀ {ps : List ByteArray} {ns : List Int} {s : ByteArray}, (∀ n ∈ ns, 0 ≤ n) → 0 ≤ pval ps ns s
  | [], _, _, _ => by simp [pval]
  | p :: ps, [], s, _ => by simp [pval]
  | p :: ps, n :: ns, s, h => by
    simp only [pval]
    split
    · exact h n List.mem_cons_self
    · exact pval_nonneg fun m hm => h m (List.mem_cons_of_mem _ hm)
theorem third_mod (big : Int) (r : Nat) : third big r = third big (r % 3) := by unfold third; rw [Nat.mod_mod]
theorem digs_add (big : Int) (k c n : Nat) : digs big (k + c * 3 ^ n) n = digs big k n := by
  unfold digs
  apply List.map_congr_left
  intro j hj
  have hjn : j < n := List.mem_range.1 hj
  rw [third_mod big ((k + c * 3 ^ n) / 3 ^ j), third_mod big (k / 3 ^ j)]
  have e : c * 3 ^ n = 3 ^ j * (3 * (c * 3 ^ (n - j - 1))) := by
    have h1 : n = j + 1 + (n - j - 1) := by omega
    have h2 : 3 ^ n = 3 ^ j * (3 * 3 ^ (n - j - 1)) := by
      conv => lhs; rw [h1]
      rw [Nat.pow_add, Nat.pow_succ]
      rw [Nat.mul_assoc]
    rw [h2]
    rw [Nat.mul_left_comm, Nat.mul_left_comm c 3]
  rw [e, Nat.add_mul_div_left _ _ (Nat.pow_pos (by decide)), Nat.add_mul_mod_self_left]
theorem digs_ex {big : Int} : ∀ (n : Nat) {ds : List Int}, ds.length = n → (∀ d ∈ ds, d = 0 ∨ d = 1 ∨ d = big) → ∃ k, k < 3 ^ n ∧ digs big k n = ds
  | 0, ds, h, _ => ⟨0, by simp, by
    have : ds = [] := List.eq_nil_of_length_eq_zero h
    rw [this]; rfl⟩
  | n + 1, ds, h, hd => by
    have hne : ds ≠ [] := fun e => by rw [e] at h; cases h
    have hsp := (List.dropLast_concat_getLast hne).symm
    obtain ⟨k, hk, hdk⟩ := digs_ex n (ds := ds.dropLast) (by rw [List.length_dropLast, h]; rfl) (fun d hdd => hd d (List.dropLast_subset _ hdd))
    have hl := hd _ (List.getLast_mem hne)
    have : ∃ c, c < 3 ∧ third big c = ds.getLast hne := by
      rcases hl with e | e | e
      · exact ⟨0, by decide, by rw [e]; rfl⟩
      · exact ⟨1, by decide, by rw [e]; rfl⟩
      · exact ⟨2, by decide, by rw [e]; rfl⟩
    obtain ⟨c, hc, hc2⟩ := this
    refine ⟨k + c * 3 ^ n, ?_, ?_⟩
    · rw [Nat.pow_succ]
      have : c * 3 ^ n ≤ 2 * 3 ^ n := Nat.mul_le_mul_right _ (by omega)
      omega
    · rw [digs_succ, digs_add, hdk]
      have e : (k + c * 3 ^ n) / 3 ^ n = c := by
        rw [Nat.add_mul_div_right _ _ (Nat.pow_pos (by decide)), Nat.div_eq_of_lt hk]; omega
      rw [e, hc2]
      exact hsp.symm
theorem refLeq_sem {a b : Lev} (hna : nmL a) (hnb : nmL b) : refLeq a b = semB a b := by
  rw [Bool.eq_iff_iff, semB_iff]
  unfold refLeq
  rw [decide_eq_true_eq]
  constructor
  · intro h
    obtain ⟨c, hA⟩ := leq_ex hna hnb (freeN noM noM (b.params (a.params [])) + 1) (z := noM) (o := noM) (fun p m e => by cases e) (fun p m e => by cases e) (fun q h => rfl) (Nat.lt_succ_self _)
    cases c with
    | true => exact hA.yes rfl
    | false =>
      obtain ⟨σ, hσ, h1, h2⟩ := hA.no rfl
      obtain ⟨k, hk, hdk⟩ := digs_ex (big := a.big b) (a.ps b).length (ds := (a.ps b).map σ) (by simp) (fun d hd => by obtain ⟨p, _, rfl⟩ := List.mem_map.1 hd; exact h1 p)
      have h3 := h k hk
      unfold refAt at h3
      rw [hdk] at h3
      have e1 := a.worth_congr (σ := pval (a.ps b) ((a.ps b).map σ)) (τ := σ) fun p hp => pval_map (b.params_mono (a.has_params hp))
      have e2 := b.worth_congr (σ := pval (a.ps b) ((a.ps b).map σ)) (τ := σ) fun p hp => pval_map (b.has_params hp)
      omega
  · intro h k hk
    refine h _ ⟨fun p => pval_nonneg fun n hn => ?_, fun p hp => absurd rfl hp, fun p hp => absurd rfl hp⟩
    unfold digs at hn
    obtain ⟨j, _, rfl⟩ := List.mem_map.1 hn
    unfold third Lev.big
    split
    · omega
    · split <;> omega
/-- parameters, each once -/
theorem Lev.params_nodup : ∀ (l : Lev) {ah : List ByteArray}, ah.Nodup → (l.params ah).Nodup
  | .zero, _, h => h
  | .succ a, _, h => a.params_nodup h
  | .max a b, _, h => b.params_nodup (a.params_nodup h)
  | .imax a b, _, h => b.params_nodup (a.params_nodup h)
  | .param s, ah, h => by
    simp only [Lev.params]
    split
    · exact h
    · rename_i h2
      rw [List.nodup_append]
      refine ⟨h, by simp, fun x hx y hy e => ?_⟩
      simp at hy; subst hy e
      exact h2 (memB_iff.2 hx)
theorem Lev.params_or : ∀ (l : Lev) {ah : List ByteArray} {p : ByteArray}, p ∈ l.params ah → p ∈ ah ∨ l.has p
  | .zero, _, _, h => .inl h
  | .succ a, _, _, h => a.params_or h
  | .max a b, _, _, h => (b.params_or h).elim (fun h => (a.params_or h).imp (fun h => h) .inl) (fun h => .inr (.inr h))
  | .imax a b, _, _, h => (b.params_or h).elim (fun h => (a.params_or h).imp (fun h => h) .inl) (fun h => .inr (.inr h))
  | .param s, ah, p, h => by
    simp only [Lev.params] at h
    split at h
    · exact .inl h
    · rcases List.mem_append.1 h with h | h
      · exact .inl h
      · simp at h; exact .inr h
theorem nmL_of_fit : ∀ (l : Lev), fitP l.toLvl → nmL l
  | .zero, _, p, h => h.elim
  | .succ a, hf, p, h => nmL_of_fit a hf.2.2.2.1 p h
  | .max a b, hf, p, h => (show a.has p ∨ b.has p from h).elim (fun h => nmL_of_fit a hf.2.2.2.1 p h) (fun h => nmL_of_fit b hf.2.2.2.2.1 p h)
  | .imax a b, hf, p, h => (show a.has p ∨ b.has p from h).elim (fun h => nmL_of_fit a hf.2.2.2.1 p h) (fun h => nmL_of_fit b hf.2.2.2.2.1 p h)
  | .param s, hf, p, h => by
    have e : p = s := h
    rw [e]; exact hf.2.2.1 rfl
end Go.Vd
namespace Go.Vd
open Go Go.RowKit
theorem toLvl_inj : ∀ {a b : Lev}, a.toLvl = b.toLvl → a = b := by
  intro a
  induction a with
  | zero => intro b h; cases b <;> simp [Lev.toLvl] at h ⊢
  | succ a ih => intro b h; cases b <;> simp [Lev.toLvl] at h ⊢; exact ih h
  | max a c ih1 ih2 => intro b h; cases b <;> simp [Lev.toLvl] at h ⊢; exact ⟨ih1 h.1, ih2 h.2⟩
  | imax a c ih1 ih2 => intro b h; cases b <;> simp [Lev.toLvl] at h ⊢; exact ⟨ih1 h.1, ih2 h.2⟩
  | param s => intro b h; cases b <;> simp [Lev.toLvl] at h ⊢; exact h
/-- levels that are worth the same -/
noncomputable def semL (x y : Lvl) : Bool := @decide (∃ a b : Lev, x = a.toLvl ∧ y = b.toLvl ∧ semB a b = true ∧ semB b a = true) (Classical.propDecidable _)
theorem semL_of (a b : Lev) : semL a.toLvl b.toLvl = (semB a b && semB b a) := by
  rw [Bool.eq_iff_iff, Bool.and_eq_true]
  unfold semL
  rw [@decide_eq_true_iff _ (Classical.propDecidable _)]
  constructor
  · rintro ⟨a', b', h1, h2, h3⟩
    rw [toLvl_inj h1, toLvl_inj h2]; exact h3
  · intro h; exact ⟨a, b, rfl, rfl, h⟩
/-- written alike, or worth the same -/
noncomputable def eqLv (x y : Lvl) : Bool := x.same y || semL x y
/-! lists held against each other -/
def allB {α : Type} (E : α → α → Bool) : List α → List α → Bool
  | [], [] => true
  | x :: r, y :: s => E x y && allB E r s
  | _, _ => false
theorem allB_len {α : Type} {E : α → α → Bool} : ∀ {a b : List α}, allB E a b = true → a.length = b.length
  | [], [], _ => rfl
  | l :: r, l2 :: r2, h => by simp [allB] at h; simp [allB_len h.2]
  | [], _ :: _, h => by simp [allB] at h
  | _ :: _, [], h => by simp [allB] at h
theorem allB_ne {α : Type} {E : α → α → Bool} {a b : List α} (h : ¬ a.length = b.length) : allB E a b = false := by
  cases hs : allB E a b with
  | false => rfl
  | true => exact absurd (allB_len hs) h
theorem allB_app {α : Type} {E : α → α → Bool} : ∀ {a b : List α} {x y : α}, a.length = b.length → allB E (a ++ [x]) (b ++ [y]) = (allB E a b && E x y)
  | [], [], x, y, _ => by simp [allB]
  | l :: r, l2 :: r2, x, y, h => by simp [allB, allB_app (a := r) (b := r2) (by simpa using h), Bool.and_assoc]
  | [], _ :: _, _, _, h => by simp at h
  | _ :: _, [], _, _, h => by simp at h
theorem allB_take {α : Type} {E : α → α → Bool} {a b : List α} {i : Nat} {x y : α} (hx : a[i]? = some x) (hy : b[i]? = some y) : allB E (a.take (i + 1)) (b.take (i + 1)) = (allB E (a.take i) (b.take i) && E x y) := by
  have h1 := (List.getElem?_eq_some_iff.1 hx).1
  have h2 := (List.getElem?_eq_some_iff.1 hy).1
  rw [List.take_add_one, List.take_add_one, hx, hy]
  exact allB_app (by simp; omega)
theorem allB_false {α : Type} {E : α → α → Bool} : ∀ {a b : List α} {i : Nat} {x y : α}, a[i]? = some x → b[i]? = some y → E x y = false → allB E a b = false
  | [], _, i, _, _, h, _, _ => by simp at h
  | _ :: _, [], i, _, _, _, h, _ => by simp at h
  | l :: r, l2 :: r2, 0, x, y, h1, h2, h3 => by simp at h1 h2; subst h1 h2; simp [allB, h3]
  | l :: r, l2 :: r2, i + 1, x, y, h1, h2, h3 => by simp [allB]; intro _; exact allB_false (i := i) (by simpa using h1) (by simpa using h2) h3
theorem allB_sameL : ∀ (a b : List Lvl), allB Lvl.same a b = sameL a b
  | [], [] => by simp [allB, sameL]
  | [], _ :: _ => by simp [allB, sameL]
  | _ :: _, [] => by simp [allB, sameL]
  | x :: r, y :: s => by simp [allB, sameL, allB_sameL r s]
mutual
/-- terms alike, their levels as E holds them -/
def eqT (E : Lvl → Lvl → Bool) : Trm → Trm → Bool
  | .mk k n s ls a, .mk k2 n2 s2 ls2 a2 => decide (k = k2) && decide (n = n2) && decide (s = s2) && allB E ls ls2 && eqTs E a a2
def eqTs (E : Lvl → Lvl → Bool) : List Trm → List Trm → Bool
  | [], [] => true
  | l :: r, l2 :: r2 => eqT E l l2 && eqTs E r r2
  | _, _ => false
end
theorem eqTs_all (E : Lvl → Lvl → Bool) : ∀ a b : List Trm, eqTs E a b = allB (eqT E) a b
  | [], [] => by simp [allB, eqTs]
  | [], _ :: _ => by simp [allB, eqTs]
  | _ :: _, [] => by simp [allB, eqTs]
  | x :: r, y :: s => by simp [allB, eqTs, eqTs_all E r s]
theorem eqT_mk (E : Lvl → Lvl → Bool) (k n : Int) (s : ByteArray) (ls : List Lvl) (a : List Trm) (k2 n2 : Int) (s2 : ByteArray) (ls2 : List Lvl) (a2 : List Trm) : eqT E (.mk k n s ls a) (.mk k2 n2 s2 ls2 a2) = (decide (k = k2) && decide (n = n2) && decide (s = s2) && allB E ls ls2 && allB (eqT E) a a2) := by rw [eqT, eqTs_all]
mutual
/-- the parameters of a term -/
def tpar : Trm → List ByteArray → List ByteArray
  | .mk _ _ _ ls args, ah => tpars args (paramsL ls ah)
def tpars : List Trm → List ByteArray → List ByteArray
  | [], ah => ah
  | t :: r, ah => tpars r (tpar t ah)
end
mutual
theorem tpar_len : ∀ (t : Trm) (ah : List ByteArray), (tpar t ah).length ≤ ah.length + t.size
  | .mk k n s ls args, ah => by
    have h1 := tpars_len args (paramsL ls ah)
    have h2 := paramsL_len ls ah
    simp only [tpar, Trm.size]; omega
theorem tpars_len : ∀ (l : List Trm) (ah : List ByteArray), (tpars l ah).length ≤ ah.length + sizesT l
  | [], ah => by simp [tpars]
  | t :: r, ah => by
    have h1 := tpar_len t ah
    have h2 := tpars_len r (tpar t ah)
    simp only [tpars, sizesT]; omega
end
theorem tpars_app (l m : List Trm) (ah : List ByteArray) : tpars (l ++ m) ah = tpars m (tpars l ah) := by
  induction l generalizing ah with
  | nil => rfl
  | cons a r ih => simp [tpars, ih]
theorem tpars_take {l : List Trm} {i : Nat} {a : Trm} (h : l[i]? = some a) (ah : List ByteArray) : tpars (l.take (i + 1)) ah = tpar a (tpars (l.take i) ah) := by
  rw [List.take_add_one, h]; simp [tpars_app, tpars]
theorem sizesT_takeX {l : List Trm} {i : Nat} {a : Trm} (h : l[i]? = some a) : sizesT (l.take (i + 1)) = sizesT (l.take i) + a.size := by
  rw [List.take_add_one, h]
  have : ∀ (l m : List Trm), sizesT (l ++ m) = sizesT l + sizesT m := fun l m => by
    induction l with
    | nil => simp [sizesT]
    | cons a r ih => simp [sizesT, ih]; omega
  simp [this, sizesT]
theorem sizesT_takeX_le (l : List Trm) (i : Nat) : sizesT (l.take i) ≤ sizesT l := by
  induction l generalizing i with
  | nil => simp [sizesT]
  | cons a r ih =>
    cases i with
    | zero => simp [sizesT]
    | succ i => have := ih i; simp only [List.take_succ_cons, sizesT]; omega
mutual
/-- P of each level of a term -/
def allL (P : Lvl → Prop) : Trm → Prop
  | .mk _ _ _ ls args => (∀ l ∈ ls, P l) ∧ allLs P args
def allLs (P : Lvl → Prop) : List Trm → Prop
  | [] => True
  | t :: r => allL P t ∧ allLs P r
end
theorem allLs_get {P : Lvl → Prop} : ∀ {ls : List Trm} {t : Trm}, allLs P ls → t ∈ ls → allL P t
  | [], t, _, h => by cases h
  | a :: r, t, ho, h => by
    rcases List.mem_cons.1 h with rfl | h
    · exact ho.1
    · exact allLs_get ho.2 h
/-- all parameters of a level stand in a list -/
def inL (L : List ByteArray) (l : Lvl) : Prop := ∀ x : Lev, l = x.toLvl → ∀ p, x.has p → p ∈ L
def okV (l : Lvl) : Prop := ∃ x : Lev, l = x.toLvl
theorem par_mono : ∀ {ls : List Lvl} {ah : List ByteArray} {p : ByteArray}, (∀ l ∈ ls, okV l) → p ∈ ah → p ∈ paramsL ls ah
  | [], _, _, _, h => by simpa [paramsL] using h
  | l :: r, ah, p, ho, h => by
    obtain ⟨x, rfl⟩ := ho l List.mem_cons_self
    rw [paramsL, x.params_toLvl]
    exact par_mono (fun l hl => ho l (List.mem_cons_of_mem _ hl)) (x.params_mono h)
theorem par_has : ∀ {ls : List Lvl} {ah : List ByteArray} {x : Lev} {p : ByteArray}, (∀ l ∈ ls, okV l) → x.toLvl ∈ ls → x.has p → p ∈ paramsL ls ah
  | [], _, _, _, _, h, _ => by cases h
  | l :: r, ah, x, p, ho, h, hp => by
    have ho' := fun l hl => ho l (List.mem_cons_of_mem _ hl)
    rw [paramsL]
    rcases List.mem_cons.1 h with e | h
    · rw [← e, x.params_toLvl]; exact par_mono ho' (x.has_params hp)
    · exact par_has ho' h hp
mutual
theorem tpar_mono : ∀ {t : Trm} {ah : List ByteArray} {p : ByteArray}, allL okV t → p ∈ ah → p ∈ tpar t ah
  | .mk k n s ls args, ah, p, ho, h => by rw [tpar]; exact tpars_mono ho.2 (par_mono ho.1 h)
theorem tpars_mono : ∀ {l : List Trm} {ah : List ByteArray} {p : ByteArray}, allLs okV l → p ∈ ah → p ∈ tpars l ah
  | [], ah, p, _, h => by rw [tpars]; exact h
  | t :: r, ah, p, ho, h => by rw [tpars]; exact tpars_mono ho.2 (tpar_mono ho.1 h)
end
mutual
theorem inL_mono {L M : List ByteArray} (h : ∀ p ∈ L, p ∈ M) : ∀ {t : Trm}, allL (inL L) t → allL (inL M) t
  | .mk k n s ls args, ho => ⟨fun l hl x e p hp => h p (ho.1 l hl x e p hp), inLs_mono h ho.2⟩
theorem inLs_mono {L M : List ByteArray} (h : ∀ p ∈ L, p ∈ M) : ∀ {l : List Trm}, allLs (inL L) l → allLs (inL M) l
  | [], _ => trivial
  | t :: r, ho => ⟨inL_mono h ho.1, inLs_mono h ho.2⟩
end
mutual
theorem tpar_in : ∀ {t : Trm} {ah : List ByteArray}, allL okV t → allL (inL (tpar t ah)) t
  | .mk k n s ls args, ah, ho => by
    rw [tpar]
    exact ⟨fun l hl x e p hp => tpars_mono ho.2 (par_has ho.1 (by rw [← e]; exact hl) hp), tpars_in ho.2⟩
theorem tpars_in : ∀ {l : List Trm} {ah : List ByteArray}, allLs okV l → allLs (inL (tpars l ah)) l
  | [], ah, _ => trivial
  | t :: r, ah, ho => by
    rw [tpars]
    exact ⟨inL_mono (fun p hp => tpars_mono ho.2 hp) (tpar_in ho.1), tpars_in ho.2⟩
end
mutual
theorem allL_imp {P Q : Lvl → Prop} (h : ∀ l, P l → Q l) : ∀ {t : Trm}, allL P t → allL Q t
  | .mk k n s ls args, ho => ⟨fun l hl => h l (ho.1 l hl), allLs_imp h ho.2⟩
theorem allLs_imp {P Q : Lvl → Prop} (h : ∀ l, P l → Q l) : ∀ {l : List Trm}, allLs P l → allLs Q l
  | [], _ => trivial
  | t :: r, ho => ⟨allL_imp h ho.1, allLs_imp h ho.2⟩
end
theorem ps_len {L : List ByteArray} (hn : L.length ≤ 6) {a b : Lev} (ha : inL L a.toLvl) (hb : inL L b.toLvl) : (a.ps b).length ≤ 6 := by
  refine Nat.le_trans (nodup_len (b := L) ?_ fun x hx => ?_) hn
  · exact b.params_nodup (a.params_nodup List.nodup_nil)
  · rcases b.params_or hx with h | h
    · rcases a.params_or h with h | h
      · cases h
      · exact ha a rfl x h
    · exact hb b rfl x h
end Go.Vd
namespace Go.Proofs.YtneaancanfpdhaaGreatDoor
open Go Go.Vd Go.RowKit
attribute [local irreducible] Runs OpsR OpR FloatR AnyR AnyO
variable {gl : Nat → List D}
theorem join_spec (n gn up : Int) (f g : MapF) (L : List ByteArray) (hn : 0 ≤ n ∧ n ≤ 1125899906842624) (hgn : 0 ≤ gn ∧ gn ≤ 1125899906842624) (hu : 0 ≤ up ∧ up ≤ 1) (hg : ∀ p m, g p = some m → 0 ≤ m ∧ m ≤ 1125899906842624) (hL : ∀ p m, g p = some m → p ∈ L) :
    Tri Tryz.prog gl 160 [.cells [.d (.v (.int .i64 n)), .map 1] 185, .mapI f, .mapI g] [.blk 0 0, .agg [.d (.v (.int .i64 gn)), .map 2], .d (.v (.int .i64 up))] fun out ob' => out = .ret (.d (.tup [])) ∧ ob' = [.cells [.d (.v (.int .i64 (max n (gn + up)))), .map 1] 185, .mapI (joinM f g up), .mapI g] := by
  refine triS_of_runs Tryz.func160 rfl Tryz.ntmps160 (rs := []) rfl rfl rfl 3 rfl ?_
  refine sr ?_; refine oc (T := fun _ => False) (bx ti185 ?_ (hl := by simp only [List.length_cons, List.length_nil, Nat.reduceAdd]; rfl)); refine nx ?_; refine runs_seq ?_; refine a_start ?_ (hm := by exact mixed)
  refine A1 0 rfl (mv ⟨_, rfl, ?_⟩); refine A1 1 rfl (mv ⟨_, rfl, ?_⟩); refine A1 2 rfl (ncb ⟨_, rfl, ?_⟩); refine A1 3 rfl (fdb ti185 ⟨_, rfl, ?_⟩); refine A1 4 rfl (ldb ti3 ⟨_, rfl, ?_⟩); refine A1 5 rfl (fdb ti185 ⟨_, rfl, ?_⟩)
  refine A1 6 rfl (ldb ti3 ⟨_, rfl, ?_⟩); refine A1 7 rfl (mv ⟨_, rfl, ?_⟩); refine A1 8 rfl (iad ⟨_, rfl, ?_⟩); refine A1 9 rfl (f_max ⟨_, rfl, ?_⟩); refine A1 10 rfl (ncb ⟨_, rfl, ?_⟩); refine A1 11 rfl (fdb ti185 ⟨_, rfl, ?_⟩)
  refine A2 12 rfl (sto ti3 ?_); refine a_end ?_; refine seq_normal ?_; refine kp [4, 0, 2] ?_; refine sr ?_; refine o1 (fdb ti185 ?_); refine o1 (ldb ti128 ?_)
  refine oc (T := fun _ => False) (op_range mt128 rfl rfl rfl rfl rfl (by simp only [List.length_cons, List.length_nil, Nat.reduceAdd]; rfl) rfl ?_); refine nx ?_; refine runs_block ?_; refine kp [24, 0, 2] ?_
  apply runs_loop_o (ι := List (ByteArray × Int)) (fun dn => []) (fun dn => [.cells [.d (.v (.int .i64 (max n (gn + up)))), .map 1] 185, .mapI (joinL f up dn), .mapI g, .cells [.d (.v (.int .i64 gn)), .map 2] 185, .itI 2 g dn none]) [24, 0, 2] (fun dn => (dn.map Prod.fst).Nodup ∧ ∀ p ∈ dn, g p.1 = some p.2) (fun dn => L.length - dn.length) ([]) ([0, 1, 2, 3, 4])
  case hk => exact rfl
  case hI =>
    exact ⟨by simp, by simp⟩
  case hm =>
    refine mei ?_ (sly (sly (sly slz))) (by repeat (first | exact trivial | refine And.intro rfl ?_))
    repeat (first | exact boz | refine boc ?_ | refine bom ?_ | refine boi ?_)
  case h =>
    rintro dn hinv
    try dsimp only at hinv
    refine kp [24, 0, 2] ?_; refine sr ?_; refine oc (op_next rfl rfl rfl rfl rfl rfl (fun hall => ?_) (fun ks kv hkv hnew => ⟨_, rfl, ?_⟩))
    · refine o1 (ex2 ?_)
      refine nx ?_; refine runs_seq ?_; refine cd (fun h3 => ?_) (fun h3 => ?_)
      · simp only [nrm, Int.reduceEq, Int.reduceNe, Int.reduceLT, Int.reduceLE] at h3
      (try simp only [nrm, Int.reduceEq, Int.reduceNe, Int.reduceLT, Int.reduceLE] at h3); refine runs_exit ?_; refine seq_exit ?_; refine seq_exit ?_; refine inb_exit ?_; refine fin_normal ?_
      refine fin_od (l := []) rfl rfl ([0, 1, 2]) ([.cells [.d (.v (.int .i64 (max n (gn + up)))), .map 1] 185, .mapI (joinL f up dn), .mapI g]) rfl rfl rfl ?_ ?_
      · repeat (first | exact boz | refine boc ?_ | refine bom ?_)
      · exact ⟨rfl, by rw [joinL_all hinv.1 hinv.2 hall]⟩
    have hkb := hg ks kv hkv
    refine o1 (ex2 ?_); refine nx ?_; refine runs_seq ?_; refine cdf (fun h3 => ?_) (fun h3 => ?_)
    · simp only [nrm, Int.reduceEq, Int.reduceNe, Int.reduceLT, Int.reduceLE] at h3
    (try simp only [nrm, Int.reduceEq, Int.reduceNe, Int.reduceLT, Int.reduceLE] at h3); refine runs_skip ?_; refine seq_normal ?_; refine runs_block ?_; refine sr ?_; refine oc (T := fun _ => False) (op_entry rfl rfl rfl rfl rfl ?_)
    refine o1 (ex2 ?_); refine o1 (ex2 ?_); refine o1 (asg ?_); refine o1 (asg ?_); refine nx ?_; refine kp [7, 6, 24, 0, 2] ?_; refine sr ?_; refine o1 (mv ?_); refine o1 (ncb ?_); refine o1 (fdb ti185 ?_); refine o1 (ldb ti128 ?_)
    refine o1 (mv ?_); refine oc (op_lookup2 mt128 rfl rfl rfl rfl rfl rfl ?_); refine o1 (mv ?_); refine o1 (ex2 ?_); refine o1 (ex2 ?_); refine o1 (asg ?_); refine o1 (asg ?_); refine nx ?_; refine kp [9, 8, 7, 6, 24, 0, 2] ?_; refine sr ?_
    refine o1 (mv ?_); refine o1 (f_not ?_); refine o1 (mv ?_)
    apply ops_or (yt := 46) (d := 41) 5 rfl rfl rfl (.none rfl) rfl rfl
    case h1 =>
      intro hb4 hK
      have hc := hb4; (try simp only [nrm, Int.reduceEq, Int.reduceNe, Int.reduceLT, Int.reduceLE] at hc)
      refine gye ?_ (hbw := by exact hb4); refine o1 (mv ?_); refine gye ?_ (hbw := by exact hb4); refine o1 (mv ?_); refine gye ?_ (hbw := by exact hb4); refine o1 (iad ?_); refine gye ?_ (hbw := by exact hb4); refine o1 (mv ?_)
      refine gye ?_ (hbw := by exact hb4); refine o1 (igt ?_); exact hK [_, _, _, _, _] rfl rfl
    case h2 =>
      intro hb4 hK; refine gno ?_ (hbw := by exact hb4); refine gno ?_ (hbw := by exact hb4); refine gno ?_ (hbw := by exact hb4); refine gno ?_ (hbw := by exact hb4); refine gno ?_ (hbw := by exact hb4); exact hK [_, _, _, _, _] rfl
    refine nx ?_; refine cdf (fun h6 => ?_) (fun h6 => ?_)
    · (try simp only [nrm, Int.reduceEq, Int.reduceNe, Int.reduceLT, Int.reduceLE] at h6)
      refine runs_skip ?_; refine inb_normal ?_; refine seq_back ?_
      first | rw [putM_yes (f := joinL f up dn) h6] | rw [putM_no (f := joinL f up dn) h6.1 h6.2]
      refine back_c ((ks, kv) :: dn) rfl ?_ ([0, 1, 2, 3, 4]) ?_
      · have h8 := joinL_step hinv.1 hinv.2 hkv hnew
        have h9 := dn_len h8.1 h8.2 hL
        simp only [List.length_cons] at h9
        exact ⟨h8, by simp only [List.length_cons]; omega⟩
      · refine mei ?_ (sly (sly (sly slz))) (by repeat (first | exact trivial | refine And.intro rfl ?_))
        repeat (first | exact boz | refine boc ?_ | refine bom ?_ | refine boi ?_)
    (try simp only [nrm, Int.reduceEq, Int.reduceNe, Int.reduceLT, Int.reduceLE] at h6); refine kp [7, 6, 24, 0, 2] ?_; refine runs_region ?_; refine o1 (mv ?_); refine o1 (ncb ?_); refine o1 (fdb ti185 ?_); refine o1 (ldb ti128 ?_)
    refine o1 (mv ?_); refine o1 (mv ?_); refine o1 (mv ?_); refine o1 (iad ?_); refine oc (op_mapupd mt128 rfl rfl rfl rfl rfl rfl rfl rfl ?_); refine ops_nil ?_; refine inb_normal ?_; refine seq_back ?_
    first | rw [putM_yes (f := joinL f up dn) h6] | rw [putM_no (f := joinL f up dn) h6.1 h6.2]
    refine back_c ((ks, kv) :: dn) rfl ?_ ([0, 1, 2, 3, 4]) ?_
    · have h8 := joinL_step hinv.1 hinv.2 hkv hnew
      have h9 := dn_len h8.1 h8.2 hL
      simp only [List.length_cons] at h9
      exact ⟨h8, by simp only [List.length_cons]; omega⟩
    · refine mei ?_ (sly (sly (sly slz))) (by repeat (first | exact trivial | refine And.intro rfl ?_))
      repeat (first | exact boz | refine boc ?_ | refine bom ?_ | refine boi ?_)
theorem fleq_spec (n m : Int) (f g : MapF) (L : List ByteArray) (hL : ∀ p x, f p = some x → p ∈ L) :
    Tri Tryz.prog gl 151 [.mapI f, .mapI g] [.agg [.d (.v (.int .i64 n)), .map 0], .agg [.d (.v (.int .i64 m)), .map 1]] fun out ob' => ∃ b, out = .ret (.d (.v (.bool b))) ∧ ob' = [.mapI f, .mapI g] ∧ (b = true ↔ FLe n f m g) := by
  refine triS_of_runs Tryz.func151 rfl Tryz.ntmps151 (rs := [.tmp 4]) rfl rfl rfl 2 rfl ?_
  refine sr ?_; refine oc (T := fun _ => False) (bx ti185 ?_ (hl := by simp only [List.length_cons, List.length_nil, Nat.reduceAdd]; rfl))
  refine oc (T := fun _ => False) (bx ti185 ?_ (hl := by simp only [List.length_cons, List.length_nil, Nat.reduceAdd]; rfl)); refine o1 (asg ?_); refine nx ?_; refine runs_seq ?_; refine sr ?_; refine o1 (fdb ti185 ?_)
  refine o1 (ldb ti128 ?_); refine oc (T := fun _ => False) (op_range mt128 rfl rfl rfl rfl rfl (by simp only [List.length_cons, List.length_nil, Nat.reduceAdd]; rfl) rfl ?_); refine nx ?_; refine runs_block ?_; refine kp [11, 3, 2] ?_
  apply runs_loop_o (ι := List (ByteArray × Int)) (fun dn => []) (fun dn => [.mapI f, .mapI g, .cells [.d (.v (.int .i64 n)), .map 0] 185, .cells [.d (.v (.int .i64 m)), .map 1] 185, .itI 0 f dn none]) [11, 3, 2] (fun dn => ((dn.map Prod.fst).Nodup ∧ ∀ p ∈ dn, f p.1 = some p.2) ∧ ∀ p ∈ dn, ∃ y, g p.1 = some y ∧ p.2 ≤ y) (fun dn => L.length - dn.length) ([]) ([0, 1, 2, 3, 4])
  case hk => exact rfl
  case hI =>
    exact ⟨⟨by simp, by simp⟩, by simp⟩
  case hm =>
    refine mei ?_ (sly (sly (sly slz))) (by repeat (first | exact trivial | refine And.intro rfl ?_))
    repeat (first | exact boz | refine boc ?_ | refine bom ?_ | refine boi ?_)
  case h =>
    rintro dn hinv
    try dsimp only at hinv
    refine kp [11, 3, 2] ?_; refine sr ?_; refine oc (op_next rfl rfl rfl rfl rfl rfl (fun hall => ?_) (fun ks kv hkv hnew => ⟨_, rfl, ?_⟩))
    · refine o1 (ex2 ?_)
      refine nx ?_; refine runs_seq ?_; refine cd (fun h2 => ?_) (fun h2 => ?_)
      · simp only [nrm, Int.reduceEq, Int.reduceNe, Int.reduceLT, Int.reduceLE] at h2
      (try simp only [nrm, Int.reduceEq, Int.reduceNe, Int.reduceLT, Int.reduceLE] at h2); refine runs_exit ?_; refine seq_exit ?_; refine seq_exit ?_; refine inb_exit ?_; refine seq_normal ?_; refine sr ?_; refine o1 (fdb ti185 ?_)
      refine o1 (ldb ti3 ?_); refine o1 (fdb ti185 ?_); refine o1 (ldb ti3 ?_); refine o1 (ile ?_); refine o1 (asg ?_); refine nx ?_; refine runs_ret ?_; refine fin_ret ?_
      refine fin_odl ⟨_, _, rfl, rfl, rfl⟩ rfl (.v (.bool (decide (n ≤ m)))) (by exact .refl _) ([0, 1]) ([.mapI f, .mapI g]) rfl rfl rfl ?_ ?_
      · repeat (first | exact boz | refine bom ?_)
      · refine ⟨_, rfl, rfl, ?_⟩
        rw [decide_eq_true_eq]
        exact ⟨fun e => ⟨fun p x hx => hinv.2 (p, x) (hall p x hx), e⟩, fun hF => hF.2⟩
    refine o1 (ex2 ?_); refine nx ?_; refine runs_seq ?_; refine cdf (fun h2 => ?_) (fun h2 => ?_)
    · simp only [nrm, Int.reduceEq, Int.reduceNe, Int.reduceLT, Int.reduceLE] at h2
    (try simp only [nrm, Int.reduceEq, Int.reduceNe, Int.reduceLT, Int.reduceLE] at h2); refine runs_skip ?_; refine seq_normal ?_; refine runs_block ?_; refine sr ?_; refine oc (T := fun _ => False) (op_entry rfl rfl rfl rfl rfl ?_)
    refine o1 (ex2 ?_); refine o1 (ex2 ?_); refine o1 (asg ?_); refine o1 (asg ?_); refine nx ?_; refine kp [6, 5, 11, 3, 2] ?_; refine sr ?_; refine o1 (fdb ti185 ?_); refine o1 (ldb ti128 ?_); refine o1 (mv ?_)
    refine oc (op_lookup2 mt128 rfl rfl rfl rfl rfl rfl ?_); refine o1 (mv ?_); refine o1 (ex2 ?_); refine o1 (ex2 ?_); refine o1 (asg ?_); refine o1 (asg ?_); refine nx ?_; refine kp [8, 7, 6, 11, 3, 2] ?_; refine sr ?_; refine o1 (mv ?_)
    refine o1 (f_not ?_); refine o1 (mv ?_)
    apply ops_or (yt := 29) (d := 26) 3 rfl rfl rfl (.none rfl) rfl rfl
    case h1 =>
      intro hb4 hK
      have hc := hb4; (try simp only [nrm, Int.reduceEq, Int.reduceNe, Int.reduceLT, Int.reduceLE] at hc)
      refine gye ?_ (hbw := by exact hb4); refine o1 (mv ?_); refine gye ?_ (hbw := by exact hb4); refine o1 (mv ?_); refine gye ?_ (hbw := by exact hb4); refine o1 (igt ?_); exact hK [_, _, _] rfl rfl
    case h2 =>
      intro hb4 hK; refine gno ?_ (hbw := by exact hb4); refine gno ?_ (hbw := by exact hb4); refine gno ?_ (hbw := by exact hb4); exact hK [_, _, _] rfl
    refine nx ?_; refine cd (fun h5 => ?_) (fun h5 => ?_)
    · (try simp only [nrm, Int.reduceEq, Int.reduceNe, Int.reduceLT, Int.reduceLE] at h5)
      refine kp [] ?_; refine sr ?_; refine o1 (asg ?_); refine nx ?_; refine runs_ret ?_; refine inb_ret ?_; refine seq_ret ?_; refine inb_ret ?_; refine seq_ret ?_; refine fin_ret ?_
      refine fin_odl ⟨_, _, rfl, rfl, rfl⟩ rfl (.v (.bool false)) (by exact .refl _) ([0, 1]) ([.mapI f, .mapI g]) rfl rfl rfl ?_ ?_
      · repeat (first | exact boz | refine bom ?_)
      · refine ⟨false, rfl, rfl, fun e => (by cases e), fun hF => ?_⟩
        obtain ⟨y, hy, hxy⟩ := hF.1 ks kv hkv
        rw [hy] at h5; simp at h5; omega
    (try simp only [nrm, Int.reduceEq, Int.reduceNe, Int.reduceLT, Int.reduceLE] at h5); refine runs_skip ?_; refine inb_normal ?_; refine seq_back ?_; refine back_c ((ks, kv) :: dn) rfl ?_ ([0, 1, 2, 3, 4]) ?_
    · have h8 := joinL_step hinv.1.1 hinv.1.2 hkv hnew
      have h9 := dn_len h8.1 h8.2 hL
      simp only [List.length_cons] at h9
      refine ⟨⟨h8, fun p hp => ?_⟩, by simp only [List.length_cons]; omega⟩
      rcases List.mem_cons.1 hp with rfl | hp
      · cases hgk : g ks with
        | none => rw [hgk] at h5; simp at h5
        | some y => rw [hgk] at h5; exact ⟨y, rfl, by simpa using h5⟩
      · exact hinv.2 p hp
    · refine mei ?_ (sly (sly (sly slz))) (by repeat (first | exact trivial | refine And.intro rfl ?_))
      repeat (first | exact boz | refine boc ?_ | refine bom ?_ | refine boi ?_)
end Go.Proofs.YtneaancanfpdhaaGreatDoor
namespace Go.Proofs.YtneaancanfpdhaaGreatDoor
open Go Go.Vd Go.RowKit
attribute [local irreducible] Runs OpsR OpR FloatR AnyR AnyO
variable {gl : Nat → List D}
def ShQ (z o : MapF) (l : Lev) (out : Out) (ob' : List Ob) : Prop :=
  ∃ n f q, out = .ret (.tup [.agg [.d (.v (.int .i64 n)), .map 2], .d (.v (.string q))]) ∧ ob' = [.mapI z, .mapI o, .mapI f] ∧ Shape l z o n f q
theorem shape_param_spec (z o : MapF) (hz : Ones z) (ho : Ones o) (s : ByteArray) :
    Tri Tryz.prog gl 150 [.mapI z, .mapI o] [.d (Lev.param s).toLvl.d, .map 0, .map 1] (ShQ z o (.param s)) := by
  have hzs : z s = none ∨ z s = some 1 := by
    cases h : z s with
    | none => exact .inl rfl
    | some m => rw [hz s m h]; exact .inr rfl
  unfold Lev.toLvl
  refine triS_of_runs Tryz.func150 rfl Tryz.ntmps150 (rs := [.cell 6 185, .tmp 7]) rfl rfl rfl 2 rfl ?_
  refine sr ?_; refine oc (T := fun _ => False) (bx ti45 ?_ (hl := by simp only [List.length_cons, List.length_nil, Nat.reduceAdd]; rfl))
  refine oc (T := fun _ => False) (alc ti185 ?_ (hl := by simp only [List.length_cons, List.length_nil, Nat.reduceAdd]; rfl)); refine o1 (asg ?_); refine nx ?_; refine sr ?_
  refine oc (T := fun _ => False) (op_mapmake rfl rfl rfl (by simp only [List.length_cons, List.length_nil, Nat.reduceAdd]; rfl) rfl ?_); refine o1 (bld ti185 ?_)
  refine oc (T := fun _ => False) (alc ti185 ?_ (hl := by simp only [List.length_cons, List.length_nil, Nat.reduceAdd]; rfl)); refine oc (sto ti185 ?_); refine nx ?_; refine runs_seq ?_; refine kp [8, 6, 3, 1, 2] ?_; refine sr ?_
  refine o1 (fdb ti45 ?_); refine o1 (ldb ti3 ?_); refine nx ?_; refine runs_block ?_; refine sr ?_; refine o1 (ieq ?_); refine o1 (asg ?_); refine nx ?_; refine cdf (fun h3 => ?_) (fun h3 => ?_)
  · simp only [nrm, Int.reduceEq, Int.reduceNe, Int.reduceLT, Int.reduceLE] at h3
  (try simp only [nrm, Int.reduceEq, Int.reduceNe, Int.reduceLT, Int.reduceLE] at h3); refine runs_seq ?_; refine kp [8, 6, 3, 1, 2] ?_; refine sr ?_; refine o1 (mv ?_); refine o1 (fdb ti45 ?_); refine o1 (ldb ti9 ?_)
  refine oc (op_lookup1 mt128 rfl rfl rfl rfl rfl rfl ?_); refine o1 (ieq ?_); refine nx ?_; refine cdf (fun h4 => ?_) (fun h4 => ?_)
  · (try simp only [nrm, Int.reduceEq, Int.reduceNe, Int.reduceLT, Int.reduceLE] at h4)
    refine runs_skip ?_; refine seq_normal ?_; refine kp [8, 6] ?_; refine sr ?_; refine o1 (ldb ti185 ?_); refine oc (sto ti185 ?_); refine o1 (asg ?_); refine nx ?_; refine runs_ret ?_; refine inb_ret ?_; refine seq_ret ?_; refine fin_ret ?_
    refine fin_o ⟨_, _, rfl, (from_cell rfl rfl ti185 rfl rfl rfl rfl), ⟨_, _, rfl, rfl, rfl⟩⟩ [0, 1, 4] (.tup [.agg [.d (.v (.int .i64 0)), .map 2], .d (.v (.string .empty))]) ([.mapI z, .mapI o, .mapI (fun _ => none)]) rfl rfl rfl ?_ rfl ?_ ?_
    · repeat (first | exact boz | refine bom ?_)
    · exact .refl _
    · refine ⟨_, _, _, rfl, rfl, shape_zeroed s ?_⟩
      intro h
      rw [h] at h4; simp at h4
  (try simp only [nrm, Int.reduceEq, Int.reduceNe, Int.reduceLT, Int.reduceLE] at h4); refine kp [8, 6, 3, 2] ?_; refine sr ?_; refine o1 (fdb ti185 ?_); refine o1 (ldb ti128 ?_); refine o1 (fdb ti45 ?_); refine o1 (ldb ti9 ?_)
  refine o1 (mv ?_); refine o1 (fdb ti45 ?_); refine o1 (ldb ti9 ?_); refine oc (op_lookup1 mt128 rfl rfl rfl rfl rfl rfl ?_); refine oc (op_mapupd mt128 rfl rfl rfl rfl rfl rfl rfl rfl ?_); refine nx ?_; refine kp [8, 6, 3, 2] ?_
  refine runs_region ?_; refine o1 (mv ?_); refine o1 (fdb ti45 ?_); refine o1 (ldb ti9 ?_); refine oc (op_lookup1 mt128 rfl rfl rfl rfl rfl rfl ?_); refine o1 (fdb ti185 ?_); refine oc (sto ti3 ?_); refine nx ?_; refine kp [8, 6] ?_
  refine sr ?_; refine o1 (ldb ti185 ?_); refine oc (sto ti185 ?_); refine o1 (asg ?_); refine nx ?_; refine runs_ret ?_; refine inb_ret ?_; refine seq_ret ?_; refine fin_ret ?_
  refine fin_o ⟨_, _, rfl, (from_cell rfl rfl ti185 rfl rfl rfl rfl), ⟨_, _, rfl, rfl, rfl⟩⟩ [0, 1, 4] (.tup [.agg [.d (.v (.int .i64 ((o s).getD 0))), .map 2], .d (.v (.string .empty))]) ([.mapI z, .mapI o, .mapI (updM (fun _ => none) s ((o s).getD 0))]) rfl rfl rfl ?_ rfl ?_ ?_
  · repeat (first | exact boz | refine bom ?_)
  · exact .refl _
  · refine ⟨_, _, _, rfl, rfl, shape_param hz ho s ?_⟩
    rcases hzs with h | h
    · exact h
    · rw [h] at h4; simp at h4
theorem shape_loop_spec (z o : MapF) (l : Lev) (k : Int) (ls : List Lev) (hl : l.toLvl = .mk k .empty (ls.map Lev.toLvl)) (h3 : ¬ k = 3) (h4 : ¬ k = 4) (hsz : ∀ a ∈ ls, a.size ≤ 1099511627776) (hlen : ls.length ≤ 2)
    (ih : ∀ a ∈ ls, Tri Tryz.prog gl 150 [.mapI z, .mapI o] [.d a.toLvl.d, .map 0, .map 1] (ShQ z o a))
    (hfin : ∀ n f, PSL (if k = 1 then 1 else 0) z o ls.reverse n f → Shape l z o n f .empty)
    (hearly : ∀ i n f q, PSL (if k = 1 then 1 else 0) z o (ls.take i).reverse n f → q ≠ .empty → (∃ a ∈ ls, a.has q) → z q = none → o q = none → Shape l z o n f q) :
    Tri Tryz.prog gl 150 [.mapI z, .mapI o] [.d l.toLvl.d, .map 0, .map 1] (ShQ z o l) := by
  rw [hl]
  have hll := lvls_len (ls.map Lev.toLvl)
  simp only [List.length_map] at hll
  have hup : (0 : Int) ≤ (if k = 1 then 1 else 0) ∧ (if k = 1 then (1 : Int) else 0) ≤ 1 := by split <;> omega
  refine triS_of_runs Tryz.func150 rfl Tryz.ntmps150 (rs := [.cell 6 185, .tmp 7]) rfl rfl rfl 2 rfl ?_
  refine sr ?_; refine oc (T := fun _ => False) (bx ti45 ?_ (hl := by simp only [List.length_cons, List.length_nil, Nat.reduceAdd]; rfl))
  refine oc (T := fun _ => False) (alc ti185 ?_ (hl := by simp only [List.length_cons, List.length_nil, Nat.reduceAdd]; rfl)); refine o1 (asg ?_); refine nx ?_; refine sr ?_
  refine oc (T := fun _ => False) (op_mapmake rfl rfl rfl (by simp only [List.length_cons, List.length_nil, Nat.reduceAdd]; rfl) rfl ?_); refine o1 (bld ti185 ?_)
  refine oc (T := fun _ => False) (alc ti185 ?_ (hl := by simp only [List.length_cons, List.length_nil, Nat.reduceAdd]; rfl)); refine oc (sto ti185 ?_); refine nx ?_; refine runs_seq ?_; refine kp [8, 6, 3, 1, 2] ?_; refine sr ?_
  refine o1 (fdb ti45 ?_); refine o1 (ldb ti3 ?_); refine nx ?_; refine runs_block ?_; refine sr ?_; refine o1 (ieq ?_); refine o1 (asg ?_); refine nx ?_; refine cd (fun h3 => ?_) (fun h3 => ?_)
  · (try simp only [nrm, Int.reduceEq, Int.reduceNe, Int.reduceLT, Int.reduceLE] at h3); contradiction
  (try simp only [nrm, Int.reduceEq, Int.reduceNe, Int.reduceLT, Int.reduceLE] at h3); refine sr ?_; refine o1 (ieq ?_); refine o1 (asg ?_); refine nx ?_; refine cd (fun h8 => ?_) (fun h8 => ?_)
  · (try simp only [nrm, Int.reduceEq, Int.reduceNe, Int.reduceLT, Int.reduceLE] at h8); contradiction
  (try simp only [nrm, Int.reduceEq, Int.reduceNe, Int.reduceLT, Int.reduceLE] at h8); refine runs_skip ?_; refine inb_normal ?_; refine seq_normal ?_; refine runs_seq ?_; refine kp [8, 6, 3, 1, 2] ?_; refine sr ?_; refine o1 (fdb ti45 ?_)
  refine o1 (ldb ti28 ?_); refine o1 (le1 us28 ?_); refine o1 (mv ?_); refine nx ?_; refine runs_block ?_; refine kp [91, 90, 89, 8, 6, 3, 1, 2] ?_
  apply runs_loop_o (ι := Nat × Int × MapF) (fun ⟨i, n, f⟩ => [(91, int i)]) (fun ⟨i, n, f⟩ => [.mapI z, .mapI o, .cells [.d (.v (.int .i64 k)), .d (.v (.string .empty)), .d (.sl 3 (lvls (ls.map Lev.toLvl)))] 45, .cells [.d (.v (.int .i64 0)), .d (.v (.map none))] 185, .mapI f, .cells [.d (.v (.int .i64 n)), .map 4] 185]) [90, 89, 8, 6, 3, 1, 2] (fun ⟨i, n, f⟩ => i ≤ ls.length ∧ PSL (if k = 1 then 1 else 0) z o (ls.take i).reverse n f) (fun ⟨i, n, f⟩ => ls.length - i) (⟨0, 0, fun _ => none⟩) ([0, 1, 2, 3, 4, 5])
  case hk => exact rfl
  case hI =>
    exact ⟨Nat.zero_le _, rfl, rfl⟩
  case hm =>
    refine mo ?_ (sly (sly (sly (sly (sly (sly (sly (sly slz))))))))
    repeat (first | exact boz | refine boc ?_ | refine bom ?_)
  case h =>
    rintro ⟨i, n, f⟩ hinv
    try dsimp only at hinv
    refine kp [91, 90, 89, 8, 6, 3, 1, 2] ?_; refine sr ?_; refine o1 (ilt ?_); refine nx ?_; refine runs_seq ?_; refine cdf (fun h23 => ?_) (fun h23 => ?_)
    · (try simp only [nrm, Int.reduceEq, Int.reduceNe, Int.reduceLT, Int.reduceLE] at h23)
      refine runs_exit ?_; refine seq_exit ?_; refine seq_exit ?_; refine inb_exit ?_; refine seq_normal ?_; refine kp [8, 6] ?_; refine sr ?_; refine o1 (ldb ti185 ?_); refine oc (sto ti185 ?_); refine o1 (asg ?_); refine nx ?_
      refine runs_ret ?_; refine fin_ret ?_
      refine fin_o ⟨_, _, rfl, (from_cell rfl rfl ti185 rfl rfl rfl rfl), ⟨_, _, rfl, rfl, rfl⟩⟩ [0, 1, 4] (.tup [.agg [.d (.v (.int .i64 n)), .map 2], .d (.v (.string .empty))]) ([.mapI z, .mapI o, .mapI f]) rfl rfl rfl ?_ rfl ?_ ?_
      · repeat (first | exact boz | refine bom ?_)
      · exact .refl _
      · exact ⟨_, _, _, rfl, rfl, hfin n f (by rw [← List.take_of_length_le (l := ls) (i := i) (by omega)]; exact hinv.2)⟩
    (try simp only [nrm, Int.reduceEq, Int.reduceNe, Int.reduceLT, Int.reduceLE] at h23); refine runs_skip ?_; refine seq_normal ?_; refine runs_seq ?_; refine runs_block ?_; refine runs_seq ?_
    have hin : i < ls.length := by omega
    obtain ⟨k', s', a', hX⟩ := Lvl.case ls[i].toLvl
    have hget : (ls.map Lev.toLvl)[i]? = some (.mk k' s' a') := by simp [hin, hX]
    have ihi := ih ls[i] (List.getElem_mem hin)
    have hsi := hsz ls[i] (List.getElem_mem hin)
    have hPb := hinv.2.bound (M := 1099511627777) hup.1 (by omega) (fun a ha => by
      have := hsz a (List.mem_of_mem_take (List.mem_reverse.1 ha)); omega)
    rw [hX] at ihi
    refine runs_region ?_; refine o1 (ixs us28 te28 ?_ (he := by exact (lvl_at hget))); refine o1 (ldc ti45 ?_); refine oc (T := fun _ => False) (alc ti45 ?_ (hl := by simp only [List.length_cons, List.length_nil, Nat.reduceAdd]; rfl))
    refine oc (sto ti45 ?_); refine nx ?_; refine sr ?_; refine o1 (ldb ti45 ?_); refine o1 (mv ?_); refine o1 (mv ?_)
    refine oc (op_callo ca150 rfl rfl rfl rfl (ihi) [0, 1] (bom (bom .nil)) rfl rfl rfl rfl (fid (fir (fir .nil))) (fun s ob' hq => ?_) (fun s ob' hq => ?_))
    rotate_left
    · obtain ⟨_, _, _, hq1, _⟩ := hq; cases hq1
    obtain ⟨na, fa, q, hq1, rfl, hsh⟩ := hq; cases hq1; refine ⟨_, _, _, _, _, rfl, rfl, rfl, rfl, rfl, ?_⟩; refine o1 (mv ?_); refine o1 (ex1 ?_); refine o1 (ex1 ?_)
    refine oc (T := fun _ => False) (alc ti185 ?_ (hl := by simp only [List.length_cons, List.length_nil, Nat.reduceAdd]; rfl)); refine oc (sto ti185 ?_); refine o1 (asg ?_); refine nx ?_; refine runs_seq ?_
    refine kp [16, 15, 91, 90, 89, 8, 6, 3, 1, 2] ?_; refine sr ?_; refine o1 (mv ?_); refine o1 (sne ?_); refine nx ?_; refine cd (fun h26 => ?_) (fun h26 => ?_)
    · (try simp only [nrm, Int.reduceEq, Int.reduceNe, Int.reduceLT, Int.reduceLE] at h26)
      refine kp [16, 8, 6] ?_; refine sr ?_; refine o1 (ldb ti185 ?_); refine o1 (mv ?_); refine oc (sto ti185 ?_); refine o1 (asg ?_); refine nx ?_; refine runs_ret ?_; refine seq_ret ?_; refine inb_ret ?_; refine seq_ret ?_; refine seq_ret ?_
      refine inb_ret ?_; refine seq_ret ?_; refine fin_ret ?_
      refine fin_o ⟨_, _, rfl, (from_cell rfl rfl ti185 rfl rfl rfl rfl), ⟨_, _, rfl, rfl, rfl⟩⟩ [0, 1, 4] (.tup [.agg [.d (.v (.int .i64 n)), .map 2], .d (.v (.string q))]) ([.mapI z, .mapI o, .mapI f]) rfl rfl rfl ?_ rfl ?_ ?_
      · repeat (first | exact boz | refine bom ?_)
      · exact .refl _
      · exact ⟨_, _, _, rfl, rfl, hearly i n f q hinv.2 h26 ⟨ls[i], List.getElem_mem hin, (hsh.no h26).1⟩ (hsh.no h26).2.1 (hsh.no h26).2.2⟩
    (try simp only [nrm, Int.reduceEq, Int.reduceNe, Int.reduceLT, Int.reduceLE] at h26); refine runs_skip ?_; refine seq_normal ?_; refine runs_seq ?_
    replace h26 : q = .empty := h26
    subst h26
    have hnb := hsh.b.n0
    have hnb1 := hsh.b.n1
    refine runs_region ?_; refine o1 (asg ?_); refine nx ?_; refine runs_seq ?_; refine sr ?_; refine o1 (fdb ti45 ?_); refine o1 (ldb ti3 ?_); refine o1 (ieq ?_); refine nx ?_; refine kp [108, 17, 15, 91, 90, 89, 8, 6, 3, 1, 2] ?_
    apply runs_cut_c (ι := Unit) (fun _ => [(17, int (if k = 1 then 1 else 0))]) [15, 91, 90, 89, 8, 6, 3, 1, 2] (fun _ => True)
    case hk => exact rfl
    case h1 =>
      refine cdf (fun h29 => ?_) (fun h29 => ?_)
      · (try simp only [nrm, Int.reduceEq, Int.reduceNe, Int.reduceLT, Int.reduceLE] at h29)
        refine runs_skip ?_; refine seq_back ?_; refine back_i (()) rfl ?_ ?_
        · trivial
        · refine mo ?_ (slx rfl (by exact Fit.of_eq (by simp only [h29, if_true, if_false]; rfl)) (sly (sly (sly (sly (sly (sly (sly (sly (sly slz))))))))))
          repeat (first | exact boz | refine boc ?_ | refine bom ?_)
      (try simp only [nrm, Int.reduceEq, Int.reduceNe, Int.reduceLT, Int.reduceLE] at h29); refine runs_region ?_; refine o1 (asg ?_); refine ops_nil ?_; refine seq_back ?_; refine back_i (()) rfl ?_ ?_
      · trivial
      · refine mo ?_ (slx rfl (by exact Fit.of_eq (by simp only [h29, if_true, if_false]; rfl)) (sly (sly (sly (sly (sly (sly (sly (sly (sly slz))))))))))
        repeat (first | exact boz | refine boc ?_ | refine bom ?_)
    case h2 =>
      rintro _ hcut
      try dsimp only at hcut
      refine kp [17, 15, 91, 90, 89, 8, 6, 3, 1, 2] ?_; refine runs_region ?_; refine o1 (ldb ti185 ?_); refine o1 (mv ?_)
      refine oc (ck ca160 rfl rfl (join_spec n na (if k = 1 then 1 else 0) f fa (ls[i].params []) (by omega) (by omega) hup (fun p m e => by have := hsh.b.f0 p m e; omega) (fun p m e => ls[i].has_params (hsh.b.sup p m e))) [5, 4, 7] rfl (boc (bom (bom .nil))) (fir (fir (fir .nil))) ?_)
      refine ops_nil ?_; refine inb_normal ?_; refine seq_normal ?_; refine kp [91, 90, 89, 8, 6, 3, 1, 2] ?_; refine runs_region ?_; refine o1 (iad ?_); refine o1 (mv ?_); refine ops_nil ?_; refine seq_back ?_
      refine back_c (⟨i + 1, max n (na + if k = 1 then 1 else 0), joinM f fa (if k = 1 then 1 else 0)⟩) rfl ?_ ([0, 1, 2, 3, 4, 5]) ?_
      · refine ⟨⟨by omega, ?_⟩, by simp only; omega⟩
        rw [List.take_succ_eq_append_getElem hin, List.reverse_append]
        exact ⟨n, f, na, fa, hinv.2, hsh, rfl, rfl⟩
      · refine mo ?_ (sly (sly (sly (sly (sly (sly (sly (sly slz))))))))
        repeat (first | exact boz | refine boc ?_ | refine bom ?_)
theorem shape_imax_spec (z o : MapF) (ho : Ones o) (a b : Lev) (hnm : nmL (.imax a b)) (hsa : a.size ≤ 1099511627776) (hsb : b.size ≤ 1099511627776)
    (iha : Tri Tryz.prog gl 150 [.mapI z, .mapI o] [.d a.toLvl.d, .map 0, .map 1] (ShQ z o a))
    (ihb : Tri Tryz.prog gl 150 [.mapI z, .mapI o] [.d b.toLvl.d, .map 0, .map 1] (ShQ z o b)) :
    Tri Tryz.prog gl 150 [.mapI z, .mapI o] [.d (Lev.imax a b).toLvl.d, .map 0, .map 1] (ShQ z o (.imax a b)) := by
  obtain ⟨ka, sa, aa, hXa⟩ := Lvl.case a.toLvl
  obtain ⟨kb, sb, ab, hXb⟩ := Lvl.case b.toLvl
  rw [hXa] at iha
  rw [hXb] at ihb
  unfold Lev.toLvl
  rw [hXa, hXb]
  refine triS_of_runs Tryz.func150 rfl Tryz.ntmps150 (rs := [.cell 6 185, .tmp 7]) rfl rfl rfl 2 rfl ?_
  refine sr ?_; refine oc (T := fun _ => False) (bx ti45 ?_ (hl := by simp only [List.length_cons, List.length_nil, Nat.reduceAdd]; rfl))
  refine oc (T := fun _ => False) (alc ti185 ?_ (hl := by simp only [List.length_cons, List.length_nil, Nat.reduceAdd]; rfl)); refine o1 (asg ?_); refine nx ?_; refine sr ?_
  refine oc (T := fun _ => False) (op_mapmake rfl rfl rfl (by simp only [List.length_cons, List.length_nil, Nat.reduceAdd]; rfl) rfl ?_); refine o1 (bld ti185 ?_)
  refine oc (T := fun _ => False) (alc ti185 ?_ (hl := by simp only [List.length_cons, List.length_nil, Nat.reduceAdd]; rfl)); refine oc (sto ti185 ?_); refine nx ?_; refine runs_seq ?_; refine kp [8, 6, 3, 1, 2] ?_; refine sr ?_
  refine o1 (fdb ti45 ?_); refine o1 (ldb ti3 ?_); refine nx ?_; refine runs_block ?_; refine sr ?_; refine o1 (ieq ?_); refine o1 (asg ?_); refine nx ?_; refine cd (fun h3 => ?_) (fun h3 => ?_)
  · simp only [nrm, Int.reduceEq, Int.reduceNe, Int.reduceLT, Int.reduceLE] at h3
  (try simp only [nrm, Int.reduceEq, Int.reduceNe, Int.reduceLT, Int.reduceLE] at h3); refine sr ?_; refine o1 (ieq ?_); refine o1 (asg ?_); refine nx ?_; refine cdf (fun h8 => ?_) (fun h8 => ?_)
  · simp only [nrm, Int.reduceEq, Int.reduceNe, Int.reduceLT, Int.reduceLE] at h8
  (try simp only [nrm, Int.reduceEq, Int.reduceNe, Int.reduceLT, Int.reduceLE] at h8); refine kp [8, 6, 3, 1, 2] ?_; refine sr ?_; refine o1 (fdb ti45 ?_); refine o1 (ldb ti28 ?_)
  refine o1 (ixs us28 te28 ?_ (he := by exact (show (lvls [Lvl.mk ka sa aa, Lvl.mk kb sb ab])[((1 : Nat) : Int).toNat]? = _ from lvl_at rfl))); refine o1 (ldc ti45 ?_); refine o1 (mv ?_); refine o1 (mv ?_)
  refine oc (op_callo ca150 rfl rfl rfl rfl (ihb) [0, 1] (bom (bom .nil)) rfl rfl rfl rfl (fid (fir (fir .nil))) (fun s ob' hq => ?_) (fun s ob' hq => ?_))
  rotate_left
  · obtain ⟨_, _, _, hq1, _⟩ := hq; cases hq1
  obtain ⟨nb, fb, q, hq1, rfl, hsh⟩ := hq; cases hq1; refine ⟨_, _, _, _, _, rfl, rfl, rfl, rfl, rfl, ?_⟩; refine o1 (mv ?_); refine o1 (ex1 ?_); refine o1 (ex1 ?_)
  refine oc (T := fun _ => False) (alc ti185 ?_ (hl := by simp only [List.length_cons, List.length_nil, Nat.reduceAdd]; rfl)); refine oc (sto ti185 ?_); refine o1 (asg ?_); refine nx ?_; refine runs_seq ?_; refine kp [10, 9, 8, 6, 3, 1, 2] ?_
  refine sr ?_; refine o1 (mv ?_); refine o1 (sne ?_); refine nx ?_; refine cd (fun h10 => ?_) (fun h10 => ?_)
  · (try simp only [nrm, Int.reduceEq, Int.reduceNe, Int.reduceLT, Int.reduceLE] at h10)
    refine kp [10, 8, 6] ?_; refine sr ?_; refine o1 (ldb ti185 ?_); refine o1 (mv ?_); refine oc (sto ti185 ?_); refine o1 (asg ?_); refine nx ?_; refine runs_ret ?_; refine seq_ret ?_; refine inb_ret ?_; refine seq_ret ?_; refine fin_ret ?_
    refine fin_o ⟨_, _, rfl, (from_cell rfl rfl ti185 rfl rfl rfl rfl), ⟨_, _, rfl, rfl, rfl⟩⟩ [0, 1, 4] (.tup [.agg [.d (.v (.int .i64 0)), .map 2], .d (.v (.string q))]) ([.mapI z, .mapI o, .mapI (fun _ => none)]) rfl rfl rfl ?_ rfl ?_ ?_
    · repeat (first | exact boz | refine bom ?_)
    · exact .refl _
    · exact ⟨_, _, _, rfl, rfl, shape_imax_b hsh h10⟩
  (try simp only [nrm, Int.reduceEq, Int.reduceNe, Int.reduceLT, Int.reduceLE] at h10); refine runs_skip ?_; refine seq_normal ?_; refine runs_seq ?_; refine runs_seq ?_
  replace h10 : q = .empty := h10
  subst h10
  have hnb := hsh.b.n0
  have hnb1 := hsh.b.n1
  refine runs_region ?_; refine o1 (fdb ti185 ?_); refine o1 (ldb ti3 ?_); refine o1 (ieq ?_); refine nx ?_; refine cdf (fun h12 => ?_) (fun h12 => ?_)
  · (try simp only [nrm, Int.reduceEq, Int.reduceNe, Int.reduceLT, Int.reduceLE] at h12)
    refine runs_skip ?_; refine seq_normal ?_; refine kp [9, 8, 6, 3, 1, 2] ?_; refine sr ?_; refine o1 (ldb ti185 ?_)
    refine oc (ck ca160 rfl rfl (join_spec 0 nb 0 (fun _ => none) fb (b.params []) (by omega) (by omega) (by omega) (fun p m e => by have := hsh.b.f0 p m e; omega) (fun p m e => b.has_params (hsh.b.sup p m e))) [5, 4, 6] rfl (boc (bom (bom .nil))) (fir (fir (fir .nil))) ?_)
    refine nx ?_; refine sr ?_; refine o1 (fdb ti45 ?_); refine o1 (ldb ti28 ?_); refine o1 (ixs us28 te28 ?_ (he := by exact (show (lvls [Lvl.mk ka sa aa, Lvl.mk kb sb ab])[((0 : Nat) : Int).toNat]? = _ from lvl_at rfl)))
    refine o1 (ldc ti45 ?_); refine o1 (mv ?_); refine o1 (mv ?_); refine oc (op_callo ca150 rfl rfl rfl rfl (iha) [0, 1] (bom (bom .nil)) rfl rfl rfl rfl (fid (fir (fir .nil))) (fun s ob' hq => ?_) (fun s ob' hq => ?_))
    rotate_left
    · obtain ⟨_, _, _, hq1, _⟩ := hq; cases hq1
    obtain ⟨na, fa, q2, hq1, rfl, hsha⟩ := hq; cases hq1
    have hna := hsha.b.n0
    have hna1 := hsha.b.n1
    refine ⟨_, _, _, _, _, rfl, rfl, rfl, rfl, rfl, ?_⟩; refine o1 (mv ?_); refine o1 (ex1 ?_); refine o1 (ex1 ?_); refine oc (T := fun _ => False) (alc ti185 ?_ (hl := by simp only [List.length_cons, List.length_nil, Nat.reduceAdd]; rfl))
    refine oc (sto ti185 ?_); refine o1 (asg ?_); refine nx ?_; refine kp [10, 12, 8, 6] ?_; refine sr ?_; refine o1 (ldb ti185 ?_)
    refine oc (ck ca160 rfl rfl (join_spec (max 0 (nb + 0)) na 0 (joinM (fun _ => none) fb 0) fa (a.params []) (by omega) (by omega) (by omega) (fun p m e => by have := hsha.b.f0 p m e; omega) (fun p m e => a.has_params (hsha.b.sup p m e))) [5, 4, 8] rfl (boc (bom (bom .nil))) (fir (fir (fir .nil))) ?_)
    refine nx ?_; refine sr ?_; refine o1 (ldb ti185 ?_); refine o1 (mv ?_); refine oc (sto ti185 ?_); refine o1 (asg ?_); refine nx ?_; refine runs_ret ?_; refine inb_ret ?_; refine seq_ret ?_; refine fin_ret ?_
    refine fin_o ⟨_, _, rfl, (from_cell rfl rfl ti185 rfl rfl rfl rfl), ⟨_, _, rfl, rfl, rfl⟩⟩ [0, 1, 4] (.tup [.agg [.d (.v (.int .i64 (max (max 0 (nb + 0)) (na + 0)))), .map 2], .d (.v (.string q2))]) ([.mapI z, .mapI o, .mapI (joinM (joinM (fun _ => none) fb 0) fa 0)]) rfl rfl rfl ?_ rfl ?_ ?_
    · repeat (first | exact boz | refine bom ?_)
    · exact .refl _
    · exact ⟨_, _, _, rfl, rfl, shape_imax hsh h12 hsha⟩
  (try simp only [nrm, Int.reduceEq, Int.reduceNe, Int.reduceLT, Int.reduceLE] at h12); refine runs_seq ?_; refine kp [9, 8, 6] ?_; refine sr ?_; refine o1 (fdb ti185 ?_); refine o1 (ldb ti128 ?_)
  refine oc (T := fun _ => False) (op_range mt128 rfl rfl rfl rfl rfl (by simp only [List.length_cons, List.length_nil, Nat.reduceAdd]; rfl) rfl ?_); refine nx ?_; refine runs_block ?_; refine kp [64, 8, 6] ?_
  apply runs_loop_o (ι := List (ByteArray × Int)) (fun dn => []) (fun dn => [.mapI z, .mapI o, .cells [.d (.v (.int .i64 3)), .d (.v (.string .empty)), .d (.sl 3 (lvls [Lvl.mk ka sa aa, Lvl.mk kb sb ab]))] 45, .cells [.d (.v (.int .i64 0)), .d (.v (.map none))] 185, .mapI (fun _ => none), .cells [.d (.v (.int .i64 0)), .map 4] 185, .mapI fb, .cells [.d (.v (.int .i64 nb)), .map 6] 185, .itI 6 fb dn none]) [64, 8, 6] (fun dn => dn = []) (fun dn => 0) ([]) ([0, 1, 2, 3, 4, 5, 6, 7, 8])
  case hk => exact rfl
  case hI =>
    rfl
  case hm =>
    refine mei ?_ (sly (sly (sly slz))) (by repeat (first | exact trivial | refine And.intro rfl ?_))
    repeat (first | exact boz | refine boc ?_ | refine bom ?_ | refine boi ?_)
  case h =>
    rintro dn hinv
    try dsimp only at hinv
    refine kp [64, 8, 6] ?_; refine sr ?_; refine oc (op_next rfl rfl rfl rfl rfl rfl (fun hall => ?_) (fun ks kv hkv hnew => ⟨_, rfl, ?_⟩))
    · refine o1 (ex2 ?_)
      refine nx ?_; refine runs_seq ?_; refine cd (fun h14 => ?_) (fun h14 => ?_)
      · simp only [nrm, Int.reduceEq, Int.reduceNe, Int.reduceLT, Int.reduceLE] at h14
      (try simp only [nrm, Int.reduceEq, Int.reduceNe, Int.reduceLT, Int.reduceLE] at h14); refine runs_exit ?_; refine seq_exit ?_; refine seq_exit ?_; refine inb_exit ?_; refine seq_normal ?_; refine sr ?_; refine o1 (ldb ti185 ?_)
      refine oc (sto ti185 ?_); refine o1 (asg ?_); refine nx ?_; refine runs_ret ?_; refine seq_ret ?_; refine inb_ret ?_; refine seq_ret ?_; refine fin_ret ?_
      refine fin_o ⟨_, _, rfl, (from_cell rfl rfl ti185 rfl rfl rfl rfl), ⟨_, _, rfl, rfl, rfl⟩⟩ [0, 1, 4] (.tup [.agg [.d (.v (.int .i64 0)), .map 2], .d (.v (.string .empty))]) ([.mapI z, .mapI o, .mapI (fun _ => none)]) rfl rfl rfl ?_ rfl ?_ ?_
      · repeat (first | exact boz | refine bom ?_)
      · exact .refl _
      · subst h12 hinv
        refine ⟨_, _, _, rfl, rfl, shape_imax_zero hsh fun p => ?_⟩; cases hp : fb p with
        | none => rfl
        | some m => exact absurd (hall p m hp) (by simp)
    refine o1 (ex2 ?_); refine nx ?_; refine runs_seq ?_; refine cdf (fun h14 => ?_) (fun h14 => ?_)
    · simp only [nrm, Int.reduceEq, Int.reduceNe, Int.reduceLT, Int.reduceLE] at h14
    (try simp only [nrm, Int.reduceEq, Int.reduceNe, Int.reduceLT, Int.reduceLE] at h14); refine runs_skip ?_; refine seq_normal ?_; refine runs_block ?_; refine sr ?_; refine oc (T := fun _ => False) (op_entry rfl rfl rfl rfl rfl ?_)
    refine o1 (ex2 ?_); refine o1 (asg ?_); refine nx ?_; refine kp [11, 8, 6] ?_; refine sr ?_; refine o1 (ldb ti185 ?_); refine o1 (mv ?_); refine oc (sto ti185 ?_); refine o1 (asg ?_); refine nx ?_; refine runs_ret ?_; refine inb_ret ?_
    refine seq_ret ?_; refine inb_ret ?_; refine seq_ret ?_; refine seq_ret ?_; refine inb_ret ?_; refine seq_ret ?_; refine fin_ret ?_
    refine fin_o ⟨_, _, rfl, (from_cell rfl rfl ti185 rfl rfl rfl rfl), ⟨_, _, rfl, rfl, rfl⟩⟩ [0, 1, 4] (.tup [.agg [.d (.v (.int .i64 0)), .map 2], .d (.v (.string ks))]) ([.mapI z, .mapI o, .mapI (fun _ => none)]) rfl rfl rfl ?_ rfl ?_ ?_
    · repeat (first | exact boz | refine bom ?_)
    · exact .refl _
    · subst h12
      exact ⟨_, _, _, rfl, rfl, shape_imax_at ho hsh hkv (hnm ks (.inr (hsh.b.sup ks kv hkv)))⟩
theorem shape_spec (z o : MapF) (hz : Ones z) (ho : Ones o) (l : Lev) : nmL l → l.size ≤ 1099511627776 →
    Tri Tryz.prog gl 150 [.mapI z, .mapI o] [.d l.toLvl.d, .map 0, .map 1] (ShQ z o l) := by
  induction l with
  | param s => exact fun _ _ => shape_param_spec z o hz ho s
  | imax a b iha ihb =>
    intro hn hs
    simp only [Lev.size] at hs
    exact shape_imax_spec z o ho a b hn (by omega) (by omega) (iha (fun p h => hn p (.inl h)) (by omega)) (ihb (fun p h => hn p (.inr h)) (by omega))
  | zero => exact fun _ _ => shape_loop_spec z o .zero 0 [] rfl (by decide) (by decide) (fun a h => by cases h) (by simp) (fun a h => by cases h) (fun n f h => by obtain ⟨rfl, rfl⟩ := h; exact shape_zero) (fun i n f q _ _ h => by obtain ⟨a, h, _⟩ := h; cases h)
  | succ a iha =>
    intro hn hs
    simp only [Lev.size] at hs
    have iha' := iha hn (by omega)
    refine shape_loop_spec z o (.succ a) 1 [a] rfl (by decide) (by decide) (fun x h => by simp at h; subst h; omega) (by simp) (fun x h => by simp at h; subst h; exact iha') (fun n f h => shape_succ h) (fun i n f q h hq h2 h3 h4 => shape_early h (by decide) (fun x hx => ?_) hq ⟨?_, h3, h4⟩)
    · have := List.mem_of_mem_take (List.mem_reverse.1 hx)
      simp at this; subst this
      exact ⟨by simp only [Lev.size, if_true]; omega, fun p h => h⟩
    · obtain ⟨x, hx, h5⟩ := h2
      simp at hx; subst hx; exact h5
  | max a b iha ihb =>
    intro hn hs
    simp only [Lev.size] at hs
    have iha' := iha (fun p h => hn p (.inl h)) (by omega)
    have ihb' := ihb (fun p h => hn p (.inr h)) (by omega)
    refine shape_loop_spec z o (.max a b) 2 [a, b] rfl (by decide) (by decide) (fun x h => by simp at h; rcases h with h | h <;> (subst h; omega)) (by simp) (fun x h => by
        simp at h
        rcases h with h | h
        · subst h; exact iha'
        · subst h; exact ihb') (fun n f h => shape_max h) (fun i n f q h hq h2 h3 h4 => shape_early h (by decide) (fun x hx => ?_) hq ⟨?_, h3, h4⟩)
    · have := List.mem_of_mem_take (List.mem_reverse.1 hx)
      simp at this
      rcases this with h | h
      · subst h; exact ⟨by simp only [Lev.size]; simp; omega, fun p h => .inl h⟩
      · subst h; exact ⟨by simp only [Lev.size]; simp; omega, fun p h => .inr h⟩
    · obtain ⟨x, hx, h5⟩ := h2
      simp at hx
      rcases hx with h | h
      · subst h; exact .inl h5
      · subst h; exact .inr h5
end Go.Proofs.YtneaancanfpdhaaGreatDoor
namespace Go.Proofs.YtneaancanfpdhaaGreatDoor
open Go Go.Vd Go.RowKit
attribute [local irreducible] Runs OpsR OpR FloatR AnyR AnyO
variable {gl : Nat → List D}
theorem leq_spec (a b : Lev) (hna : nmL a) (hnb : nmL b) (hsa : a.size ≤ 1099511627776) (hsb : b.size ≤ 1099511627776) : ∀ (n : Nat) (z o : MapF), Ones z → Ones o → (∀ q, z q ≠ none → o q = none) → freeN z o (b.params (a.params [])) < n →
    Tri Tryz.prog gl 133 [.mapI z, .mapI o] [.d a.toLvl.d, .d b.toLvl.d, .map 0, .map 1] fun out ob' => ∃ c, out = .ret (.d (.v (.bool c))) ∧ ob' = [.mapI z, .mapI o] ∧ LeqA z o a b c := by
  intro n
  induction n with
  | zero => intro z o _ _ _ h; omega
  | succ n ih =>
    intro z o hz ho hd hn
    have sa := shape_spec (gl := gl) z o hz ho a hna hsa
    have sb := shape_spec (gl := gl) z o hz ho b hnb hsb
    obtain ⟨ka, na, aa, hXa⟩ := Lvl.case a.toLvl
    obtain ⟨kb, nb, ab, hXb⟩ := Lvl.case b.toLvl
    rw [hXa, hXb] at ih ⊢
    rw [hXa] at sa
    rw [hXb] at sb
    refine triS_of_runs Tryz.func133 rfl Tryz.ntmps133 (rs := [.tmp 8]) rfl rfl rfl 2 rfl ?_
    refine sr ?_; refine oc (T := fun _ => False) (bx ti45 ?_ (hl := by simp only [List.length_cons, List.length_nil, Nat.reduceAdd]; rfl))
    refine oc (T := fun _ => False) (bx ti45 ?_ (hl := by simp only [List.length_cons, List.length_nil, Nat.reduceAdd]; rfl)); refine o1 (asg ?_); refine nx ?_; refine sr ?_; refine o1 (ldb ti45 ?_); refine o1 (mv ?_); refine o1 (mv ?_)
    refine oc (op_callo ca150 rfl rfl rfl rfl (sa) [0, 1] (bom (bom .nil)) rfl rfl rfl rfl (fid (fir (fir .nil))) (fun s ob' hq => ?_) (fun s ob' hq => ?_))
    rotate_left
    · obtain ⟨_, _, _, hq1, _⟩ := hq; cases hq1
    obtain ⟨n1, f1, q1, hq1, rfl, sh1⟩ := hq; cases hq1; refine ⟨_, _, _, _, _, rfl, rfl, rfl, rfl, rfl, ?_⟩; refine o1 (mv ?_); refine o1 (ex1 ?_); refine o1 (ex1 ?_)
    refine oc (T := fun _ => False) (alc ti185 ?_ (hl := by simp only [List.length_cons, List.length_nil, Nat.reduceAdd]; rfl)); refine oc (sto ti185 ?_); refine o1 (asg ?_); refine nx ?_; refine runs_seq ?_; refine kp [10, 9, 5, 4, 2, 3] ?_
    refine sr ?_; refine o1 (mv ?_); refine o1 (seq1 ?_); refine nx ?_; refine kp [21, 10, 9, 5, 4, 2, 3] ?_
    apply runs_cut_o (ι := ByteArray) (fun q => [(10, .d (.v (.string q)))]) (fun q => [.mapI z, .mapI o, .cells [.d (.v (.int .i64 ka)), .d (.v (.string na)), .d (.sl 3 (lvls aa))] 45, .cells [.d (.v (.int .i64 kb)), .d (.v (.string nb)), .d (.sl 3 (lvls ab))] 45]) [5, 4, 2, 3] (fun q => (a.has q ∨ b.has q) ∧ z q = none ∧ o q = none)
    case hk => exact rfl
    case h1 =>
      refine cdf (fun h2 => ?_) (fun h2 => ?_)
      · (try simp only [nrm, Int.reduceEq, Int.reduceNe, Int.reduceLT, Int.reduceLE] at h2)
        refine runs_skip ?_; refine seq_back ?_; refine back_c (q1) rfl ?_ ([0, 1, 2, 3]) ?_
        · exact ⟨.inl (sh1.no h2).1, (sh1.no h2).2⟩
        · refine mo ?_ (sly (sly (sly (sly (sly slz)))))
          repeat (first | exact boz | refine boc ?_ | refine bom ?_)
      (try simp only [nrm, Int.reduceEq, Int.reduceNe, Int.reduceLT, Int.reduceLE] at h2); refine sr ?_; refine oc (T := fun _ => False) (alc ti185 ?_ (hl := by simp only [List.length_cons, List.length_nil, Nat.reduceAdd]; rfl)); refine nx ?_
      refine sr ?_; refine o1 (ldb ti45 ?_); refine o1 (mv ?_); refine o1 (mv ?_); refine oc (op_callo ca150 rfl rfl rfl rfl (sb) [0, 1] (bom (bom .nil)) rfl rfl rfl rfl (fid (fir (fir .nil))) (fun s ob' hq => ?_) (fun s ob' hq => ?_))
      rotate_left
      · obtain ⟨_, _, _, hq1, _⟩ := hq; cases hq1
      obtain ⟨n2, f2, q2, hq1, rfl, sh2⟩ := hq; cases hq1; refine ⟨_, _, _, _, _, rfl, rfl, rfl, rfl, rfl, ?_⟩; refine o1 (mv ?_); refine o1 (ex1 ?_); refine o1 (ex1 ?_); refine oc (sto ti185 ?_); refine o1 (asg ?_); refine nx ?_
      refine kp [10, 11, 9, 5, 4, 2, 3] ?_; refine sr ?_; refine o1 (mv ?_); refine o1 (seq1 ?_); refine nx ?_; refine cdf (fun h5 => ?_) (fun h5 => ?_)
      · (try simp only [nrm, Int.reduceEq, Int.reduceNe, Int.reduceLT, Int.reduceLE] at h5)
        refine runs_skip ?_; refine seq_back ?_; refine back_c (q2) rfl ?_ ([0, 1, 2, 3]) ?_
        · exact ⟨.inr (sh2.no h5).1, (sh2.no h5).2⟩
        · refine mo ?_ (sly (sly (sly (sly (sly slz)))))
          repeat (first | exact boz | refine boc ?_ | refine bom ?_)
      (try simp only [nrm, Int.reduceEq, Int.reduceNe, Int.reduceLT, Int.reduceLE] at h5); refine runs_seq ?_; refine kp [11, 9] ?_
      replace h2 : q1 = .empty := h2
      replace h5 : q2 = .empty := h5
      subst h2 h5
      refine runs_region ?_; refine o1 (ldb ti185 ?_); refine o1 (ldb ti185 ?_)
      refine oc (op_callo ca151 rfl rfl rfl rfl (fleq_spec n1 n2 f1 f2 (a.params []) (fun p x e => a.has_params (sh1.b.sup p x e))) [4, 7] (bom (bom .nil)) rfl rfl rfl rfl (fir (fir .nil)) (fun s ob' hq => ?_) (fun s ob' hq => ?_))
      rotate_left
      · obtain ⟨_, hq1, _⟩ := hq; cases hq1
      obtain ⟨c, hq1, rfl, hF⟩ := hq; cases hq1; refine ⟨_, _, _, _, _, rfl, rfl, rfl, rfl, rfl, ?_⟩; refine o1 (asg ?_); refine nx ?_; refine runs_ret ?_; refine seq_ret ?_; refine fin_ret ?_
      refine fin_odl ⟨_, _, rfl, rfl, rfl⟩ rfl (.v (.bool c)) (by exact .refl _) ([0, 1]) ([.mapI z, .mapI o]) rfl rfl rfl ?_ ?_
      · repeat (first | exact boz | refine bom ?_)
      · exact ⟨c, rfl, rfl, fun e => sem_of_fle (sh1.ok rfl) (sh2.ok rfl) (hF.1 e), fun e => cex_of_not hz ho hd (sh1.ok rfl) (sh2.ok rfl) (fun h => by rw [hF.2 h] at e; cases e)⟩
    case h2 =>
      rintro q hcut
      try dsimp only at hcut
      refine kp [10, 5, 4, 2, 3] ?_; refine runs_seq ?_
      have hqU : q ∈ b.params (a.params []) := hcut.1.elim (fun h => b.params_mono (a.has_params h)) (fun h => b.has_params h)
      have hf0 := free_zero hqU hcut.2.1 hcut.2.2
      have hf1 := free_one hqU hcut.2.1 hcut.2.2
      refine runs_region ?_; refine o1 (mv ?_); refine o1 (mv ?_); refine oc (op_mapupd mt128 rfl rfl rfl rfl rfl rfl rfl rfl ?_); refine nx ?_; refine sr ?_; refine o1 (ldb ti45 ?_); refine o1 (ldb ti45 ?_); refine o1 (mv ?_); refine o1 (mv ?_)
      refine oc (op_callo ca133 rfl rfl rfl rfl (ih (updM z q 1) o (ones_upd hz) ho (disj_zero hd hcut.2.2) (by omega)) [0, 1] (bom (bom .nil)) rfl rfl rfl rfl (fid (fid (fir (fir .nil)))) (fun s ob' hq => ?_) (fun s ob' hq => ?_))
      rotate_left
      · obtain ⟨_, hq1, _⟩ := hq; cases hq1
      obtain ⟨c1, hq1, rfl, hA1⟩ := hq; cases hq1; refine ⟨_, _, _, _, _, rfl, rfl, rfl, rfl, rfl, ?_⟩; refine o1 (asg ?_); refine nx ?_; refine kp [12, 10, 5, 4, 2, 3] ?_; refine sr ?_; refine o1 (mv ?_); refine o1 (mv ?_)
      refine oc (op_delete mt128 rfl rfl rfl rfl rfl rfl rfl ?_); refine nx ?_; refine runs_seq ?_; refine runs_seq ?_
      rw [upd_del hcut.2.1]
      refine runs_region ?_; refine o1 (mv ?_); refine o1 (f_not ?_); refine nx ?_; refine cd (fun h10 => ?_) (fun h10 => ?_)
      · (try simp only [nrm, Int.reduceEq, Int.reduceNe, Int.reduceLT, Int.reduceLE] at h10)
        refine kp [] ?_; refine sr ?_; refine o1 (asg ?_); refine nx ?_; refine runs_ret ?_; refine seq_ret ?_; refine fin_ret ?_
        refine fin_odl ⟨_, _, rfl, rfl, rfl⟩ rfl (.v (.bool false)) (by exact .refl _) ([0, 1]) ([.mapI z, .mapI o]) rfl rfl rfl ?_ ?_
        · repeat (first | exact boz | refine bom ?_)
        · exact ⟨false, rfl, rfl, fun e => (by cases e), fun _ => (hA1.no h10).zero⟩
      (try simp only [nrm, Int.reduceEq, Int.reduceNe, Int.reduceLT, Int.reduceLE] at h10); refine runs_skip ?_; refine seq_normal ?_; refine kp [10, 5, 4, 2, 3] ?_; refine sr ?_; refine o1 (mv ?_); refine o1 (mv ?_)
      refine oc (op_mapupd mt128 rfl rfl rfl rfl rfl rfl rfl rfl ?_); refine nx ?_; refine sr ?_; refine o1 (ldb ti45 ?_); refine o1 (ldb ti45 ?_); refine o1 (mv ?_); refine o1 (mv ?_)
      refine oc (op_callo ca133 rfl rfl rfl rfl (ih z (updM o q 1) hz (ones_upd ho) (disj_one hd hcut.2.1) (by omega)) [0, 1] (bom (bom .nil)) rfl rfl rfl rfl (fid (fid (fir (fir .nil)))) (fun s ob' hq => ?_) (fun s ob' hq => ?_))
      rotate_left
      · obtain ⟨_, hq1, _⟩ := hq; cases hq1
      obtain ⟨c2, hq1, rfl, hA2⟩ := hq; cases hq1; refine ⟨_, _, _, _, _, rfl, rfl, rfl, rfl, rfl, ?_⟩; refine o1 (asg ?_); refine nx ?_; refine kp [12, 10, 3] ?_; refine sr ?_; refine o1 (mv ?_); refine o1 (mv ?_)
      refine oc (op_delete mt128 rfl rfl rfl rfl rfl rfl rfl ?_); refine nx ?_; refine runs_seq ?_; refine kp [12] ?_
      rw [upd_del hcut.2.2]
      refine runs_region ?_; refine o1 (mv ?_); refine o1 (asg ?_); refine nx ?_; refine runs_ret ?_; refine fin_ret ?_; refine fin_odl ⟨_, _, rfl, rfl, rfl⟩ rfl (.v (.bool c2)) (by exact .refl _) ([0, 1]) ([.mapI z, .mapI o]) rfl rfl rfl ?_ ?_
      · repeat (first | exact boz | refine bom ?_)
      · exact ⟨c2, rfl, rfl, fun e => (sem_split (q := q) a b).2 ⟨hA1.yes h10, hA2.yes e⟩, fun e => (hA2.no e).one⟩
theorem pLeq_spec (a b : Lev) (hna : nmL a) (hnb : nmL b) (hsa : a.size ≤ 1099511627776) (hsb : b.size ≤ 1099511627776) :
    TriD Tryz.prog gl 115 [a.toLvl.d, b.toLvl.d] (· = .v (.bool (semB a b))) := by
  have hl := leq_spec (gl := gl) a b hna hnb hsa hsb (freeN noM noM (b.params (a.params [])) + 1) noM noM (fun p m e => by cases e) (fun p m e => by cases e) (fun q h => rfl) (Nat.lt_succ_self _)
  unfold noM at hl
  obtain ⟨ka, na, aa, hXa⟩ := Lvl.case a.toLvl
  obtain ⟨kb, nb, ab, hXb⟩ := Lvl.case b.toLvl
  rw [hXa, hXb] at hl ⊢
  refine triD_of_runs Tryz.func115 rfl Tryz.ntmps115 (rs := [.tmp 4]) rfl rfl rfl ?_
  refine sr ?_; refine oc (T := fun _ => False) (bx ti45 ?_ (hl := by simp only [List.length_cons, List.length_nil, Nat.reduceAdd]; rfl))
  refine oc (T := fun _ => False) (bx ti45 ?_ (hl := by simp only [List.length_cons, List.length_nil, Nat.reduceAdd]; rfl)); refine o1 (asg ?_); refine nx ?_; refine sr ?_; refine o1 (ldb ti45 ?_); refine o1 (ldb ti45 ?_)
  refine oc (T := fun _ => False) (op_mapmake rfl rfl rfl (by simp only [List.length_cons, List.length_nil, Nat.reduceAdd]; rfl) rfl ?_)
  refine oc (T := fun _ => False) (op_mapmake rfl rfl rfl (by simp only [List.length_cons, List.length_nil, Nat.reduceAdd]; rfl) rfl ?_)
  refine oc (op_callo ca133 rfl rfl rfl rfl (hl) [2, 3] (bom (bom .nil)) rfl rfl rfl rfl (fid (fid (fir (fir .nil)))) (fun s ob' hq => ?_) (fun s ob' hq => ?_))
  rotate_left
  · obtain ⟨_, hq1, _⟩ := hq; cases hq1
  obtain ⟨c, hq1, rfl, hA⟩ := hq; cases hq1; obtain rfl := LeqA.eq hA; refine ⟨_, _, _, _, _, rfl, rfl, rfl, rfl, rfl, ?_⟩; refine o1 (asg ?_); refine nx ?_; refine runs_ret ?_; refine fin_ret ?_; refine fin_d1 rfl rfl ?_
  rfl
theorem pSame_spec (a b : Lev) (hna : nmL a) (hnb : nmL b) (hsa : a.size ≤ 1099511627776) (hsb : b.size ≤ 1099511627776) :
    TriD Tryz.prog gl 93 [a.toLvl.d, b.toLvl.d] (· = .v (.bool (semB a b && semB b a))) := by
  have h1 := pLeq_spec (gl := gl) a b hna hnb hsa hsb
  have h2 := pLeq_spec (gl := gl) b a hnb hna hsb hsa
  obtain ⟨ka, na, aa, hXa⟩ := Lvl.case a.toLvl
  obtain ⟨kb, nb, ab, hXb⟩ := Lvl.case b.toLvl
  rw [hXa, hXb] at h1 h2 ⊢
  refine triD_of_runs Tryz.func93 rfl Tryz.ntmps93 (rs := [.tmp 4]) rfl rfl rfl ?_
  refine sr ?_; refine oc (T := fun _ => False) (bx ti45 ?_ (hl := by simp only [List.length_cons, List.length_nil, Nat.reduceAdd]; rfl))
  refine oc (T := fun _ => False) (bx ti45 ?_ (hl := by simp only [List.length_cons, List.length_nil, Nat.reduceAdd]; rfl)); refine o1 (asg ?_); refine nx ?_; refine sr ?_; refine o1 (ldb ti45 ?_); refine o1 (ldb ti45 ?_)
  refine oc (cv ca115 rfl rfl (h1) (fid (fid .nil)) ?_); refine o1 (mv ?_)
  apply ops_and (yt := 11) (d := 8) 3 rfl rfl rfl (.none rfl) rfl rfl
  case h1 =>
    intro hb7 hK
    have hc := hb7; (try simp only [nrm, Int.reduceEq, Int.reduceNe, Int.reduceLT, Int.reduceLE] at hc)
    refine gye ?_ (hbw := by exact hb7); refine o1 (ldb ti45 ?_); refine gye ?_ (hbw := by exact hb7); refine o1 (ldb ti45 ?_); refine gye ?_ (hbw := by exact hb7); refine oc (cv ca115 rfl rfl (h2) (fid (fid .nil)) ?_)
    exact hK [_, _, _] rfl rfl
  case h2 =>
    intro hb7 hK; refine gno ?_ (hbw := by exact hb7); refine gno ?_ (hbw := by exact hb7); refine gno ?_ (hbw := by exact hb7); exact hK [_, _, _] rfl
  refine o1 (asg ?_); refine nx ?_; refine runs_ret ?_; refine fin_ret ?_; refine fin_d1 rfl rfl ?_
  rfl
end Go.Proofs.YtneaancanfpdhaaGreatDoor
namespace Go.Proofs.YtneaancanfpdhaaGreatDoor
open Go Go.Vd Go.RowKit
attribute [local irreducible] Runs OpsR OpR FloatR AnyR AnyO
variable {g gl : Nat → List D}
mutual
theorem allL_ok : ∀ {t : Trm}, okT t → allL (fun l => ∃ x : Lev, l = x.toLvl ∧ fitP x.toLvl) t
  | .mk k n s ls args, h => ⟨h.2.2.2.2.1, allLs_ok h.2.2.2.2.2⟩
theorem allLs_ok : ∀ {l : List Trm}, okTs l → allLs (fun l => ∃ x : Lev, l = x.toLvl ∧ fitP x.toLvl) l
  | [], _ => trivial
  | t :: r, h => ⟨allL_ok h.1, allLs_ok h.2⟩
end
theorem eqfL_spec {f : FuncId} (hcf : callable Tryz.prog f = true) {E : Lvl → Lvl → Bool} (l1 l2 : List Lvl) (hb : l1.length ≤ 1099511627776)
    (hf : ∀ (i : Nat) k s a k2 s2 a2, l1[i]? = some (.mk k s a) → l2[i]? = some (.mk k2 s2 a2) → TriD Tryz.prog gl f [(Lvl.mk k s a).d, (Lvl.mk k2 s2 a2).d] (· = .v (.bool (E (.mk k s a) (.mk k2 s2 a2))))) :
    TriD Tryz.prog gl 52 [.sl 3 (lvls l1), .sl 3 (lvls l2), .v (.func (.func f) #[] #[])] (· = .v (.bool (allB E l1 l2))) := by
  have hlen := lvls_len l1
  have hlen2 := lvls_len l2
  refine triD_of_runs Tryz.func52 rfl Tryz.ntmps52 (rs := [.tmp 6]) rfl rfl rfl ?_
  refine sr ?_; refine o1 (asg ?_); refine nx ?_; refine runs_seq ?_; refine sr ?_; refine o1 (mv ?_); refine o1 (le1 us28 ?_); refine o1 (mv ?_); refine o1 (le1 us28 ?_); refine o1 (ine ?_); refine nx ?_
  refine cd (fun h1 => ?_) (fun h1 => ?_)
  · (try simp only [nrm, Int.reduceEq, Int.reduceNe, Int.reduceLT, Int.reduceLE] at h1)
    refine kp [] ?_; refine sr ?_; refine o1 (asg ?_); refine nx ?_; refine runs_ret ?_; refine seq_ret ?_; refine fin_ret ?_; refine fin_d1 rfl rfl ?_
    rw [allB_ne (a := l1) (b := l2) (by omega)]
  (try simp only [nrm, Int.reduceEq, Int.reduceNe, Int.reduceLT, Int.reduceLE] at h1); refine runs_skip ?_; refine seq_normal ?_; refine runs_seq ?_; refine kp [0, 1, 2] ?_; refine sr ?_; refine o1 (mv ?_); refine o1 (le1 us28 ?_)
  refine o1 (mv ?_); refine nx ?_; refine runs_block ?_; refine kp [17, 16, 15, 1, 2] ?_
  apply runs_loop_c (ι := Nat) (fun i => [(17, int i)]) [16, 15, 1, 2] (fun i => i ≤ l1.length ∧ allB E (l1.take i) (l2.take i) = true) (fun i => l1.length - i) (0)
  case hk => exact rfl
  case hI =>
    exact ⟨Nat.zero_le _, rfl⟩
  case hm =>
    refine mo ?_ (sly (sly (sly (sly (sly slz))))); exact boz
  case h =>
    rintro i hinv
    try dsimp only at hinv
    refine kp [17, 16, 15, 1, 2] ?_; refine sr ?_; refine o1 (ilt ?_); refine nx ?_; refine runs_seq ?_; refine cdf (fun h4 => ?_) (fun h4 => ?_)
    · (try simp only [nrm, Int.reduceEq, Int.reduceNe, Int.reduceLT, Int.reduceLE] at h4)
      refine runs_exit ?_; refine seq_exit ?_; refine seq_exit ?_; refine inb_exit ?_; refine seq_normal ?_; refine kp [] ?_; refine sr ?_; refine o1 (asg ?_); refine nx ?_; refine runs_ret ?_; refine fin_ret ?_; refine fin_d1 rfl rfl ?_
      have h9 := hinv.2; rw [List.take_of_length_le (by omega), List.take_of_length_le (by omega)] at h9; rw [h9]
    (try simp only [nrm, Int.reduceEq, Int.reduceNe, Int.reduceLT, Int.reduceLE] at h4); refine runs_skip ?_; refine seq_normal ?_; refine runs_seq ?_; refine runs_block ?_; refine runs_seq ?_
    obtain ⟨k', s', a', hget⟩ := lvl_get (show i < l1.length by omega); obtain ⟨k2', s2', a2', hget2⟩ := lvl_get (show i < l2.length by omega); refine runs_region ?_; refine o1 (mv ?_); refine o1 (ixs us28 te28 ?_ (he := by exact (lvl_at hget)))
    refine o1 (ldc ti45 ?_); refine oc (T := fun _ => False) (alc ti45 ?_ (hl := by simp only [List.length_cons, List.length_nil, Nat.reduceAdd]; rfl)); refine o1 (asg ?_); refine oc (sto ti45 ?_); refine nx ?_
    refine kp [7, 8, 17, 16, 15, 1, 2] ?_; refine sr ?_; refine o1 (mv ?_); refine o1 (mv ?_); refine o1 (ixs us28 te28 ?_ (he := by exact (lvl_at hget2))); refine o1 (ldc ti45 ?_)
    refine oc (T := fun _ => False) (alc ti45 ?_ (hl := by simp only [List.length_cons, List.length_nil, Nat.reduceAdd]; rfl)); refine oc (sto ti45 ?_); refine nx ?_; refine kp [9, 8, 17, 16, 15, 1, 2] ?_; refine sr ?_; refine o1 (mv ?_)
    refine o1 (ldb ti45 ?_); refine o1 (ldb ti45 ?_); refine oc (T := fun _ => False) (op_callfd hcf rfl rfl rfl rfl rfl rfl (hf i k' s' a' k2' s2' a2' hget hget2) (fid (fid .nil)) (fun d hd => ?_)); obtain rfl := hd; refine o1 (f_not ?_)
    refine nx ?_; refine cd (fun h7 => ?_) (fun h7 => ?_)
    · (try simp only [nrm, Int.reduceEq, Int.reduceNe, Int.reduceLT, Int.reduceLE] at h7)
      refine kp [] ?_; refine sr ?_; refine o1 (asg ?_); refine nx ?_; refine runs_ret ?_; refine inb_ret ?_; refine seq_ret ?_; refine seq_ret ?_; refine inb_ret ?_; refine seq_ret ?_; refine fin_ret ?_; refine fin_d1 rfl rfl ?_
      rw [allB_false hget hget2 h7]
    (try simp only [nrm, Int.reduceEq, Int.reduceNe, Int.reduceLT, Int.reduceLE] at h7); refine runs_skip ?_; refine inb_normal ?_; refine seq_normal ?_; refine kp [17, 16, 15, 1, 2] ?_; refine runs_region ?_; refine o1 (iad ?_)
    refine o1 (mv ?_); refine ops_nil ?_; refine seq_back ?_; refine back_i (i + 1) rfl ?_ ?_
    · exact ⟨⟨by omega, by rw [allB_take hget hget2]; simp [hinv.2, h7]⟩, by omega⟩
    · refine mo ?_ (sly (sly (sly (sly (sly slz)))))
      exact boz
theorem eqfT_spec {f : FuncId} (hcf : callable Tryz.prog f = true) {E : Trm → Trm → Bool} (l1 l2 : List Trm) (hb : l1.length ≤ 1099511627776)
    (hf : ∀ (i : Nat) k n s l a k2 n2 s2 m2 a2, l1[i]? = some (.mk k n s l a) → l2[i]? = some (.mk k2 n2 s2 m2 a2) → TriD Tryz.prog gl f [(Trm.mk k n s l a).d, (Trm.mk k2 n2 s2 m2 a2).d] (· = .v (.bool (E (.mk k n s l a) (.mk k2 n2 s2 m2 a2))))) :
    TriD Tryz.prog gl 54 [.sl 5 (trms l1), .sl 5 (trms l2), .v (.func (.func f) #[] #[])] (· = .v (.bool (allB E l1 l2))) := by
  have hlen := trms_len l1
  have hlen2 := trms_len l2
  refine triD_of_runs Tryz.func54 rfl Tryz.ntmps54 (rs := [.tmp 6]) rfl rfl rfl ?_
  refine sr ?_; refine o1 (asg ?_); refine nx ?_; refine runs_seq ?_; refine sr ?_; refine o1 (mv ?_); refine o1 (le1 us29 ?_); refine o1 (mv ?_); refine o1 (le1 us29 ?_); refine o1 (ine ?_); refine nx ?_
  refine cd (fun h1 => ?_) (fun h1 => ?_)
  · (try simp only [nrm, Int.reduceEq, Int.reduceNe, Int.reduceLT, Int.reduceLE] at h1)
    refine kp [] ?_; refine sr ?_; refine o1 (asg ?_); refine nx ?_; refine runs_ret ?_; refine seq_ret ?_; refine fin_ret ?_; refine fin_d1 rfl rfl ?_
    rw [allB_ne (a := l1) (b := l2) (by omega)]
  (try simp only [nrm, Int.reduceEq, Int.reduceNe, Int.reduceLT, Int.reduceLE] at h1); refine runs_skip ?_; refine seq_normal ?_; refine runs_seq ?_; refine kp [0, 1, 2] ?_; refine sr ?_; refine o1 (mv ?_); refine o1 (le1 us29 ?_)
  refine o1 (mv ?_); refine nx ?_; refine runs_block ?_; refine kp [17, 16, 15, 1, 2] ?_
  apply runs_loop_c (ι := Nat) (fun i => [(17, int i)]) [16, 15, 1, 2] (fun i => i ≤ l1.length ∧ allB E (l1.take i) (l2.take i) = true) (fun i => l1.length - i) (0)
  case hk => exact rfl
  case hI =>
    exact ⟨Nat.zero_le _, rfl⟩
  case hm =>
    refine mo ?_ (sly (sly (sly (sly (sly slz))))); exact boz
  case h =>
    rintro i hinv
    try dsimp only at hinv
    refine kp [17, 16, 15, 1, 2] ?_; refine sr ?_; refine o1 (ilt ?_); refine nx ?_; refine runs_seq ?_; refine cdf (fun h4 => ?_) (fun h4 => ?_)
    · (try simp only [nrm, Int.reduceEq, Int.reduceNe, Int.reduceLT, Int.reduceLE] at h4)
      refine runs_exit ?_; refine seq_exit ?_; refine seq_exit ?_; refine inb_exit ?_; refine seq_normal ?_; refine kp [] ?_; refine sr ?_; refine o1 (asg ?_); refine nx ?_; refine runs_ret ?_; refine fin_ret ?_; refine fin_d1 rfl rfl ?_
      have h9 := hinv.2; rw [List.take_of_length_le (by omega), List.take_of_length_le (by omega)] at h9; rw [h9]
    (try simp only [nrm, Int.reduceEq, Int.reduceNe, Int.reduceLT, Int.reduceLE] at h4); refine runs_skip ?_; refine seq_normal ?_; refine runs_seq ?_; refine runs_block ?_; refine runs_seq ?_
    obtain ⟨k', n', s', m', a', hget⟩ := trm_get (show i < l1.length by omega); obtain ⟨k2', n2', s2', m2', a2', hget2⟩ := trm_get (show i < l2.length by omega); refine runs_region ?_; refine o1 (mv ?_)
    refine o1 (ixs us29 te29 ?_ (he := by exact (trm_at hget))); refine o1 (ldc ti31 ?_); refine oc (T := fun _ => False) (alc ti31 ?_ (hl := by simp only [List.length_cons, List.length_nil, Nat.reduceAdd]; rfl)); refine o1 (asg ?_)
    refine oc (sto ti31 ?_); refine nx ?_; refine kp [7, 8, 17, 16, 15, 1, 2] ?_; refine sr ?_; refine o1 (mv ?_); refine o1 (mv ?_); refine o1 (ixs us29 te29 ?_ (he := by exact (trm_at hget2))); refine o1 (ldc ti31 ?_)
    refine oc (T := fun _ => False) (alc ti31 ?_ (hl := by simp only [List.length_cons, List.length_nil, Nat.reduceAdd]; rfl)); refine oc (sto ti31 ?_); refine nx ?_; refine kp [9, 8, 17, 16, 15, 1, 2] ?_; refine sr ?_; refine o1 (mv ?_)
    refine o1 (ldb ti31 ?_); refine o1 (ldb ti31 ?_); refine oc (T := fun _ => False) (op_callfd hcf rfl rfl rfl rfl rfl rfl (hf i k' n' s' m' a' k2' n2' s2' m2' a2' hget hget2) (fid (fid .nil)) (fun d hd => ?_)); obtain rfl := hd
    refine o1 (f_not ?_); refine nx ?_; refine cd (fun h7 => ?_) (fun h7 => ?_)
    · (try simp only [nrm, Int.reduceEq, Int.reduceNe, Int.reduceLT, Int.reduceLE] at h7)
      refine kp [] ?_; refine sr ?_; refine o1 (asg ?_); refine nx ?_; refine runs_ret ?_; refine inb_ret ?_; refine seq_ret ?_; refine seq_ret ?_; refine inb_ret ?_; refine seq_ret ?_; refine fin_ret ?_; refine fin_d1 rfl rfl ?_
      rw [allB_false hget hget2 h7]
    (try simp only [nrm, Int.reduceEq, Int.reduceNe, Int.reduceLT, Int.reduceLE] at h7); refine runs_skip ?_; refine inb_normal ?_; refine seq_normal ?_; refine kp [17, 16, 15, 1, 2] ?_; refine runs_region ?_; refine o1 (iad ?_)
    refine o1 (mv ?_); refine ops_nil ?_; refine seq_back ?_; refine back_i (i + 1) rfl ?_ ?_
    · exact ⟨⟨by omega, by rw [allB_take hget hget2]; simp [hinv.2, h7]⟩, by omega⟩
    · refine mo ?_ (sly (sly (sly (sly (sly slz)))))
      exact boz
theorem written_spec : ∀ (n : Nat) (k : Int) (s : ByteArray) (args : List Lvl) (k2 : Int) (s2 : ByteArray) (args2 : List Lvl), (Lvl.mk k s args).size ≤ n → (Lvl.mk k s args).size ≤ 1099511627776 →
    TriD Tryz.prog gl 92 [(Lvl.mk k s args).d, (Lvl.mk k2 s2 args2).d] (· = .v (.bool (Lvl.same (.mk k s args) (.mk k2 s2 args2)))) := by
  intro n
  induction n with
  | zero => intro k s args k2 s2 args2 h; simp [Lvl.size] at h
  | succ n ih =>
    intro k s args k2 s2 args2 hn hb
    simp only [Lvl.size] at hn hb
    have hlb := lvls_size args
    have hq1 := eqfL_spec (gl := gl) (f := 92) (by kernel_rfl) (E := Lvl.same) args args2 (by omega) fun i k s a k2 s2 a2 h h2 => by
      have := size_get h
      exact ih k s a k2 s2 a2 (by omega) (by omega)
    rw [allB_sameL] at hq1
    rw [Lvl.same_eq]
    refine triD_of_runs Tryz.func92 rfl Tryz.ntmps92 (rs := [.tmp 4]) rfl rfl rfl ?_
    refine sr ?_; refine oc (T := fun _ => False) (bx ti45 ?_ (hl := by simp only [List.length_cons, List.length_nil, Nat.reduceAdd]; rfl))
    refine oc (T := fun _ => False) (bx ti45 ?_ (hl := by simp only [List.length_cons, List.length_nil, Nat.reduceAdd]; rfl)); refine o1 (asg ?_); refine nx ?_; refine sr ?_; refine o1 (fdb ti45 ?_); refine o1 (ldb ti3 ?_)
    refine o1 (fdb ti45 ?_); refine o1 (ldb ti3 ?_); refine o1 (ieq ?_); refine o1 (mv ?_)
    apply ops_and (yt := 15) (d := 10) 5 rfl rfl rfl (.none rfl) rfl rfl
    case h1 =>
      intro hb11 hK
      have hc := hb11; (try simp only [nrm, Int.reduceEq, Int.reduceNe, Int.reduceLT, Int.reduceLE] at hc)
      refine gye ?_ (hbw := by exact hb11); refine o1 (fdb ti45 ?_); refine gye ?_ (hbw := by exact hb11); refine o1 (ldb ti9 ?_); refine gye ?_ (hbw := by exact hb11); refine o1 (fdb ti45 ?_); refine gye ?_ (hbw := by exact hb11)
      refine o1 (ldb ti9 ?_); refine gye ?_ (hbw := by exact hb11); refine o1 (seq1 ?_); exact hK [_, _, _, _, _] rfl rfl
    case h2 =>
      intro hb11 hK; refine gno ?_ (hbw := by exact hb11); refine gno ?_ (hbw := by exact hb11); refine gno ?_ (hbw := by exact hb11); refine gno ?_ (hbw := by exact hb11); refine gno ?_ (hbw := by exact hb11); exact hK [_, _, _, _, _] rfl
    refine o1 (mv ?_)
    apply ops_and (yt := 22) (d := 17) 5 rfl rfl rfl (.none rfl) rfl rfl
    case h1 =>
      intro hb25 hK
      have hc := hb25; (try simp only [nrm, Int.reduceEq, Int.reduceNe, Int.reduceLT, Int.reduceLE] at hc)
      refine gye ?_ (hbw := by exact hb25); refine o1 (fdb ti45 ?_); refine gye ?_ (hbw := by exact hb25); refine o1 (ldb ti28 ?_); refine gye ?_ (hbw := by exact hb25); refine o1 (fdb ti45 ?_); refine gye ?_ (hbw := by exact hb25)
      refine o1 (ldb ti28 ?_); refine gye ?_ (hbw := by exact hb25); refine oc (cv ca52 rfl rfl (hq1) (fir (fir (fir .nil))) ?_); exact hK [_, _, _, _, _] rfl rfl
    case h2 =>
      intro hb25 hK; refine gno ?_ (hbw := by exact hb25); refine gno ?_ (hbw := by exact hb25); refine gno ?_ (hbw := by exact hb25); refine gno ?_ (hbw := by exact hb25); refine gno ?_ (hbw := by exact hb25); exact hK [_, _, _, _, _] rfl
    refine o1 (asg ?_); refine nx ?_; refine runs_ret ?_; refine fin_ret ?_; refine fin_d1 rfl rfl ?_
    rfl
theorem sameLv_spec (a b : Lev) (hna : nmL a) (hnb : nmL b) (hsa : a.size ≤ 1099511627776) (hsb : b.size ≤ 1099511627776) :
    TriD Tryz.prog gl 53 [a.toLvl.d, b.toLvl.d] (· = .v (.bool (eqLv a.toLvl b.toLvl))) := by
  have h1 := pSame_spec (gl := gl) a b hna hnb hsa hsb
  have sa := a.size_toLvl
  unfold eqLv
  rw [semL_of]
  obtain ⟨ka, na, aa, hXa⟩ := Lvl.case a.toLvl
  obtain ⟨kb, nb, ab, hXb⟩ := Lvl.case b.toLvl
  rw [hXa, hXb] at h1 ⊢
  rw [hXa] at sa
  have h2 := written_spec (gl := gl) _ ka na aa kb nb ab (Nat.le_refl _) (by omega)
  refine triD_of_runs Tryz.func53 rfl Tryz.ntmps53 (rs := [.tmp 4]) rfl rfl rfl ?_
  refine sr ?_; refine oc (T := fun _ => False) (bx ti45 ?_ (hl := by simp only [List.length_cons, List.length_nil, Nat.reduceAdd]; rfl))
  refine oc (T := fun _ => False) (bx ti45 ?_ (hl := by simp only [List.length_cons, List.length_nil, Nat.reduceAdd]; rfl)); refine o1 (asg ?_); refine nx ?_; refine sr ?_; refine o1 (ldb ti45 ?_); refine o1 (ldb ti45 ?_)
  refine oc (cv ca92 rfl rfl (h2) (fid (fid .nil)) ?_); refine o1 (mv ?_)
  apply ops_or (yt := 11) (d := 8) 3 rfl rfl rfl (.none rfl) rfl rfl
  case h1 =>
    intro hb6 hK
    have hc := hb6; (try simp only [nrm, Int.reduceEq, Int.reduceNe, Int.reduceLT, Int.reduceLE] at hc)
    refine gye ?_ (hbw := by exact hb6); refine o1 (ldb ti45 ?_); refine gye ?_ (hbw := by exact hb6); refine o1 (ldb ti45 ?_); refine gye ?_ (hbw := by exact hb6); refine oc (cv ca93 rfl rfl (h1) (fid (fid .nil)) ?_); exact hK [_, _, _] rfl rfl
  case h2 =>
    intro hb6 hK; refine gno ?_ (hbw := by exact hb6); refine gno ?_ (hbw := by exact hb6); refine gno ?_ (hbw := by exact hb6); exact hK [_, _, _] rfl
  refine o1 (asg ?_); refine nx ?_; refine runs_ret ?_; refine fin_ret ?_; refine fin_d1 rfl rfl ?_
  rfl
theorem tequal_spec : ∀ (n : Nat) (k m : Int) (s : ByteArray) (ls : List Lvl) (args : List Trm) (k2 m2 : Int) (s2 : ByteArray) (ls2 : List Lvl) (args2 : List Trm), (Trm.mk k m s ls args).size ≤ n → (Trm.mk k m s ls args).size ≤ 1099511627776 → (Trm.mk k2 m2 s2 ls2 args2).size ≤ 1099511627776 → okT (.mk k m s ls args) → okT (.mk k2 m2 s2 ls2 args2) →
    TriD Tryz.prog gl 16 [(Trm.mk k m s ls args).d, (Trm.mk k2 m2 s2 ls2 args2).d] (· = .v (.bool (eqT eqLv (.mk k m s ls args) (.mk k2 m2 s2 ls2 args2)))) := by
  intro n
  induction n with
  | zero => intro k m s ls args k2 m2 s2 ls2 args2 h; simp [Trm.size] at h
  | succ n ih =>
    intro k m s ls args k2 m2 s2 ls2 args2 hn hb hb2 ho ho2
    simp only [Trm.size] at hn hb hb2
    have hlb := trms_size args
    have hlL := lvls_size ls
    have hq1 := eqfL_spec (gl := gl) (f := 53) (by kernel_rfl) (E := eqLv) ls ls2 (by omega) fun i k s a k2 s2 a2 h h2 => by
      have e1 := size_get h
      have e2 := size_get h2
      obtain ⟨x, hx, fx⟩ := okLs_get ho.2.2.2.2.1 h
      obtain ⟨y, hy, fy⟩ := okLs_get ho2.2.2.2.2.1 h2
      rw [hx, x.size_toLvl] at e1
      rw [hy, y.size_toLvl] at e2
      rw [hx, hy]
      exact sameLv_spec x y (nmL_of_fit x fx) (nmL_of_fit y fy) (by omega) (by omega)
    have hq2 := eqfT_spec (gl := gl) (f := 16) (by kernel_rfl) (E := eqT eqLv) args args2 (by omega) fun i k n s l a k2 n2 s2 m2 a2 h h2 => by
      have e1 := sizeT_get h
      have e2 := sizeT_get h2
      exact ih k n s l a k2 n2 s2 m2 a2 (by omega) (by omega) (by omega) (okT_get ho.2.2.2.2.2 h) (okT_get ho2.2.2.2.2.2 h2)
    rw [eqT_mk]
    refine triD_of_runs Tryz.func16 rfl Tryz.ntmps16 (rs := [.tmp 4]) rfl rfl rfl ?_
    refine sr ?_; refine oc (T := fun _ => False) (bx ti31 ?_ (hl := by simp only [List.length_cons, List.length_nil, Nat.reduceAdd]; rfl))
    refine oc (T := fun _ => False) (bx ti31 ?_ (hl := by simp only [List.length_cons, List.length_nil, Nat.reduceAdd]; rfl)); refine o1 (asg ?_); refine nx ?_; refine sr ?_; refine o1 (fdb ti31 ?_); refine o1 (ldb ti3 ?_)
    refine o1 (fdb ti31 ?_); refine o1 (ldb ti3 ?_); refine o1 (ieq ?_); refine o1 (mv ?_)
    apply ops_and (yt := 15) (d := 10) 5 rfl rfl rfl (.none rfl) rfl rfl
    case h1 =>
      intro hb11 hK
      have hc := hb11; (try simp only [nrm, Int.reduceEq, Int.reduceNe, Int.reduceLT, Int.reduceLE] at hc)
      refine gye ?_ (hbw := by exact hb11); refine o1 (fdb ti31 ?_); refine gye ?_ (hbw := by exact hb11); refine o1 (ldb ti3 ?_); refine gye ?_ (hbw := by exact hb11); refine o1 (fdb ti31 ?_); refine gye ?_ (hbw := by exact hb11)
      refine o1 (ldb ti3 ?_); refine gye ?_ (hbw := by exact hb11); refine o1 (ieq ?_); exact hK [_, _, _, _, _] rfl rfl
    case h2 =>
      intro hb11 hK; refine gno ?_ (hbw := by exact hb11); refine gno ?_ (hbw := by exact hb11); refine gno ?_ (hbw := by exact hb11); refine gno ?_ (hbw := by exact hb11); refine gno ?_ (hbw := by exact hb11); exact hK [_, _, _, _, _] rfl
    refine o1 (mv ?_)
    apply ops_and (yt := 22) (d := 17) 5 rfl rfl rfl (.none rfl) rfl rfl
    case h1 =>
      intro hb25 hK
      have hc := hb25; (try simp only [nrm, Int.reduceEq, Int.reduceNe, Int.reduceLT, Int.reduceLE] at hc)
      refine gye ?_ (hbw := by exact hb25); refine o1 (fdb ti31 ?_); refine gye ?_ (hbw := by exact hb25); refine o1 (ldb ti9 ?_); refine gye ?_ (hbw := by exact hb25); refine o1 (fdb ti31 ?_); refine gye ?_ (hbw := by exact hb25)
      refine o1 (ldb ti9 ?_); refine gye ?_ (hbw := by exact hb25); refine o1 (seq1 ?_); exact hK [_, _, _, _, _] rfl rfl
    case h2 =>
      intro hb25 hK; refine gno ?_ (hbw := by exact hb25); refine gno ?_ (hbw := by exact hb25); refine gno ?_ (hbw := by exact hb25); refine gno ?_ (hbw := by exact hb25); refine gno ?_ (hbw := by exact hb25); exact hK [_, _, _, _, _] rfl
    refine o1 (mv ?_)
    apply ops_and (yt := 29) (d := 24) 5 rfl rfl rfl (.none rfl) rfl rfl
    case h1 =>
      intro hb39 hK
      have hc := hb39; (try simp only [nrm, Int.reduceEq, Int.reduceNe, Int.reduceLT, Int.reduceLE] at hc)
      refine gye ?_ (hbw := by exact hb39); refine o1 (fdb ti31 ?_); refine gye ?_ (hbw := by exact hb39); refine o1 (ldb ti28 ?_); refine gye ?_ (hbw := by exact hb39); refine o1 (fdb ti31 ?_); refine gye ?_ (hbw := by exact hb39)
      refine o1 (ldb ti28 ?_); refine gye ?_ (hbw := by exact hb39); refine oc (cv ca52 rfl rfl (hq1) (fir (fir (fir .nil))) ?_); exact hK [_, _, _, _, _] rfl rfl
    case h2 =>
      intro hb39 hK; refine gno ?_ (hbw := by exact hb39); refine gno ?_ (hbw := by exact hb39); refine gno ?_ (hbw := by exact hb39); refine gno ?_ (hbw := by exact hb39); refine gno ?_ (hbw := by exact hb39); exact hK [_, _, _, _, _] rfl
    refine o1 (mv ?_)
    apply ops_and (yt := 36) (d := 31) 5 rfl rfl rfl (.none rfl) rfl rfl
    case h1 =>
      intro hb53 hK
      have hc := hb53; (try simp only [nrm, Int.reduceEq, Int.reduceNe, Int.reduceLT, Int.reduceLE] at hc)
      refine gye ?_ (hbw := by exact hb53); refine o1 (fdb ti31 ?_); refine gye ?_ (hbw := by exact hb53); refine o1 (ldb ti29 ?_); refine gye ?_ (hbw := by exact hb53); refine o1 (fdb ti31 ?_); refine gye ?_ (hbw := by exact hb53)
      refine o1 (ldb ti29 ?_); refine gye ?_ (hbw := by exact hb53); refine oc (cv ca54 rfl rfl (hq2) (fir (fir (fir .nil))) ?_); exact hK [_, _, _, _, _] rfl rfl
    case h2 =>
      intro hb53 hK; refine gno ?_ (hbw := by exact hb53); refine gno ?_ (hbw := by exact hb53); refine gno ?_ (hbw := by exact hb53); refine gno ?_ (hbw := by exact hb53); refine gno ?_ (hbw := by exact hb53); exact hK [_, _, _, _, _] rfl
    refine o1 (asg ?_); refine nx ?_; refine runs_ret ?_; refine fin_ret ?_; refine fin_d1 rfl rfl ?_
    rfl
end Go.Proofs.YtneaancanfpdhaaGreatDoor
namespace Go.Proofs.YtneaancanfpdhaaGreatDoor
open Go Go.Vd Go.RowKit
attribute [local irreducible] Runs OpsR OpR FloatR AnyR AnyO
variable {gl : Nat → List D}
theorem succs_spec : ∀ (n : Nat) (k : Int) (s : ByteArray) (args : List Lvl), (Lvl.mk k s args).size ≤ n → (Lvl.mk k s args).size ≤ 1099511627776 →
    TriD Tryz.prog gl 134 [(Lvl.mk k s args).d] (· = .v (.int .i64 (Lvl.mk k s args).succs)) := by
  intro n
  induction n with
  | zero => intro k s args h; simp [Lvl.size] at h
  | succ n ih =>
    intro k s args hn hb
    have hsz : sizes args ≤ n := by simp [Lvl.size] at hn; omega
    have hlen := lvls_len args
    have hlb := lvls_size args
    have hsl := succsL_le args
    simp only [Lvl.size] at hb
    have hk1 : (0 : Int) ≤ (if k = 1 then 1 else 0) ∧ (if k = 1 then (1 : Int) else 0) ≤ 1 := by split <;> omega
    refine triD_of_runs Tryz.func134 rfl Tryz.ntmps134 (rs := [.tmp 2]) rfl rfl rfl ?_
    refine sr ?_; refine oc (T := fun _ => False) (bx ti45 ?_ (hl := by simp only [List.length_cons, List.length_nil, Nat.reduceAdd]; rfl)); refine o1 (asg ?_); refine nx ?_; refine sr ?_; refine o1 (asg ?_); refine nx ?_; refine runs_seq ?_
    refine sr ?_; refine o1 (fdb ti45 ?_); refine o1 (ldb ti3 ?_); refine o1 (ieq ?_); refine nx ?_; refine kp [7, 3, 1] ?_
    apply runs_cut_c (ι := Unit) (fun _ => [(3, int (if k = 1 then 1 else 0))]) [1] (fun _ => True)
    case hk => exact rfl
    case h1 =>
      refine cdf (fun h2 => ?_) (fun h2 => ?_)
      · (try simp only [nrm, Int.reduceEq, Int.reduceNe, Int.reduceLT, Int.reduceLE] at h2)
        refine runs_skip ?_; refine seq_back ?_; refine back_i (()) rfl ?_ ?_
        · trivial
        · refine mo ?_ (slx rfl (by exact Fit.of_eq (by simp only [h2, if_true, if_false]; rfl)) (sly slz))
          repeat (first | exact boz | refine boc ?_)
      (try simp only [nrm, Int.reduceEq, Int.reduceNe, Int.reduceLT, Int.reduceLE] at h2); refine runs_region ?_; refine o1 (asg ?_); refine ops_nil ?_; refine seq_back ?_; refine back_i (()) rfl ?_ ?_
      · trivial
      · refine mo ?_ (slx rfl (by exact Fit.of_eq (by simp only [h2, if_true, if_false]; rfl)) (sly slz))
        repeat (first | exact boz | refine boc ?_)
    case h2 =>
      rintro _ hcut
      try dsimp only at hcut
      refine kp [3, 1] ?_; refine runs_seq ?_; refine sr ?_; refine o1 (asg ?_); refine nx ?_; refine runs_block ?_
      apply runs_loop_c (ι := Nat) (fun i => [(4, int i), (3, int ((if k = 1 then 1 else 0) + (succsL (args.take i) : Nat)))]) [1] (fun i => i ≤ args.length) (fun i => args.length - i) (0)
      case hk => exact rfl
      case hI =>
        exact Nat.zero_le _
      case hm =>
        refine mo ?_ (sly (slx rfl (by exact Fit.of_eq (by simp [succsL]; rfl)) (sly slz)))
        repeat (first | exact boz | refine boc ?_)
      case h =>
        rintro i hinv
        try dsimp only at hinv
        refine kp [4, 3, 1] ?_; refine runs_seq ?_; refine sr ?_; refine o1 (mv ?_); refine o1 (fdb ti45 ?_); refine o1 (ldb ti28 ?_); refine o1 (le1 us28 ?_); refine o1 (ilt ?_); refine nx ?_; refine cdf (fun h5 => ?_) (fun h5 => ?_)
        · (try simp only [nrm, Int.reduceEq, Int.reduceNe, Int.reduceLT, Int.reduceLE] at h5)
          refine runs_exit ?_; refine seq_exit ?_; refine seq_exit ?_; refine inb_exit ?_; refine seq_normal ?_; refine kp [3] ?_; refine sr ?_; refine o1 (mv ?_); refine o1 (asg ?_); refine nx ?_; refine runs_ret ?_; refine fin_ret ?_
          refine fin_d1 rfl rfl ?_
          rw [List.take_of_length_le (by omega)]
          simp only [Lvl.succs]
          split <;> rfl
        (try simp only [nrm, Int.reduceEq, Int.reduceNe, Int.reduceLT, Int.reduceLE] at h5); refine runs_skip ?_; refine seq_normal ?_; refine runs_seq ?_; refine runs_block ?_; refine kp [4, 3, 1] ?_
        obtain ⟨k', s', a', hget⟩ := lvl_get (show i < args.length by omega)
        have hsz' := size_get hget
        have hst := succsL_take_le args (i + 1)
        have hst1 := succsL_take hget
        refine runs_region ?_; refine o1 (mv ?_); refine o1 (fdb ti45 ?_); refine o1 (ldb ti28 ?_); refine o1 (mv ?_); refine o1 (ixs us28 te28 ?_ (he := by exact (lvl_at hget))); refine o1 (ldc ti45 ?_)
        refine oc (cv ca134 rfl rfl (ih k' s' a' (by omega) (by omega)) (fid .nil) ?_); refine o1 (iad ?_); refine o1 (asg ?_); refine ops_nil ?_; refine inb_normal ?_; refine seq_normal ?_; refine kp [3, 4, 1] ?_; refine runs_region ?_
        refine o1 (mv ?_); refine o1 (iad ?_); refine o1 (asg ?_); refine ops_nil ?_; refine seq_back ?_; refine back_i (i + 1) rfl ?_ ?_
        · exact ⟨by omega, by omega⟩
        · refine mo ?_ (sly (slx rfl (by exact Fit.of_eq (by rw [succsL_take hget]; simp only [int, Int.natCast_add, ← Int.add_assoc]; rfl)) (sly slz)))
          repeat (first | exact boz | refine boc ?_)
def p3 (i : Nat) : Nat := 3 ^ i
theorem p3_succ (i : Nat) : p3 (i + 1) = p3 i * 3 := by simp [p3, Nat.pow_succ]
theorem p3_le {i : Nat} (h : i ≤ 6) : 1 ≤ p3 i ∧ p3 i ≤ 729 := by
  rcases (show i = 0 ∨ i = 1 ∨ i = 2 ∨ i = 3 ∨ i = 4 ∨ i = 5 ∨ i = 6 by omega) with rfl | rfl | rfl | rfl | rfl | rfl | rfl <;> decide
def dv (k i : Nat) : Nat := k / 3 ^ i
theorem dv_le (k i : Nat) : dv k i ≤ k := Nat.div_le_self _ _
theorem dv_succ (k i : Nat) : dv k (i + 1) = dv k i / 3 := by unfold dv; rw [Nat.pow_succ, ← Nat.div_div_eq_div_mul]
theorem dv_zero (k : Nat) : dv k 0 = k := by unfold dv; rw [Nat.pow_zero, Nat.div_one]
theorem third_at (big : Int) (r : Nat) : [[D.v (.int .i64 0)], [D.v (.int .i64 1)], [D.v (.int .i64 big)]][((r : Int) % 3).toNat]? = some [D.v (.int .i64 (third big r))] := by
  have e : ((r : Int) % 3).toNat = r % 3 := by omega
  have : r % 3 < 3 := Nat.mod_lt _ (by omega)
  rw [e]
  unfold third
  rcases (show r % 3 = 0 ∨ r % 3 = 1 ∨ r % 3 = 2 by omega) with h | h | h <;> simp [h]
theorem digs_all {big : Int} (h0 : 0 ≤ big) (h1 : big ≤ 1099511627776) {k n : Nat} : ∀ d ∈ digs big k n, -1099511627776 ≤ d ∧ d ≤ 1099511627776 := fun d hd => by
  unfold digs at hd
  obtain ⟨j, _, rfl⟩ := List.mem_map.1 hd
  exact third_bound h0 h1 _
theorem rleq_spec (a b : Lev) (hps : (a.ps b).length ≤ 6) (hsa : a.size ≤ 4000000) (hsb : b.size ≤ 4000000) :
    TriD Tryz.prog gl 116 [a.toLvl.d, b.toLvl.d] (· = .v (.bool (refLeq a b))) := by
  have hla := a.succs_le
  have hlb := b.succs_le
  have hza := a.size_toLvl
  have hzb := b.size_toLvl
  have hpa := a.params_toLvl []
  have hpb := b.params_toLvl (a.params [])
  have hSa := a.succs_toLvl
  have hSb := b.succs_toLvl
  have hplen := a.toLvl.params_len []
  have hbig : 0 ≤ a.big b ∧ a.big b ≤ 1099511627776 := by unfold Lev.big; omega
  have hWa := fun k => worth_spec (gl := gl) (a.ps b) (digs (a.big b) k (a.ps b).length) (by rw [digs_len]; exact Nat.le_refl _) (by omega) (digs_all hbig.1 hbig.2) a (by omega)
  have hWb := fun k => worth_spec (gl := gl) (a.ps b) (digs (a.big b) k (a.ps b).length) (by rw [digs_len]; exact Nat.le_refl _) (by omega) (digs_all hbig.1 hbig.2) b (by omega)
  have hsl := strs_len (a.ps b)
  rw [hpa] at hplen
  simp only [List.length_nil, Nat.zero_add] at hplen
  obtain ⟨ka, na, aa, hXa⟩ := Lvl.case a.toLvl
  obtain ⟨kb, nb, ab, hXb⟩ := Lvl.case b.toLvl
  rw [hXa] at hpa hza hSa hWa hplen
  rw [hXb] at hpb hzb hSb hWb
  rw [hXa, hXb]
  have hp1 := params_spec (gl := gl) _ ka na aa [] (Nat.le_refl _) (by simp; omega)
  have hp2 := params_spec (gl := gl) _ kb nb ab (a.params []) (Nat.le_refl _) (by omega)
  rw [hpa] at hp1
  rw [hpb] at hp2
  have hs1 := succs_spec (gl := gl) _ ka na aa (Nat.le_refl _) (by omega)
  have hs2 := succs_spec (gl := gl) _ kb nb ab (Nat.le_refl _) (by omega)
  rw [hSa] at hs1
  rw [hSb] at hs2
  have hpsdef : b.params (a.params []) = a.ps b := rfl
  rw [hpsdef] at hp2
  have hbe : (2 : Int) + (a.succs : Int) + (b.succs : Int) = a.big b := rfl
  refine triD_of_runs Tryz.func116 rfl Tryz.ntmps116 (rs := [.tmp 4]) rfl rfl rfl ?_
  refine sr ?_; refine oc (T := fun _ => False) (bx ti45 ?_ (hl := by simp only [List.length_cons, List.length_nil, Nat.reduceAdd]; rfl))
  refine oc (T := fun _ => False) (bx ti45 ?_ (hl := by simp only [List.length_cons, List.length_nil, Nat.reduceAdd]; rfl)); refine o1 (asg ?_); refine nx ?_; refine runs_seq ?_; refine runs_nilrow 9 1 rfl ?_
  refine a_start ?_ (hm := by exact mixed); refine A1 0 rfl (ldb ti45 ⟨_, rfl, ?_⟩); refine A1 1 rfl (ldb ti45 ⟨_, rfl, ?_⟩); refine A2 2 rfl (ck ca59 rfl rfl (hp1) [2] rfl (bon .nil) (fid (.cons (.nil rfl) .nil)) ?_)
  refine A2 3 rfl (ck ca59 rfl rfl (hp2) [2] rfl (bor .nil) (fid (fir .nil)) ?_); refine A1 4 rfl (asg ⟨_, rfl, ?_⟩); refine a_end ?_; refine seq_normal ?_; refine runs_seq ?_; refine kp [5, 3, 2] ?_; refine a_start ?_ (hm := by exact mixed)
  refine A1 0 rfl (ldb ti45 ⟨_, rfl, ?_⟩); refine A1 3 rfl (ldb ti45 ⟨_, rfl, ?_⟩); refine A2 1 rfl (cv ca134 rfl rfl (hs1) (fid .nil) ?_); refine A1 2 rfl (iad ⟨_, rfl, ?_⟩); refine A2 4 rfl (cv ca134 rfl rfl (hs2) (fid .nil) ?_)
  refine A1 5 rfl (iad ⟨_, rfl, ?_⟩); refine A1 6 rfl (asg ⟨_, rfl, ?_⟩); refine a_end ?_; refine seq_normal ?_; refine runs_seq ?_; refine kp [6, 5, 3, 2] ?_
  rw [hbe]
  refine runs_region ?_; refine o1 (mv ?_)
  refine oc (T := fun _ => False) (op_lit sl153 [.const (.int .i64 0), .const (.int .i64 1), .tmp 24] ti3 rfl rfl rfl rfl rfl rfl rfl (by decide) (by decide) (by decide) (by simp only [List.length_cons, List.length_nil, Nat.reduceAdd]; rfl) rfl ?_)
  refine o1 (asg ?_); refine nx ?_; refine sr ?_; refine o1 (asg ?_); refine nx ?_; refine runs_seq ?_; refine sr ?_; refine o1 (asg ?_); refine nx ?_; refine runs_block ?_; refine kp [9, 8, 7, 5, 3, 2] ?_
  apply runs_loop_c (ι := Nat) (fun i => [(9, int i), (8, int (p3 i))]) [7, 5, 3, 2] (fun i => i ≤ (a.ps b).length) (fun i => (a.ps b).length - i) (0)
  case hk => exact rfl
  case hI =>
    exact Nat.zero_le _
  case hm =>
    refine mo ?_ (sly (sly (sly (sly (sly (sly slz))))))
    repeat (first | exact boz | refine boc ?_ | refine bor ?_)
  case h =>
    rintro i hinv
    try dsimp only at hinv
    refine kp [9, 8, 7, 5, 3, 2] ?_; refine runs_seq ?_; refine sr ?_; refine o1 (mv ?_); refine o1 (mv ?_); refine o1 (le2 us42 ?_); refine o1 (ilt ?_); refine nx ?_; refine cd (fun h6 => ?_) (fun h6 => ?_)
    · (try simp only [nrm, Int.reduceEq, Int.reduceNe, Int.reduceLT, Int.reduceLE] at h6)
      refine runs_skip ?_; refine seq_normal ?_; refine runs_seq ?_; refine runs_block ?_; refine kp [9, 8, 7, 5, 3, 2] ?_
      have hp3 := p3_le (i := i) (by omega)
      refine runs_region ?_; refine o1 (mv ?_); refine o1 (fl_mul rfl rfl rfl (by omega) ?_); refine o1 (asg ?_); refine ops_nil ?_; refine inb_normal ?_; refine seq_normal ?_; refine runs_region ?_; refine o1 (mv ?_); refine o1 (iad ?_)
      refine o1 (asg ?_); refine ops_nil ?_; refine seq_back ?_; refine back_i (i + 1) rfl ?_ ?_
      · exact ⟨by omega, by omega⟩
      · refine mo ?_ (sly (slx rfl (by exact Fit.of_eq (by rw [p3_succ]; rfl)) (sly (sly (sly (sly slz))))))
        repeat (first | exact boz | refine boc ?_ | refine bor ?_)
    (try simp only [nrm, Int.reduceEq, Int.reduceNe, Int.reduceLT, Int.reduceLE] at h6); refine runs_exit ?_; refine seq_exit ?_; refine seq_exit ?_; refine inb_exit ?_; refine seq_normal ?_; refine runs_seq ?_; refine runs_seq ?_
    refine kp [8, 7, 5, 3, 2] ?_
    have hi : i = (a.ps b).length := by omega
    subst hi
    have hp3 := p3_le hps
    refine runs_region ?_; refine o1 (asg ?_); refine nx ?_; refine runs_block ?_
    apply runs_loop_c (ι := Nat) (fun k => [(10, int k)]) [8, 7, 5, 3, 2] (fun k => k ≤ p3 (a.ps b).length ∧ ∀ j, j < k → refAt a b j) (fun k => p3 (a.ps b).length - k) (0)
    case hk => exact rfl
    case hI =>
      exact ⟨Nat.zero_le _, fun j hj => by omega⟩
    case hm =>
      refine mo ?_ (sly (sly (sly (sly (sly (sly slz))))))
      repeat (first | exact boz | refine boc ?_ | refine bor ?_)
    case h =>
      rintro k hinv
      try dsimp only at hinv
      refine kp [10, 8, 7, 5, 3, 2] ?_; refine runs_seq ?_; refine sr ?_; refine o1 (mv ?_); refine o1 (mv ?_); refine o1 (ilt ?_); refine nx ?_; refine cdf (fun h10 => ?_) (fun h10 => ?_)
      · (try simp only [nrm, Int.reduceEq, Int.reduceNe, Int.reduceLT, Int.reduceLE] at h10)
        refine runs_exit ?_; refine seq_exit ?_; refine seq_exit ?_; refine inb_exit ?_; refine seq_normal ?_; refine kp [] ?_; refine sr ?_; refine o1 (asg ?_); refine nx ?_; refine runs_ret ?_; refine fin_ret ?_; refine fin_d1 rfl rfl ?_
        have : refLeq a b = true := by
          unfold refLeq
          exact decide_eq_true fun j hj => hinv.2 j (by have hj' : j < p3 _ := hj; omega)
        rw [this]
      (try simp only [nrm, Int.reduceEq, Int.reduceNe, Int.reduceLT, Int.reduceLE] at h10); refine runs_skip ?_; refine seq_normal ?_; refine runs_seq ?_; refine runs_block ?_; refine runs_seq ?_
      have houter := hinv
      refine runs_region ?_; refine o1 (asg ?_); refine nx ?_; refine sr ?_; refine o1 (mv ?_); refine o1 (asg ?_); refine nx ?_; refine runs_seq ?_; refine kp [12, 11, 10, 8, 7, 5, 3, 2] ?_; refine sr ?_; refine o1 (asg ?_); refine nx ?_
      refine runs_block ?_; refine runs_nilrow 3 1 rfl ?_
      apply runs_loop_o (ι := Nat) (fun i => [(13, int i), (12, int (dv k i)), (11, .own 4 1 (ints (digs (a.big b) k i)))]) (fun i => [.cells [.d (.v (.int .i64 ka)), .d (.v (.string na)), .d (.sl 3 (lvls aa))] 45, .cells [.d (.v (.int .i64 kb)), .d (.v (.string nb)), .d (.sl 3 (lvls ab))] 45, .row 9 1, .row 3 1, .row 3 1]) [10, 8, 7, 5, 3, 2] (fun i => i ≤ (a.ps b).length) (fun i => (a.ps b).length - i) (0) ([0, 1, 2, 3, 4])
      case hk => exact rfl
      case hI =>
        exact Nat.zero_le _
      case hm =>
        refine mo ?_ (sly (slx rfl (by exact Fit.of_eq (by rw [dv_zero]; rfl)) (slx rfl (by exact .nil rfl) (sly (sly (sly (sly (sly (sly slz)))))))))
        repeat (first | exact boz | refine boc ?_ | refine bor ?_ | refine bon ?_)
      case h =>
        rintro i hinv
        try dsimp only at hinv
        refine kp [13, 12, 11, 10, 8, 7, 5, 3, 2] ?_; refine runs_seq ?_; refine sr ?_; refine o1 (mv ?_); refine o1 (mv ?_); refine o1 (le2 us42 ?_); refine o1 (ilt ?_); refine nx ?_; refine cd (fun h15 => ?_) (fun h15 => ?_)
        · (try simp only [nrm, Int.reduceEq, Int.reduceNe, Int.reduceLT, Int.reduceLE] at h15)
          refine runs_skip ?_; refine seq_normal ?_; refine runs_seq ?_; refine runs_block ?_; refine runs_seq ?_; refine kp [13, 12, 11, 10, 8, 7, 5, 3, 2] ?_
          have hil := ints_len (digs (a.big b) k i)
          have hdl := digs_len (a.big b) k i
          have hk3 := dv_le k i
          refine runs_region ?_; refine o1 (mv ?_); refine o1 (mv ?_); refine o1 (mv ?_); refine o1 (f_rem ?_); refine o1 (ixo us153 te153 ?_ (he := by exact (third_at (a.big b) (dv k i)))); refine o1 (ldc ti3 ?_)
          refine oc (T := fun _ => False) (op_lit sl153 [.tmp 51] ti3 rfl rfl rfl rfl rfl rfl rfl (by decide) (by decide) (by decide) (by simp only [List.length_cons, List.length_nil, Nat.reduceAdd]; rfl) rfl ?_)
          refine oc (op_append sl153 rfl rfl rfl rfl rfl rfl rfl (.inl rfl) (by decide) (by simp) (by first | decide | (simp only [maxLen, List.length_cons, List.length_nil, List.length_append, List.length_map]; omega) | omega) rfl rfl rfl ?_)
          refine o1 (asg ?_); refine nx ?_; refine kp [11, 13, 12, 10, 8, 7, 5, 3, 2] ?_; refine runs_region ?_; refine o1 (mv ?_); refine o1 (fl_quo rfl rfl rfl (by omega) ?_); refine o1 (asg ?_); refine ops_nil ?_; refine inb_normal ?_
          refine seq_normal ?_; refine runs_region ?_; refine o1 (mv ?_); refine o1 (iad ?_); refine o1 (asg ?_); refine ops_nil ?_; refine seq_back ?_; refine back_c (i + 1) rfl ?_ ([0, 1, 2, 3, 4]) ?_
          · exact ⟨by omega, by omega⟩
          · refine mo ?_ (sly (slx rfl (by exact Fit.of_eq (by rw [dv_succ]; rfl)) (slx rfl (by exact Fit.of_eq (by rw [digs_succ, ← ints_app]; rfl)) (sly (sly (sly (sly (sly (sly slz)))))))))
            repeat (first | exact boz | refine boc ?_ | refine bor ?_)
        (try simp only [nrm, Int.reduceEq, Int.reduceNe, Int.reduceLT, Int.reduceLE] at h15); refine runs_exit ?_; refine seq_exit ?_; refine seq_exit ?_; refine inb_exit ?_; refine seq_normal ?_; refine runs_seq ?_
        refine kp [11, 10, 8, 7, 5, 3, 2] ?_
        have hi : i = (a.ps b).length := by omega
        subst hi
        have hba := a.worth_bound (σ := pval (a.ps b) (digs (a.big b) k (a.ps b).length)) (B := 1099511627776) (by omega) (fun s => pval_bound (by omega) (digs_all hbig.1 hbig.2))
        refine a_start ?_ (hm := by exact mixed); refine A1 0 rfl (ldb ti45 ⟨_, rfl, ?_⟩); refine A1 1 rfl (mv ⟨_, rfl, ?_⟩); refine A1 2 rfl (mv ⟨_, rfl, ?_⟩); refine A1 4 rfl (ldb ti45 ⟨_, rfl, ?_⟩); refine A1 5 rfl (mv ⟨_, rfl, ?_⟩)
        refine A1 6 rfl (mv ⟨_, rfl, ?_⟩); refine A2 3 rfl (cv ca135 rfl rfl (hWa k) (fid (fid (fid .nil))) ?_); refine A2 7 rfl (cv ca135 rfl rfl (hWb k) (fid (fid (fid .nil))) ?_); refine A1 8 rfl (igt ⟨_, rfl, ?_⟩); refine a_end ?_
        refine seq_normal ?_; refine cd (fun h19 => ?_) (fun h19 => ?_)
        · (try simp only [nrm, Int.reduceEq, Int.reduceNe, Int.reduceLT, Int.reduceLE] at h19)
          refine kp [] ?_; refine sr ?_; refine o1 (asg ?_); refine nx ?_; refine runs_ret ?_; refine inb_ret ?_; refine seq_ret ?_; refine seq_ret ?_; refine inb_ret ?_; refine seq_ret ?_; refine fin_ret ?_; refine fin_d1 rfl rfl ?_
          have : refLeq a b = false := by
            unfold refLeq
            refine decide_eq_false fun hall => ?_
            have h5 := hall k (show k < p3 _ by omega)
            unfold refAt at h5
            omega
          rw [this]
        (try simp only [nrm, Int.reduceEq, Int.reduceNe, Int.reduceLT, Int.reduceLE] at h19); refine runs_skip ?_; refine inb_normal ?_; refine seq_normal ?_; refine kp [10, 8, 7, 5, 3, 2] ?_; refine runs_region ?_; refine o1 (mv ?_)
        refine o1 (iad ?_); refine o1 (asg ?_); refine ops_nil ?_; refine seq_back ?_; refine back_i (k + 1) rfl ?_ ?_
        · refine ⟨⟨by omega, fun j hj => ?_⟩, by omega⟩
          rcases Nat.lt_or_ge j k with h | h
          · exact houter.2 j h
          · obtain rfl : j = k := by omega
            exact h19
        · refine mo ?_ (sly (sly (sly (sly (sly (sly slz))))))
          repeat (first | exact boz | refine boc ?_ | refine bor ?_)
theorem rsame_spec (a b : Lev) (hps : (a.ps b).length ≤ 6) (hps2 : (b.ps a).length ≤ 6) (hsa : a.size ≤ 4000000) (hsb : b.size ≤ 4000000) :
    TriD Tryz.prog gl 95 [a.toLvl.d, b.toLvl.d] (· = .v (.bool (refLeq a b && refLeq b a))) := by
  have h1 := rleq_spec (gl := gl) a b hps hsa hsb
  have h2 := rleq_spec (gl := gl) b a hps2 hsb hsa
  obtain ⟨ka, na, aa, hXa⟩ := Lvl.case a.toLvl
  obtain ⟨kb, nb, ab, hXb⟩ := Lvl.case b.toLvl
  rw [hXa, hXb] at h1 h2 ⊢
  refine triD_of_runs Tryz.func95 rfl Tryz.ntmps95 (rs := [.tmp 4]) rfl rfl rfl ?_
  refine sr ?_; refine oc (T := fun _ => False) (bx ti45 ?_ (hl := by simp only [List.length_cons, List.length_nil, Nat.reduceAdd]; rfl))
  refine oc (T := fun _ => False) (bx ti45 ?_ (hl := by simp only [List.length_cons, List.length_nil, Nat.reduceAdd]; rfl)); refine o1 (asg ?_); refine nx ?_; refine sr ?_; refine o1 (ldb ti45 ?_); refine o1 (ldb ti45 ?_)
  refine oc (cv ca116 rfl rfl (h1) (fid (fid .nil)) ?_); refine o1 (asg ?_); refine nx ?_; refine kp [5, 3, 2] ?_; refine sr ?_; refine o1 (ldb ti45 ?_); refine o1 (ldb ti45 ?_); refine oc (cv ca116 rfl rfl (h2) (fid (fid .nil)) ?_)
  refine o1 (asg ?_); refine nx ?_; refine kp [6, 5] ?_; refine sr ?_; refine o1 (mv ?_); refine o1 (mv ?_)
  apply ops_and (yt := 15) (d := 14) 1 rfl rfl rfl (.none rfl) rfl rfl
  case h1 =>
    intro hb3 hK
    have hc := hb3; (try simp only [nrm, Int.reduceEq, Int.reduceNe, Int.reduceLT, Int.reduceLE] at hc)
    refine gye ?_ (hbw := by exact hb3); refine o1 (mv ?_); exact hK [_] rfl rfl
  case h2 =>
    intro hb3 hK; refine gno ?_ (hbw := by exact hb3); exact hK [_] rfl
  refine o1 (asg ?_); refine nx ?_; refine runs_ret ?_; refine fin_ret ?_; refine fin_d1 rfl rfl ?_
  rfl
end Go.Proofs.YtneaancanfpdhaaGreatDoor
namespace Go.Proofs.YtneaancanfpdhaaGreatDoor
open Go Go.Vd Go.RowKit
attribute [local irreducible] Runs OpsR OpR FloatR AnyR AnyO
variable {gl : Nat → List D}
theorem sameLvl_spec : ∀ (n : Nat) (k : Int) (s : ByteArray) (args : List Lvl) (k2 : Int) (s2 : ByteArray) (args2 : List Lvl), (Lvl.mk k s args).size ≤ n → (Lvl.mk k s args).size ≤ 1099511627776 →
    TriD Tryz.prog gl 94 [(Lvl.mk k s args).d, (Lvl.mk k2 s2 args2).d] (· = .v (.bool (Lvl.same (.mk k s args) (.mk k2 s2 args2)))) := by
  intro n
  induction n with
  | zero => intro k s args k2 s2 args2 h; simp [Lvl.size] at h
  | succ n ih =>
    intro k s args k2 s2 args2 hn hb
    have hsz : sizes args ≤ n := by simp [Lvl.size] at hn; omega
    have hlen := lvls_len args
    have hlen2 := lvls_len args2
    have hlb := lvls_size args
    simp only [Lvl.size] at hb
    refine triD_of_runs Tryz.func94 rfl Tryz.ntmps94 (rs := [.tmp 4]) rfl rfl rfl ?_
    refine sr ?_; refine oc (T := fun _ => False) (bx ti45 ?_ (hl := by simp only [List.length_cons, List.length_nil, Nat.reduceAdd]; rfl))
    refine oc (T := fun _ => False) (bx ti45 ?_ (hl := by simp only [List.length_cons, List.length_nil, Nat.reduceAdd]; rfl)); refine o1 (asg ?_); refine nx ?_; refine runs_seq ?_; refine sr ?_; refine o1 (fdb ti45 ?_); refine o1 (ldb ti3 ?_)
    refine o1 (fdb ti45 ?_); refine o1 (ldb ti3 ?_); refine o1 (ine ?_); refine o1 (mv ?_)
    apply ops_or (yt := 17) (d := 12) 5 rfl rfl rfl (.none rfl) rfl rfl
    case h1 =>
      intro hb10 hK
      have hc := hb10; (try simp only [nrm, Int.reduceEq, Int.reduceNe, Int.reduceLT, Int.reduceLE] at hc)
      refine gye ?_ (hbw := by exact hb10); refine o1 (fdb ti45 ?_); refine gye ?_ (hbw := by exact hb10); refine o1 (ldb ti9 ?_); refine gye ?_ (hbw := by exact hb10); refine o1 (fdb ti45 ?_); refine gye ?_ (hbw := by exact hb10)
      refine o1 (ldb ti9 ?_); refine gye ?_ (hbw := by exact hb10); refine o1 (sne ?_); exact hK [_, _, _, _, _] rfl rfl
    case h2 =>
      intro hb10 hK; refine gno ?_ (hbw := by exact hb10); refine gno ?_ (hbw := by exact hb10); refine gno ?_ (hbw := by exact hb10); refine gno ?_ (hbw := by exact hb10); refine gno ?_ (hbw := by exact hb10); exact hK [_, _, _, _, _] rfl
    refine o1 (mv ?_)
    apply ops_or (yt := 26) (d := 19) 7 rfl rfl rfl (.none rfl) rfl rfl
    case h1 =>
      intro hb24 hK
      have hc := hb24; (try simp only [nrm, Int.reduceEq, Int.reduceNe, Int.reduceLT, Int.reduceLE] at hc)
      refine gye ?_ (hbw := by exact hb24); refine o1 (fdb ti45 ?_); refine gye ?_ (hbw := by exact hb24); refine o1 (ldb ti28 ?_); refine gye ?_ (hbw := by exact hb24); refine o1 (le1 us28 ?_); refine gye ?_ (hbw := by exact hb24)
      refine o1 (fdb ti45 ?_); refine gye ?_ (hbw := by exact hb24); refine o1 (ldb ti28 ?_); refine gye ?_ (hbw := by exact hb24); refine o1 (le1 us28 ?_); refine gye ?_ (hbw := by exact hb24); refine o1 (ine ?_)
      exact hK [_, _, _, _, _, _, _] rfl rfl
    case h2 =>
      intro hb24 hK; refine gno ?_ (hbw := by exact hb24); refine gno ?_ (hbw := by exact hb24); refine gno ?_ (hbw := by exact hb24); refine gno ?_ (hbw := by exact hb24); refine gno ?_ (hbw := by exact hb24); refine gno ?_ (hbw := by exact hb24)
      refine gno ?_ (hbw := by exact hb24); exact hK [_, _, _, _, _, _, _] rfl
    refine nx ?_; refine cd (fun h1 => ?_) (fun h1 => ?_)
    · (try simp only [nrm, Int.reduceEq, Int.reduceNe, Int.reduceLT, Int.reduceLE] at h1)
      refine kp [] ?_; refine sr ?_; refine o1 (asg ?_); refine nx ?_; refine runs_ret ?_; refine seq_ret ?_; refine fin_ret ?_; refine fin_d1 rfl rfl ?_
      rw [Lvl.same_eq]
      rcases h1 with (h | h) | h
      · simp [h]
      · simp [h]
      · have : sameL args args2 = false := by
          cases hs : sameL args args2 with
          | false => rfl
          | true => exact absurd (by have := sameL_len hs; omega) h
        simp [this]
    (try simp only [nrm, Int.reduceEq, Int.reduceNe, Int.reduceLT, Int.reduceLE] at h1); refine runs_skip ?_; refine seq_normal ?_; refine runs_seq ?_; refine kp [3, 2] ?_; refine sr ?_; refine o1 (asg ?_); refine nx ?_; refine runs_block ?_
    apply runs_loop_c (ι := Nat) (fun i => [(5, int i)]) [3, 2] (fun i => i ≤ args.length ∧ sameL (args.take i) (args2.take i) = true) (fun i => args.length - i) (0)
    case hk => exact rfl
    case hI =>
      exact ⟨Nat.zero_le _, by simp [sameL]⟩
    case hm =>
      refine mo ?_ (sly (sly (sly slz)))
      repeat (first | exact boz | refine boc ?_)
    case h =>
      rintro i hinv
      try dsimp only at hinv
      refine kp [5, 3, 2] ?_; refine runs_seq ?_; refine sr ?_; refine o1 (mv ?_); refine o1 (fdb ti45 ?_); refine o1 (ldb ti28 ?_); refine o1 (le1 us28 ?_); refine o1 (ilt ?_); refine nx ?_; refine cdf (fun h4 => ?_) (fun h4 => ?_)
      · (try simp only [nrm, Int.reduceEq, Int.reduceNe, Int.reduceLT, Int.reduceLE] at h4)
        refine runs_exit ?_; refine seq_exit ?_; refine seq_exit ?_; refine inb_exit ?_; refine seq_normal ?_; refine kp [] ?_; refine sr ?_; refine o1 (asg ?_); refine nx ?_; refine runs_ret ?_; refine fin_ret ?_; refine fin_d1 rfl rfl ?_
        rw [Lvl.same_eq]; have h9 := hinv.2; rw [List.take_of_length_le (by omega), List.take_of_length_le (by omega)] at h9; simp [h9, h1]
      (try simp only [nrm, Int.reduceEq, Int.reduceNe, Int.reduceLT, Int.reduceLE] at h4); refine runs_skip ?_; refine seq_normal ?_; refine runs_seq ?_; refine runs_block ?_; refine runs_seq ?_; refine kp [5, 3, 2] ?_
      obtain ⟨k', s', a', hget⟩ := lvl_get (show i < args.length by omega); obtain ⟨k2', s2', a2', hget2⟩ := lvl_get (show i < args2.length by omega)
      have hsz' := size_get hget
      refine a_start ?_ (hm := by exact mixed); refine A1 0 rfl (fdb ti45 ⟨_, rfl, ?_⟩); refine A1 1 rfl (ldb ti28 ⟨_, rfl, ?_⟩); refine A1 2 rfl (mv ⟨_, rfl, ?_⟩); refine A1 3 rfl (ixs us28 te28 ⟨_, rfl, ?_⟩ (he := by exact (lvl_at hget)))
      refine A1 4 rfl (ldc ti45 ⟨_, rfl, ?_⟩); refine A1 5 rfl (fdb ti45 ⟨_, rfl, ?_⟩); refine A1 6 rfl (ldb ti28 ⟨_, rfl, ?_⟩); refine A1 7 rfl (mv ⟨_, rfl, ?_⟩); refine A1 8 rfl (ixs us28 te28 ⟨_, rfl, ?_⟩ (he := by exact (lvl_at hget2)))
      refine A1 9 rfl (ldc ti45 ⟨_, rfl, ?_⟩); refine A2 10 rfl (cv ca94 rfl rfl (ih k' s' a' k2' s2' a2' (by omega) (by omega)) (fid (fid .nil)) ?_); refine A1 11 rfl (asg ⟨_, rfl, ?_⟩); refine a_end ?_; refine seq_normal ?_
      refine kp [6, 5, 3, 2] ?_; refine sr ?_; refine o1 (mv ?_); refine o1 (f_not ?_); refine nx ?_; refine cd (fun h7 => ?_) (fun h7 => ?_)
      · (try simp only [nrm, Int.reduceEq, Int.reduceNe, Int.reduceLT, Int.reduceLE] at h7)
        refine kp [] ?_; refine sr ?_; refine o1 (asg ?_); refine nx ?_; refine runs_ret ?_; refine inb_ret ?_; refine seq_ret ?_; refine seq_ret ?_; refine inb_ret ?_; refine seq_ret ?_; refine fin_ret ?_; refine fin_d1 rfl rfl ?_
        rw [Lvl.same_eq]; rw [sameL_false hget hget2 h7]; simp
      (try simp only [nrm, Int.reduceEq, Int.reduceNe, Int.reduceLT, Int.reduceLE] at h7); refine runs_skip ?_; refine inb_normal ?_; refine seq_normal ?_; refine runs_region ?_; refine o1 (mv ?_); refine o1 (iad ?_); refine o1 (asg ?_)
      refine ops_nil ?_; refine seq_back ?_; refine back_i (i + 1) rfl ?_ ?_
      · exact ⟨⟨by omega, by rw [sameL_take hget hget2]; simp [hinv.2, h7]⟩, by omega⟩
      · refine mo ?_ (sly (sly (sly slz)))
        repeat (first | exact boz | refine boc ?_)
end Go.Proofs.YtneaancanfpdhaaGreatDoor
