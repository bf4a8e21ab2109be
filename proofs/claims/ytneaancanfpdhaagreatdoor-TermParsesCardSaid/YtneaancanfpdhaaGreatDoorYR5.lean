/-
  What is proved here: contracts of the reference's reader: nameByte, isName, token.
-/
import Derived.Test.YtneaancanfpdhaaGreatDoorYRead
import Derived.Test.YtneaancanfpdhaaGreatDoorYR1
set_option linter.unusedSimpArgs false
set_option linter.unusedVariables false
namespace Go.Proofs.YtneaancanfpdhaaGreatDoor
open Go Go.Vd Go.RowKit
attribute [local irreducible] Runs OpsR OpR FloatR AnyR
variable {gl : Nat → List D}

theorem nameByte_spec (c : Int) (first : Bool) : TriD Tryz.prog gl 114 [.v (.int .u8 c), .v (.bool first)] (· = .v (.bool (nameB c first))) := by
  refine triD_of_runs Tryz.func114 rfl Tryz.ntmps114 (rs := [.tmp 4]) rfl rfl rfl ?_
  refine sr ?_; refine o1 (asg ?_); refine nx ?_; refine sr ?_; refine o1 (mv ?_); refine o1 (ige ?_); refine o1 (mv ?_)
  apply ops_and (yt := 10) (d := 8) 2 rfl rfl rfl (.none rfl) rfl rfl
  case h1 =>
    intro hb5 hK
    have hc := hb5; (try simp only [nrm, Int.reduceEq, Int.reduceNe, Int.reduceLT, Int.reduceLE] at hc)
    refine gye ?_ (hbw := by exact hb5); refine o1 (mv ?_); refine gye ?_ (hbw := by exact hb5); refine o1 (ile ?_); exact hK [_, _] rfl rfl
  case h2 =>
    intro hb5 hK; refine gno ?_ (hbw := by exact hb5); refine gno ?_ (hbw := by exact hb5); exact hK [_, _] rfl
  refine o1 (mv ?_)
  apply ops_or (yt := 18) (d := 12) 6 rfl rfl rfl (.none rfl) rfl rfl
  case h1 =>
    intro hb12 hK
    have hc := hb12; (try simp only [nrm, Int.reduceEq, Int.reduceNe, Int.reduceLT, Int.reduceLE] at hc)
    refine gye ?_ (hbw := by exact hb12); refine o1 (mv ?_); refine gye ?_ (hbw := by exact hb12); refine o1 (ige ?_); refine gye ?_ (hbw := by exact hb12); refine o1 (mv ?_)
    apply ops_and (yt := 17) (d := 15) 2 rfl rfl rfl (.yes rfl rfl rfl hb12) rfl rfl
    case h1 =>
      intro hb19 hK
      have hc := hb19; (try simp only [nrm, Int.reduceEq, Int.reduceNe, Int.reduceLT, Int.reduceLE] at hc)
      refine gye ?_ (hbw := by exact hb19); refine o1 (mv ?_); refine gye ?_ (hbw := by exact hb19); refine o1 (ile ?_); exact hK [_, _] rfl rfl
    case h2 =>
      intro hb19 hK; refine gno ?_ (hbw := by exact hb19); refine gno ?_ (hbw := by exact hb19); exact hK [_, _] rfl
    exact hK [_, _, _, _] rfl rfl
  case h2 =>
    intro hb12 hK; refine gno ?_ (hbw := by exact hb12); refine gno ?_ (hbw := by exact hb12); refine gno ?_ (hbw := by exact hb12); refine gud ?_; refine gud ?_; refine gno ?_ (hbw := by exact hb12); exact hK [_, _, _, _, _, _] rfl
  refine o1 (mv ?_)
  apply ops_or (yt := 22) (d := 20) 2 rfl rfl rfl (.none rfl) rfl rfl
  case h1 =>
    intro hb28 hK
    have hc := hb28; (try simp only [nrm, Int.reduceEq, Int.reduceNe, Int.reduceLT, Int.reduceLE] at hc)
    refine gye ?_ (hbw := by exact hb28); refine o1 (mv ?_); refine gye ?_ (hbw := by exact hb28); refine o1 (ieq ?_); exact hK [_, _] rfl rfl
  case h2 =>
    intro hb28 hK; refine gno ?_ (hbw := by exact hb28); refine gno ?_ (hbw := by exact hb28); exact hK [_, _] rfl
  refine o1 (asg ?_); refine nx ?_; refine kp [5, 0, 1] ?_; refine sr ?_; refine o1 (mv ?_); refine o1 (mv ?_)
  apply ops_or (yt := 43) (d := 25) 18 rfl rfl rfl (.none rfl) rfl rfl
  case h1 =>
    intro hb2 hK
    have hc := hb2; (try simp only [nrm, Int.reduceEq, Int.reduceNe, Int.reduceLT, Int.reduceLE] at hc)
    refine gye ?_ (hbw := by exact hb2); refine o1 (mv ?_); refine gye ?_ (hbw := by exact hb2); refine o1 (f_not ?_); refine gye ?_ (hbw := by exact hb2); refine o1 (mv ?_)
    apply ops_and (yt := 42) (d := 28) 14 rfl rfl rfl (.yes rfl rfl rfl hb2) rfl rfl
    case h1 =>
      intro hb9 hK
      have hc := hb9; (try simp only [nrm, Int.reduceEq, Int.reduceNe, Int.reduceLT, Int.reduceLE] at hc)
      refine gye ?_ (hbw := by exact hb9); refine o1 (mv ?_); refine gye ?_ (hbw := by exact hb9); refine o1 (ige ?_); refine gye ?_ (hbw := by exact hb9); refine o1 (mv ?_)
      apply ops_and (yt := 33) (d := 31) 2 rfl rfl rfl (.yes rfl rfl rfl hb9) rfl rfl
      case h1 =>
        intro hb15 hK
        have hc := hb15; (try simp only [nrm, Int.reduceEq, Int.reduceNe, Int.reduceLT, Int.reduceLE] at hc)
        refine gye ?_ (hbw := by exact hb15); refine o1 (mv ?_); refine gye ?_ (hbw := by exact hb15); refine o1 (ile ?_); exact hK [_, _] rfl rfl
      case h2 =>
        intro hb15 hK; refine gno ?_ (hbw := by exact hb15); refine gno ?_ (hbw := by exact hb15); exact hK [_, _] rfl
      refine gye ?_ (hbw := by exact hb9); refine o1 (mv ?_)
      apply ops_or (yt := 37) (d := 35) 2 rfl rfl rfl (.yes rfl rfl rfl hb9) rfl rfl
      case h1 =>
        intro hb22 hK
        have hc := hb22; (try simp only [nrm, Int.reduceEq, Int.reduceNe, Int.reduceLT, Int.reduceLE] at hc)
        refine gye ?_ (hbw := by exact hb22); refine o1 (mv ?_); refine gye ?_ (hbw := by exact hb22); refine o1 (ieq ?_); exact hK [_, _] rfl rfl
      case h2 =>
        intro hb22 hK; refine gno ?_ (hbw := by exact hb22); refine gno ?_ (hbw := by exact hb22); exact hK [_, _] rfl
      refine gye ?_ (hbw := by exact hb9); refine o1 (mv ?_)
      apply ops_or (yt := 41) (d := 39) 2 rfl rfl rfl (.yes rfl rfl rfl hb9) rfl rfl
      case h1 =>
        intro hb30 hK
        have hc := hb30; (try simp only [nrm, Int.reduceEq, Int.reduceNe, Int.reduceLT, Int.reduceLE] at hc)
        refine gye ?_ (hbw := by exact hb30); refine o1 (mv ?_); refine gye ?_ (hbw := by exact hb30); refine o1 (ieq ?_); exact hK [_, _] rfl rfl
      case h2 =>
        intro hb30 hK; refine gno ?_ (hbw := by exact hb30); refine gno ?_ (hbw := by exact hb30); exact hK [_, _] rfl
      exact hK [_, _, _, _, _, _, _, _] rfl rfl
    case h2 =>
      intro hb9 hK; refine gno ?_ (hbw := by exact hb9); refine gno ?_ (hbw := by exact hb9); refine gno ?_ (hbw := by exact hb9); refine gud ?_; refine gud ?_; refine gno ?_ (hbw := by exact hb9); refine gno ?_ (hbw := by exact hb9)
      refine gud ?_; refine gud ?_; refine gno ?_ (hbw := by exact hb9); refine gno ?_ (hbw := by exact hb9); refine gud ?_; refine gud ?_; refine gno ?_ (hbw := by exact hb9); exact hK [_, _, _, _, _, _, _, _, _, _, _, _, _, _] rfl
    exact hK [_, _, _, _] rfl rfl
  case h2 =>
    intro hb2 hK; refine gno ?_ (hbw := by exact hb2); refine gno ?_ (hbw := by exact hb2); refine gno ?_ (hbw := by exact hb2); refine gud ?_; refine gud ?_; refine gud ?_; refine gud ?_; refine gud ?_; refine gud ?_; refine gud ?_
    refine gud ?_; refine gud ?_; refine gud ?_; refine gud ?_; refine gud ?_; refine gud ?_; refine gud ?_; refine gno ?_ (hbw := by exact hb2); exact hK [_, _, _, _, _, _, _, _, _, _, _, _, _, _, _, _, _, _] rfl
  refine o1 (asg ?_); refine nx ?_; refine runs_ret ?_; refine fin_ret ?_; refine fin_d1 rfl rfl ?_
  congr 2
  rw [Bool.eq_iff_iff]
  cases first <;> simp only [nameB, Bool.or_eq_true, Bool.and_eq_true, decide_eq_true_eq, Bool.not_eq_true', Bool.not_true, Bool.not_false, Bool.false_eq_true, Bool.true_eq_false, true_and, false_and, or_false, reduceCtorEq] <;> constructor <;> intro h <;> omega
theorem isName_spec (t : ByteArray) : TriD Tryz.prog gl 97 [.v (.string t)] (· = .v (.bool (isNameB t))) := by
  refine triD_of_runs Tryz.func97 rfl Tryz.ntmps97 (rs := [.tmp 2]) rfl rfl rfl ?_
  refine sr ?_; refine o1 (asg ?_); refine nx ?_; refine sr ?_; refine o1 (mv ?_); refine o1 (sne ?_); refine o1 (mv ?_)
  apply ops_and (yt := 8) (d := 5) 3 rfl rfl rfl (.none rfl) rfl rfl
  case h1 =>
    intro hb5 hK
    have hc := hb5; (try simp only [nrm, Int.reduceEq, Int.reduceNe, Int.reduceLT, Int.reduceLE] at hc)
    refine gye ?_ (hbw := by exact hb5); refine o1 (mv ?_)
    have hpos := size_pos_of_ne hc
    refine gye ?_ (hbw := by exact hb5); refine o1 (byt ut9 ?_); refine gye ?_ (hbw := by exact hb5); refine oc (cv ca114 rfl rfl (nameByte_spec (byteAt t (0 : Int).toNat) true) (fir (fir .nil)) ?_); exact hK [_, _, _] rfl rfl
  case h2 =>
    intro hb5 hK; refine gno ?_ (hbw := by exact hb5); refine gno ?_ (hbw := by exact hb5); refine gno ?_ (hbw := by exact hb5); exact hK [_, _, _] rfl
  refine o1 (asg ?_); refine nx ?_; refine runs_ret ?_; refine fin_ret ?_; refine fin_d1 rfl rfl ?_
  congr 2
  unfold isNameB
  rw [show (0 : Int).toNat = 0 from rfl]
  have e : (⟨#[]⟩ : ByteArray) = .empty := rfl
  rw [e]
  simp

theorem ws_yes {s : ByteArray} {i : Nat} (h : byteAt s i = 32 ∨ byteAt s i = 9 ∨ byteAt s i = 10) : wsB (byteAt s i) = true := by simpa [wsB] using h
theorem ws_no {s : ByteArray} {i : Nat} (h : ¬ (byteAt s i = 32 ∨ byteAt s i = 9 ∨ byteAt s i = 10)) : ¬ (i < s.size ∧ wsB (byteAt s i) = true) := by
  rintro ⟨_, h2⟩
  exact h (by simpa [wsB] using h2)

theorem token_spec (s : ByteArray) (p : Nat) (c a : Int) (hs : s.size ≤ 1099511627776) (hp : p ≤ s.size) :
    Tri Tryz.prog gl 82 [.cells [.d (.v (.string s)), .d (.v (.int .i64 p)), .d (.v (.int .i64 c)), .d (.v (.int .i64 a))] 71] [.blk 0 0]
      fun out ob' => out = .ret (.d (.tup [.v (.string (tokR s p).1), .v (.int .i64 (tokR s p).2.1), .v (.bool (tokR s p).2.2)])) ∧ ob' = [.cells [.d (.v (.string s)), .d (.v (.int .i64 p)), .d (.v (.int .i64 c)), .d (.v (.int .i64 a))] 71] := by
  refine triS_of_runs Tryz.func82 rfl Tryz.ntmps82 (rs := [.tmp 2, .tmp 3, .tmp 4]) rfl rfl rfl 1 rfl ?_
  refine sr ?_; refine o1 (asg ?_); refine o1 (asg ?_); refine o1 (asg ?_); refine nx ?_; refine sr ?_; refine o1 (mv ?_); refine o1 (ncb ?_); refine o1 (fdb ti71 ?_); refine o1 (ldb ti3 ?_); refine o1 (asg ?_); refine nx ?_
  refine runs_seq ?_; refine runs_block ?_; refine kp [5, 0] ?_
  apply runs_loop_c (ι := Nat) (fun i => [(5, int i)]) [0] (fun i => i ≤ s.size ∧ spanB wsB s p = spanB wsB s i) (fun i => s.size - i) (p)
  case hk => exact rfl
  case hI =>
    exact ⟨hp, rfl⟩
  case hm =>
    refine mo ?_ (sly (sly slz))
    repeat (first | exact boz | refine boc ?_)
  case h =>
    rintro i hinv
    try dsimp only at hinv
    refine kp [5, 0] ?_; refine runs_seq ?_; refine sr ?_; refine o1 (mv ?_); refine o1 (mv ?_); refine o1 (ncb ?_); refine o1 (fdb ti71 ?_); refine o1 (ldb ti9 ?_); refine o1 (le3 ut9 ?_); refine o1 (ilt ?_); refine o1 (mv ?_)
    apply ops_and (yt := 46) (d := 21) 25 rfl rfl rfl (.none rfl) rfl rfl
    case h1 =>
      intro hb15 hK
      have hc := hb15; (try simp only [nrm, Int.reduceEq, Int.reduceNe, Int.reduceLT, Int.reduceLE] at hc)
      refine gye ?_ (hbw := by exact hb15); refine o1 (mv ?_); refine gye ?_ (hbw := by exact hb15); refine o1 (ncb ?_); refine gye ?_ (hbw := by exact hb15); refine o1 (fdb ti71 ?_); refine gye ?_ (hbw := by exact hb15); refine o1 (ldb ti9 ?_)
      refine gye ?_ (hbw := by exact hb15); refine o1 (mv ?_); refine gye ?_ (hbw := by exact hb15); refine o1 (byt ut9 ?_); refine gye ?_ (hbw := by exact hb15); refine o1 (ieq ?_); refine gye ?_ (hbw := by exact hb15); refine o1 (mv ?_)
      apply ops_or (yt := 36) (d := 29) 7 rfl rfl rfl (.yes rfl rfl rfl hb15) rfl rfl
      case h1 =>
        intro hb30 hK
        have hc := hb30; (try simp only [nrm, Int.reduceEq, Int.reduceNe, Int.reduceLT, Int.reduceLE] at hc)
        refine gye ?_ (hbw := by exact hb30); refine o1 (mv ?_); refine gye ?_ (hbw := by exact hb30); refine o1 (ncb ?_); refine gye ?_ (hbw := by exact hb30); refine o1 (fdb ti71 ?_); refine gye ?_ (hbw := by exact hb30); refine o1 (ldb ti9 ?_)
        refine gye ?_ (hbw := by exact hb30); refine o1 (mv ?_); refine gye ?_ (hbw := by exact hb30); refine o1 (byt ut9 ?_); refine gye ?_ (hbw := by exact hb30); refine o1 (ieq ?_); exact hK [_, _, _, _, _, _, _] rfl rfl
      case h2 =>
        intro hb30 hK; refine gno ?_ (hbw := by exact hb30); refine gno ?_ (hbw := by exact hb30); refine gno ?_ (hbw := by exact hb30); refine gno ?_ (hbw := by exact hb30); refine gno ?_ (hbw := by exact hb30); refine gno ?_ (hbw := by exact hb30)
        refine gno ?_ (hbw := by exact hb30); exact hK [_, _, _, _, _, _, _] rfl
      refine gye ?_ (hbw := by exact hb15); refine o1 (mv ?_)
      apply ops_or (yt := 45) (d := 38) 7 rfl rfl rfl (.yes rfl rfl rfl hb15) rfl rfl
      case h1 =>
        intro hb48 hK
        have hc := hb48; (try simp only [nrm, Int.reduceEq, Int.reduceNe, Int.reduceLT, Int.reduceLE] at hc)
        refine gye ?_ (hbw := by exact hb48); refine o1 (mv ?_); refine gye ?_ (hbw := by exact hb48); refine o1 (ncb ?_); refine gye ?_ (hbw := by exact hb48); refine o1 (fdb ti71 ?_); refine gye ?_ (hbw := by exact hb48); refine o1 (ldb ti9 ?_)
        refine gye ?_ (hbw := by exact hb48); refine o1 (mv ?_); refine gye ?_ (hbw := by exact hb48); refine o1 (byt ut9 ?_); refine gye ?_ (hbw := by exact hb48); refine o1 (ieq ?_); exact hK [_, _, _, _, _, _, _] rfl rfl
      case h2 =>
        intro hb48 hK; refine gno ?_ (hbw := by exact hb48); refine gno ?_ (hbw := by exact hb48); refine gno ?_ (hbw := by exact hb48); refine gno ?_ (hbw := by exact hb48); refine gno ?_ (hbw := by exact hb48); refine gno ?_ (hbw := by exact hb48)
        refine gno ?_ (hbw := by exact hb48); exact hK [_, _, _, _, _, _, _] rfl
      exact hK [_, _, _, _, _, _, _, _, _, _, _] rfl rfl
    case h2 =>
      intro hb15 hK; refine gno ?_ (hbw := by exact hb15); refine gno ?_ (hbw := by exact hb15); refine gno ?_ (hbw := by exact hb15); refine gno ?_ (hbw := by exact hb15); refine gno ?_ (hbw := by exact hb15); refine gno ?_ (hbw := by exact hb15)
      refine gno ?_ (hbw := by exact hb15); refine gno ?_ (hbw := by exact hb15); refine gud ?_; refine gud ?_; refine gud ?_; refine gud ?_; refine gud ?_; refine gud ?_; refine gud ?_; refine gno ?_ (hbw := by exact hb15)
      refine gno ?_ (hbw := by exact hb15); refine gud ?_; refine gud ?_; refine gud ?_; refine gud ?_; refine gud ?_; refine gud ?_; refine gud ?_; refine gno ?_ (hbw := by exact hb15)
      exact hK [_, _, _, _, _, _, _, _, _, _, _, _, _, _, _, _, _, _, _, _, _, _, _, _, _] rfl
    refine nx ?_; refine cd (fun h2 => ?_) (fun h2 => ?_)
    · (try simp only [nrm, Int.reduceEq, Int.reduceNe, Int.reduceLT, Int.reduceLE] at h2)
      refine runs_skip ?_; refine seq_normal ?_; refine runs_block ?_; refine kp [5, 0] ?_; refine runs_region ?_; refine o1 (mv ?_); refine o1 (iad ?_); refine o1 (asg ?_); refine ops_nil ?_; refine inb_normal ?_; refine seq_back ?_
      refine back_i (i + 1) rfl ?_ ?_
      · exact ⟨⟨by omega, hinv.2.trans (spanB_step (by omega) (ws_yes (by omega)))⟩, by omega⟩
      · refine mo ?_ (sly (sly slz))
        repeat (first | exact boz | refine boc ?_)
    (try simp only [nrm, Int.reduceEq, Int.reduceNe, Int.reduceLT, Int.reduceLE] at h2); refine runs_exit ?_; refine seq_exit ?_; refine seq_exit ?_; refine inb_exit ?_; refine seq_normal ?_; refine runs_seq ?_; refine kp [5, 0] ?_; refine sr ?_
    refine o1 (mv ?_); refine o1 (mv ?_); refine o1 (ncb ?_); refine o1 (fdb ti71 ?_); refine o1 (ldb ti9 ?_); refine o1 (le3 ut9 ?_); refine o1 (ieq ?_); refine nx ?_; refine cd (fun h4 => ?_) (fun h4 => ?_)
    · (try simp only [nrm, Int.reduceEq, Int.reduceNe, Int.reduceLT, Int.reduceLE] at h4)
      refine kp [5] ?_; refine sr ?_; refine o1 (mv ?_); refine o1 (asg ?_); refine o1 (asg ?_); refine o1 (asg ?_); refine nx ?_; refine runs_ret ?_; refine seq_ret ?_; refine fin_ret ?_
      refine fin_od ⟨_, _, rfl, rfl, ⟨_, _, rfl, rfl, ⟨_, _, rfl, rfl, rfl⟩⟩⟩ rfl ([0]) ([.cells [.d (.v (.string s)), .d (.v (.int .i64 p)), .d (.v (.int .i64 c)), .d (.v (.int .i64 a))] 71]) rfl rfl rfl ?_ ?_
      · repeat (first | exact boz | refine boc ?_)
      · rw [tok_end hinv.2 (by omega)]; exact ⟨rfl, rfl⟩
    (try simp only [nrm, Int.reduceEq, Int.reduceNe, Int.reduceLT, Int.reduceLE] at h4); refine runs_skip ?_; refine seq_normal ?_; refine runs_seq ?_; refine kp [5, 0] ?_
    have hsp := hinv.2.trans (spanB_end (by rintro ⟨h8, h9⟩; have h10 : byteAt s i = 32 ∨ byteAt s i = 9 ∨ byteAt s i = 10 := (by simpa [wsB] using h9); omega))
    refine runs_region ?_; refine o1 (mv ?_); refine o1 (iad ?_); refine o1 (asg ?_); refine nx ?_; refine sr ?_; refine o1 (mv ?_); refine o1 (ncb ?_); refine o1 (fdb ti71 ?_); refine o1 (ldb ti9 ?_); refine o1 (mv ?_); refine o1 (byt ut9 ?_)
    refine o1 (asg ?_); refine nx ?_; refine kp [7, 6, 5, 0] ?_; refine sr ?_; refine o1 (mv ?_); refine oc (cv ca114 rfl rfl (nameByte_spec (byteAt s i) true) (fir (fir .nil)) ?_); refine o1 (asg ?_); refine nx ?_; refine runs_seq ?_
    refine runs_block ?_; refine sr ?_; refine o1 (mv ?_); refine o1 (ieq ?_); refine o1 (mv ?_)
    apply ops_or (yt := 74) (d := 72) 2 rfl rfl rfl (.none rfl) rfl rfl
    case h1 =>
      intro hb4 hK
      have hc := hb4; (try simp only [nrm, Int.reduceEq, Int.reduceNe, Int.reduceLT, Int.reduceLE] at hc)
      refine gye ?_ (hbw := by exact hb4); refine o1 (mv ?_); refine gye ?_ (hbw := by exact hb4); refine o1 (ieq ?_); exact hK [_, _] rfl rfl
    case h2 =>
      intro hb4 hK; refine gno ?_ (hbw := by exact hb4); refine gno ?_ (hbw := by exact hb4); exact hK [_, _] rfl
    refine o1 (asg ?_); refine nx ?_; refine cd (fun h10 => ?_) (fun h10 => ?_)
    · (try simp only [nrm, Int.reduceEq, Int.reduceNe, Int.reduceLT, Int.reduceLE] at h10)
      refine runs_skip ?_; refine inb_normal ?_; refine seq_normal ?_; refine kp [6, 5, 0] ?_; refine sr ?_; refine o1 (mv ?_); refine o1 (ncb ?_); refine o1 (fdb ti71 ?_); refine o1 (ldb ti9 ?_); refine o1 (mv ?_); refine o1 (mv ?_)
      refine o1 (f_sub_lh ut9 ?_); refine o1 (mv ?_); refine o1 (asg ?_); refine o1 (asg ?_); refine o1 (asg ?_); refine nx ?_; refine runs_ret ?_; refine fin_ret ?_
      refine fin_od ⟨_, _, rfl, rfl, ⟨_, _, rfl, rfl, ⟨_, _, rfl, rfl, rfl⟩⟩⟩ rfl ([0]) ([.cells [.d (.v (.string s)), .d (.v (.int .i64 p)), .d (.v (.int .i64 c)), .d (.v (.int .i64 a))] 71]) rfl rfl rfl ?_ ?_
      · repeat (first | exact boz | refine boc ?_)
      · rw [tok_par hsp (by omega) (by omega)]; exact ⟨rfl, rfl⟩
    (try simp only [nrm, Int.reduceEq, Int.reduceNe, Int.reduceLT, Int.reduceLE] at h10); refine kp [8, 7, 6, 5, 0] ?_; refine sr ?_; refine o1 (mv ?_); refine o1 (asg ?_); refine nx ?_; refine cd (fun h11 => ?_) (fun h11 => ?_)
    · (try simp only [nrm, Int.reduceEq, Int.reduceNe, Int.reduceLT, Int.reduceLE] at h11)
      refine runs_seq ?_; refine runs_block ?_; refine kp [6, 5, 0] ?_
      apply runs_loop_c (ι := Nat) (fun q => [(6, int q)]) [5, 0] (fun q => i < q ∧ q ≤ s.size ∧ spanB (nameB · false) s (i + 1) = spanB (nameB · false) s q) (fun q => s.size - q) (i + 1)
      case hk => exact rfl
      case hI =>
        exact ⟨by omega, by omega, rfl⟩
      case hm =>
        refine mo ?_ (sly (sly (sly slz)))
        repeat (first | exact boz | refine boc ?_)
      case h =>
        rintro q hinv
        try dsimp only at hinv
        refine kp [6, 5, 0] ?_; refine runs_seq ?_; refine sr ?_; refine o1 (mv ?_); refine o1 (mv ?_); refine o1 (ncb ?_); refine o1 (fdb ti71 ?_); refine o1 (ldb ti9 ?_); refine o1 (le3 ut9 ?_); refine o1 (ilt ?_); refine o1 (mv ?_)
        apply ops_and (yt := 92) (d := 85) 7 rfl rfl rfl (.none rfl) rfl rfl
        case h1 =>
          intro hb15 hK
          have hc := hb15; (try simp only [nrm, Int.reduceEq, Int.reduceNe, Int.reduceLT, Int.reduceLE] at hc)
          refine gye ?_ (hbw := by exact hb15); refine o1 (mv ?_); refine gye ?_ (hbw := by exact hb15); refine o1 (ncb ?_); refine gye ?_ (hbw := by exact hb15); refine o1 (fdb ti71 ?_); refine gye ?_ (hbw := by exact hb15); refine o1 (ldb ti9 ?_)
          refine gye ?_ (hbw := by exact hb15); refine o1 (mv ?_); refine gye ?_ (hbw := by exact hb15); refine o1 (byt ut9 ?_); refine gye ?_ (hbw := by exact hb15); refine oc (cv ca114 rfl rfl (nameByte_spec (byteAt s q) false) (fir (fir .nil)) ?_)
          exact hK [_, _, _, _, _, _, _] rfl rfl
        case h2 =>
          intro hb15 hK; refine gno ?_ (hbw := by exact hb15); refine gno ?_ (hbw := by exact hb15); refine gno ?_ (hbw := by exact hb15); refine gno ?_ (hbw := by exact hb15); refine gno ?_ (hbw := by exact hb15); refine gno ?_ (hbw := by exact hb15)
          refine gno ?_ (hbw := by exact hb15); exact hK [_, _, _, _, _, _, _] rfl
        refine nx ?_; refine cd (fun h12 => ?_) (fun h12 => ?_)
        · (try simp only [nrm, Int.reduceEq, Int.reduceNe, Int.reduceLT, Int.reduceLE] at h12)
          refine runs_skip ?_; refine seq_normal ?_; refine runs_block ?_; refine kp [6, 5, 0] ?_; refine runs_region ?_; refine o1 (mv ?_); refine o1 (iad ?_); refine o1 (asg ?_); refine ops_nil ?_; refine inb_normal ?_; refine seq_back ?_
          refine back_i (q + 1) rfl ?_ ?_
          · exact ⟨⟨by omega, by omega, hinv.2.2.trans (spanB_step (by omega) (by simpa using h12.2))⟩, by omega⟩
          · refine mo ?_ (sly (sly (sly slz)))
            repeat (first | exact boz | refine boc ?_)
        (try simp only [nrm, Int.reduceEq, Int.reduceNe, Int.reduceLT, Int.reduceLE] at h12); refine runs_exit ?_; refine seq_exit ?_; refine seq_exit ?_; refine inb_exit ?_; refine seq_normal ?_; refine kp [6, 5, 0] ?_; refine sr ?_
        refine o1 (mv ?_); refine o1 (mv ?_); refine o1 (isu ?_); refine o1 (igt ?_); refine nx ?_; refine cd (fun h14 => ?_) (fun h14 => ?_)
        · (try simp only [nrm, Int.reduceEq, Int.reduceNe, Int.reduceLT, Int.reduceLE] at h14)
          refine kp [5] ?_; refine sr ?_; refine o1 (mv ?_); refine o1 (asg ?_); refine o1 (asg ?_); refine o1 (asg ?_); refine nx ?_; refine runs_ret ?_; refine inb_ret ?_; refine seq_ret ?_; refine fin_ret ?_
          refine fin_od ⟨_, _, rfl, rfl, ⟨_, _, rfl, rfl, ⟨_, _, rfl, rfl, rfl⟩⟩⟩ rfl ([0]) ([.cells [.d (.v (.string s)), .d (.v (.int .i64 p)), .d (.v (.int .i64 c)), .d (.v (.int .i64 a))] 71]) rfl rfl rfl ?_ ?_
          · repeat (first | exact boz | refine boc ?_)
          · rw [tok_nameNo hsp (by omega) (by omega) h11 (spanB_run hinv.2.2 h12) (by omega)]; exact ⟨rfl, rfl⟩
        (try simp only [nrm, Int.reduceEq, Int.reduceNe, Int.reduceLT, Int.reduceLE] at h14); refine runs_skip ?_; refine inb_normal ?_; refine seq_normal ?_; refine kp [6, 5, 0] ?_; refine sr ?_; refine o1 (mv ?_); refine o1 (ncb ?_)
        refine o1 (fdb ti71 ?_); refine o1 (ldb ti9 ?_); refine o1 (mv ?_); refine o1 (mv ?_); refine o1 (f_sub_lh ut9 ?_); refine o1 (mv ?_); refine o1 (asg ?_); refine o1 (asg ?_); refine o1 (asg ?_); refine nx ?_; refine runs_ret ?_
        refine fin_ret ?_; refine fin_od ⟨_, _, rfl, rfl, ⟨_, _, rfl, rfl, ⟨_, _, rfl, rfl, rfl⟩⟩⟩ rfl ([0]) ([.cells [.d (.v (.string s)), .d (.v (.int .i64 p)), .d (.v (.int .i64 c)), .d (.v (.int .i64 a))] 71]) rfl rfl rfl ?_ ?_
        · repeat (first | exact boz | refine boc ?_)
        · rw [tok_name hsp (by omega) (by omega) h11 (spanB_run hinv.2.2 h12) (by omega)]; exact ⟨rfl, rfl⟩
    (try simp only [nrm, Int.reduceEq, Int.reduceNe, Int.reduceLT, Int.reduceLE] at h11); refine sr ?_; refine o1 (mv ?_); refine o1 (ieq ?_); refine o1 (mv ?_)
    apply ops_or (yt := 110) (d := 104) 6 rfl rfl rfl (.none rfl) rfl rfl
    case h1 =>
      intro hb4 hK
      have hc := hb4; (try simp only [nrm, Int.reduceEq, Int.reduceNe, Int.reduceLT, Int.reduceLE] at hc)
      refine gye ?_ (hbw := by exact hb4); refine o1 (mv ?_); refine gye ?_ (hbw := by exact hb4); refine o1 (ige ?_); refine gye ?_ (hbw := by exact hb4); refine o1 (mv ?_)
      apply ops_and (yt := 109) (d := 107) 2 rfl rfl rfl (.yes rfl rfl rfl hb4) rfl rfl
      case h1 =>
        intro hb11 hK
        have hc := hb11; (try simp only [nrm, Int.reduceEq, Int.reduceNe, Int.reduceLT, Int.reduceLE] at hc)
        refine gye ?_ (hbw := by exact hb11); refine o1 (mv ?_); refine gye ?_ (hbw := by exact hb11); refine o1 (ile ?_); exact hK [_, _] rfl rfl
      case h2 =>
        intro hb11 hK; refine gno ?_ (hbw := by exact hb11); refine gno ?_ (hbw := by exact hb11); exact hK [_, _] rfl
      exact hK [_, _, _, _] rfl rfl
    case h2 =>
      intro hb4 hK; refine gno ?_ (hbw := by exact hb4); refine gno ?_ (hbw := by exact hb4); refine gno ?_ (hbw := by exact hb4); refine gud ?_; refine gud ?_; refine gno ?_ (hbw := by exact hb4); exact hK [_, _, _, _, _, _] rfl
    refine o1 (asg ?_); refine nx ?_; refine cdf (fun h16 => ?_) (fun h16 => ?_)
    · (try simp only [nrm, Int.reduceEq, Int.reduceNe, Int.reduceLT, Int.reduceLE] at h16)
      refine kp [5] ?_; refine sr ?_; refine o1 (mv ?_); refine o1 (asg ?_); refine o1 (asg ?_); refine o1 (asg ?_); refine nx ?_; refine runs_ret ?_; refine inb_ret ?_; refine seq_ret ?_; refine fin_ret ?_
      refine fin_od ⟨_, _, rfl, rfl, ⟨_, _, rfl, rfl, ⟨_, _, rfl, rfl, rfl⟩⟩⟩ rfl ([0]) ([.cells [.d (.v (.string s)), .d (.v (.int .i64 p)), .d (.v (.int .i64 c)), .d (.v (.int .i64 a))] 71]) rfl rfl rfl ?_ ?_
      · repeat (first | exact boz | refine boc ?_)
      · rw [tok_none hsp (by omega) (by omega) h11 (by omega)]; exact ⟨rfl, rfl⟩
    (try simp only [nrm, Int.reduceEq, Int.reduceNe, Int.reduceLT, Int.reduceLE] at h16); refine runs_seq ?_; refine runs_block ?_; refine kp [7, 6, 5, 0] ?_
    apply runs_loop_c (ι := Nat) (fun q => [(6, int q)]) [7, 5, 0] (fun q => i < q ∧ q ≤ s.size ∧ spanB digB s (i + 1) = spanB digB s q) (fun q => s.size - q) (i + 1)
    case hk => exact rfl
    case hI =>
      exact ⟨by omega, by omega, rfl⟩
    case hm =>
      refine mo ?_ (sly (sly (sly (sly slz))))
      repeat (first | exact boz | refine boc ?_)
    case h =>
      rintro q hinv
      try dsimp only at hinv
      refine kp [6, 7, 5, 0] ?_; refine runs_seq ?_; refine sr ?_; refine o1 (mv ?_); refine o1 (mv ?_); refine o1 (ncb ?_); refine o1 (fdb ti71 ?_); refine o1 (ldb ti9 ?_); refine o1 (le3 ut9 ?_); refine o1 (ilt ?_); refine o1 (mv ?_)
      apply ops_and (yt := 126) (d := 119) 7 rfl rfl rfl (.none rfl) rfl rfl
      case h1 =>
        intro hb15 hK
        have hc := hb15; (try simp only [nrm, Int.reduceEq, Int.reduceNe, Int.reduceLT, Int.reduceLE] at hc)
        refine gye ?_ (hbw := by exact hb15); refine o1 (mv ?_); refine gye ?_ (hbw := by exact hb15); refine o1 (ncb ?_); refine gye ?_ (hbw := by exact hb15); refine o1 (fdb ti71 ?_); refine gye ?_ (hbw := by exact hb15); refine o1 (ldb ti9 ?_)
        refine gye ?_ (hbw := by exact hb15); refine o1 (mv ?_); refine gye ?_ (hbw := by exact hb15); refine o1 (byt ut9 ?_); refine gye ?_ (hbw := by exact hb15); refine o1 (ige ?_); exact hK [_, _, _, _, _, _, _] rfl rfl
      case h2 =>
        intro hb15 hK; refine gno ?_ (hbw := by exact hb15); refine gno ?_ (hbw := by exact hb15); refine gno ?_ (hbw := by exact hb15); refine gno ?_ (hbw := by exact hb15); refine gno ?_ (hbw := by exact hb15); refine gno ?_ (hbw := by exact hb15)
        refine gno ?_ (hbw := by exact hb15); exact hK [_, _, _, _, _, _, _] rfl
      refine o1 (mv ?_)
      apply ops_and (yt := 135) (d := 128) 7 rfl rfl rfl (.none rfl) rfl rfl
      case h1 =>
        intro hb33 hK
        have hc := hb33; (try simp only [nrm, Int.reduceEq, Int.reduceNe, Int.reduceLT, Int.reduceLE] at hc)
        refine gye ?_ (hbw := by exact hb33); refine o1 (mv ?_); refine gye ?_ (hbw := by exact hb33); refine o1 (ncb ?_); refine gye ?_ (hbw := by exact hb33); refine o1 (fdb ti71 ?_); refine gye ?_ (hbw := by exact hb33); refine o1 (ldb ti9 ?_)
        refine gye ?_ (hbw := by exact hb33); refine o1 (mv ?_); refine gye ?_ (hbw := by exact hb33); refine o1 (byt ut9 ?_); refine gye ?_ (hbw := by exact hb33); refine o1 (ile ?_); exact hK [_, _, _, _, _, _, _] rfl rfl
      case h2 =>
        intro hb33 hK; refine gno ?_ (hbw := by exact hb33); refine gno ?_ (hbw := by exact hb33); refine gno ?_ (hbw := by exact hb33); refine gno ?_ (hbw := by exact hb33); refine gno ?_ (hbw := by exact hb33); refine gno ?_ (hbw := by exact hb33)
        refine gno ?_ (hbw := by exact hb33); exact hK [_, _, _, _, _, _, _] rfl
      refine nx ?_; refine cd (fun h17 => ?_) (fun h17 => ?_)
      · (try simp only [nrm, Int.reduceEq, Int.reduceNe, Int.reduceLT, Int.reduceLE] at h17)
        refine runs_skip ?_; refine seq_normal ?_; refine runs_block ?_; refine kp [6, 7, 5, 0] ?_; refine runs_region ?_; refine o1 (mv ?_); refine o1 (iad ?_); refine o1 (asg ?_); refine ops_nil ?_; refine inb_normal ?_; refine seq_back ?_
        refine back_i (q + 1) rfl ?_ ?_
        · exact ⟨⟨by omega, by omega, hinv.2.2.trans (spanB_step (by omega) (by simp only [digB, decide_eq_true_eq]; omega))⟩, by omega⟩
        · refine mo ?_ (sly (sly (sly (sly slz))))
          repeat (first | exact boz | refine boc ?_)
      (try simp only [nrm, Int.reduceEq, Int.reduceNe, Int.reduceLT, Int.reduceLE] at h17); refine runs_exit ?_; refine seq_exit ?_; refine seq_exit ?_; refine inb_exit ?_; refine seq_normal ?_; refine kp [6, 7, 5, 0] ?_; refine sr ?_
      refine o1 (mv ?_); refine o1 (asg ?_); refine nx ?_; refine runs_seq ?_; refine sr ?_; refine o1 (mv ?_); refine o1 (ieq ?_); refine nx ?_; refine cdf (fun h20 => ?_) (fun h20 => ?_)
      · (try simp only [nrm, Int.reduceEq, Int.reduceNe, Int.reduceLT, Int.reduceLE] at h20)
        refine runs_skip ?_; refine seq_normal ?_; refine kp [9, 6, 5, 0] ?_; refine sr ?_; refine o1 (mv ?_); refine o1 (mv ?_); refine o1 (ieq ?_); refine o1 (mv ?_)
        apply ops_or (yt := 151) (d := 147) 4 rfl rfl rfl (.none rfl) rfl rfl
        case h1 =>
          intro hb6 hK
          have hc := hb6; (try simp only [nrm, Int.reduceEq, Int.reduceNe, Int.reduceLT, Int.reduceLE] at hc)
          refine gye ?_ (hbw := by exact hb6); refine o1 (mv ?_); refine gye ?_ (hbw := by exact hb6); refine o1 (mv ?_); refine gye ?_ (hbw := by exact hb6); refine o1 (isu ?_); refine gye ?_ (hbw := by exact hb6); refine o1 (igt ?_)
          exact hK [_, _, _, _] rfl rfl
        case h2 =>
          intro hb6 hK; refine gno ?_ (hbw := by exact hb6); refine gno ?_ (hbw := by exact hb6); refine gno ?_ (hbw := by exact hb6); refine gno ?_ (hbw := by exact hb6); exact hK [_, _, _, _] rfl
        refine o1 (mv ?_)
        apply ops_or (yt := 166) (d := 153) 13 rfl rfl rfl (.none rfl) rfl rfl
        case h1 =>
          intro hb18 hK
          have hc := hb18; (try simp only [nrm, Int.reduceEq, Int.reduceNe, Int.reduceLT, Int.reduceLE] at hc)
          refine gye ?_ (hbw := by exact hb18); refine o1 (mv ?_); refine gye ?_ (hbw := by exact hb18); refine o1 (mv ?_); refine gye ?_ (hbw := by exact hb18); refine o1 (isu ?_); refine gye ?_ (hbw := by exact hb18); refine o1 (igt ?_)
          refine gye ?_ (hbw := by exact hb18); refine o1 (mv ?_)
          apply ops_and (yt := 165) (d := 158) 7 rfl rfl rfl (.yes rfl rfl rfl hb18) rfl rfl
          case h1 =>
            intro hb29 hK
            have hc := hb29; (try simp only [nrm, Int.reduceEq, Int.reduceNe, Int.reduceLT, Int.reduceLE] at hc)
            refine gye ?_ (hbw := by exact hb29); refine o1 (mv ?_); refine gye ?_ (hbw := by exact hb29); refine o1 (ncb ?_); refine gye ?_ (hbw := by exact hb29); refine o1 (fdb ti71 ?_); refine gye ?_ (hbw := by exact hb29); refine o1 (ldb ti9 ?_)
            refine gye ?_ (hbw := by exact hb29); refine o1 (mv ?_); refine gye ?_ (hbw := by exact hb29); refine o1 (byt ut9 ?_); refine gye ?_ (hbw := by exact hb29); refine o1 (ieq ?_); exact hK [_, _, _, _, _, _, _] rfl rfl
          case h2 =>
            intro hb29 hK; refine gno ?_ (hbw := by exact hb29); refine gno ?_ (hbw := by exact hb29); refine gno ?_ (hbw := by exact hb29); refine gno ?_ (hbw := by exact hb29); refine gno ?_ (hbw := by exact hb29); refine gno ?_ (hbw := by exact hb29)
            refine gno ?_ (hbw := by exact hb29); exact hK [_, _, _, _, _, _, _] rfl
          exact hK [_, _, _, _, _, _] rfl rfl
        case h2 =>
          intro hb18 hK; refine gno ?_ (hbw := by exact hb18); refine gno ?_ (hbw := by exact hb18); refine gno ?_ (hbw := by exact hb18); refine gno ?_ (hbw := by exact hb18); refine gno ?_ (hbw := by exact hb18); refine gud ?_; refine gud ?_
          refine gud ?_; refine gud ?_; refine gud ?_; refine gud ?_; refine gud ?_; refine gno ?_ (hbw := by exact hb18); exact hK [_, _, _, _, _, _, _, _, _, _, _, _, _] rfl
        refine nx ?_; refine cd (fun h22 => ?_) (fun h22 => ?_)
        · (try simp only [nrm, Int.reduceEq, Int.reduceNe, Int.reduceLT, Int.reduceLE] at h22)
          refine kp [5] ?_; refine sr ?_; refine o1 (mv ?_); refine o1 (asg ?_); refine o1 (asg ?_); refine o1 (asg ?_); refine nx ?_; refine runs_ret ?_; refine inb_ret ?_; refine seq_ret ?_; refine fin_ret ?_
          refine fin_od ⟨_, _, rfl, rfl, ⟨_, _, rfl, rfl, ⟨_, _, rfl, rfl, rfl⟩⟩⟩ rfl ([0]) ([.cells [.d (.v (.string s)), .d (.v (.int .i64 p)), .d (.v (.int .i64 c)), .d (.v (.int .i64 a))] 71]) rfl rfl rfl ?_ ?_
          · repeat (first | exact boz | refine boc ?_)
          · rw [tok_numNo hsp (by omega) (by omega) h11 (by omega) (spanB_runD hinv.2.2 (by omega)) (d := i) (by rw [if_neg (by omega)]) (by omega)]; exact ⟨rfl, rfl⟩
        (try simp only [nrm, Int.reduceEq, Int.reduceNe, Int.reduceLT, Int.reduceLE] at h22); refine runs_skip ?_; refine inb_normal ?_; refine seq_normal ?_; refine kp [6, 5, 0] ?_; refine sr ?_; refine o1 (mv ?_); refine o1 (ncb ?_)
        refine o1 (fdb ti71 ?_); refine o1 (ldb ti9 ?_); refine o1 (mv ?_); refine o1 (mv ?_); refine o1 (f_sub_lh ut9 ?_); refine o1 (mv ?_); refine o1 (asg ?_); refine o1 (asg ?_); refine o1 (asg ?_); refine nx ?_; refine runs_ret ?_
        refine fin_ret ?_; refine fin_od ⟨_, _, rfl, rfl, ⟨_, _, rfl, rfl, ⟨_, _, rfl, rfl, rfl⟩⟩⟩ rfl ([0]) ([.cells [.d (.v (.string s)), .d (.v (.int .i64 p)), .d (.v (.int .i64 c)), .d (.v (.int .i64 a))] 71]) rfl rfl rfl ?_ ?_
        · repeat (first | exact boz | refine boc ?_)
        · rw [tok_num hsp (by omega) (by omega) h11 (by omega) (spanB_runD hinv.2.2 (by omega)) (d := i) (by rw [if_neg (by omega)]) (by omega)]; exact ⟨rfl, rfl⟩
      (try simp only [nrm, Int.reduceEq, Int.reduceNe, Int.reduceLT, Int.reduceLE] at h20); refine kp [6, 5, 0] ?_; refine runs_region ?_; refine o1 (mv ?_); refine o1 (iad ?_); refine o1 (asg ?_); refine nx ?_; refine sr ?_; refine o1 (mv ?_)
      refine o1 (mv ?_); refine o1 (ieq ?_); refine o1 (mv ?_)
      apply ops_or (yt := 151) (d := 147) 4 rfl rfl rfl (.none rfl) rfl rfl
      case h1 =>
        intro hb6 hK
        have hc := hb6; (try simp only [nrm, Int.reduceEq, Int.reduceNe, Int.reduceLT, Int.reduceLE] at hc)
        refine gye ?_ (hbw := by exact hb6); refine o1 (mv ?_); refine gye ?_ (hbw := by exact hb6); refine o1 (mv ?_); refine gye ?_ (hbw := by exact hb6); refine o1 (isu ?_); refine gye ?_ (hbw := by exact hb6); refine o1 (igt ?_)
        exact hK [_, _, _, _] rfl rfl
      case h2 =>
        intro hb6 hK; refine gno ?_ (hbw := by exact hb6); refine gno ?_ (hbw := by exact hb6); refine gno ?_ (hbw := by exact hb6); refine gno ?_ (hbw := by exact hb6); exact hK [_, _, _, _] rfl
      refine o1 (mv ?_)
      apply ops_or (yt := 166) (d := 153) 13 rfl rfl rfl (.none rfl) rfl rfl
      case h1 =>
        intro hb18 hK
        have hc := hb18; (try simp only [nrm, Int.reduceEq, Int.reduceNe, Int.reduceLT, Int.reduceLE] at hc)
        refine gye ?_ (hbw := by exact hb18); refine o1 (mv ?_); refine gye ?_ (hbw := by exact hb18); refine o1 (mv ?_); refine gye ?_ (hbw := by exact hb18); refine o1 (isu ?_); refine gye ?_ (hbw := by exact hb18); refine o1 (igt ?_)
        refine gye ?_ (hbw := by exact hb18); refine o1 (mv ?_)
        apply ops_and (yt := 165) (d := 158) 7 rfl rfl rfl (.yes rfl rfl rfl hb18) rfl rfl
        case h1 =>
          intro hb29 hK
          have hc := hb29; (try simp only [nrm, Int.reduceEq, Int.reduceNe, Int.reduceLT, Int.reduceLE] at hc)
          refine gye ?_ (hbw := by exact hb29); refine o1 (mv ?_); refine gye ?_ (hbw := by exact hb29); refine o1 (ncb ?_); refine gye ?_ (hbw := by exact hb29); refine o1 (fdb ti71 ?_); refine gye ?_ (hbw := by exact hb29); refine o1 (ldb ti9 ?_)
          refine gye ?_ (hbw := by exact hb29); refine o1 (mv ?_); refine gye ?_ (hbw := by exact hb29); refine o1 (byt ut9 ?_); refine gye ?_ (hbw := by exact hb29); refine o1 (ieq ?_); exact hK [_, _, _, _, _, _, _] rfl rfl
        case h2 =>
          intro hb29 hK; refine gno ?_ (hbw := by exact hb29); refine gno ?_ (hbw := by exact hb29); refine gno ?_ (hbw := by exact hb29); refine gno ?_ (hbw := by exact hb29); refine gno ?_ (hbw := by exact hb29); refine gno ?_ (hbw := by exact hb29)
          refine gno ?_ (hbw := by exact hb29); exact hK [_, _, _, _, _, _, _] rfl
        exact hK [_, _, _, _, _, _] rfl rfl
      case h2 =>
        intro hb18 hK; refine gno ?_ (hbw := by exact hb18); refine gno ?_ (hbw := by exact hb18); refine gno ?_ (hbw := by exact hb18); refine gno ?_ (hbw := by exact hb18); refine gno ?_ (hbw := by exact hb18); refine gud ?_; refine gud ?_
        refine gud ?_; refine gud ?_; refine gud ?_; refine gud ?_; refine gud ?_; refine gno ?_ (hbw := by exact hb18); exact hK [_, _, _, _, _, _, _, _, _, _, _, _, _] rfl
      refine nx ?_; refine cd (fun h22 => ?_) (fun h22 => ?_)
      · (try simp only [nrm, Int.reduceEq, Int.reduceNe, Int.reduceLT, Int.reduceLE] at h22)
        refine kp [5] ?_; refine sr ?_; refine o1 (mv ?_); refine o1 (asg ?_); refine o1 (asg ?_); refine o1 (asg ?_); refine nx ?_; refine runs_ret ?_; refine inb_ret ?_; refine seq_ret ?_; refine fin_ret ?_
        refine fin_od ⟨_, _, rfl, rfl, ⟨_, _, rfl, rfl, ⟨_, _, rfl, rfl, rfl⟩⟩⟩ rfl ([0]) ([.cells [.d (.v (.string s)), .d (.v (.int .i64 p)), .d (.v (.int .i64 c)), .d (.v (.int .i64 a))] 71]) rfl rfl rfl ?_ ?_
        · repeat (first | exact boz | refine boc ?_)
        · rw [tok_numNo hsp (by omega) (by omega) h11 (by omega) (spanB_runD hinv.2.2 (by omega)) (d := i + 1) (by rw [if_pos (by omega)]) (by omega)]; exact ⟨rfl, rfl⟩
      (try simp only [nrm, Int.reduceEq, Int.reduceNe, Int.reduceLT, Int.reduceLE] at h22); refine runs_skip ?_; refine inb_normal ?_; refine seq_normal ?_; refine kp [6, 5, 0] ?_; refine sr ?_; refine o1 (mv ?_); refine o1 (ncb ?_)
      refine o1 (fdb ti71 ?_); refine o1 (ldb ti9 ?_); refine o1 (mv ?_); refine o1 (mv ?_); refine o1 (f_sub_lh ut9 ?_); refine o1 (mv ?_); refine o1 (asg ?_); refine o1 (asg ?_); refine o1 (asg ?_); refine nx ?_; refine runs_ret ?_
      refine fin_ret ?_; refine fin_od ⟨_, _, rfl, rfl, ⟨_, _, rfl, rfl, ⟨_, _, rfl, rfl, rfl⟩⟩⟩ rfl ([0]) ([.cells [.d (.v (.string s)), .d (.v (.int .i64 p)), .d (.v (.int .i64 c)), .d (.v (.int .i64 a))] 71]) rfl rfl rfl ?_ ?_
      · repeat (first | exact boz | refine boc ?_)
      · rw [tok_num hsp (by omega) (by omega) h11 (by omega) (spanB_runD hinv.2.2 (by omega)) (d := i + 1) (by rw [if_pos (by omega)]) (by omega)]; exact ⟨rfl, rfl⟩
end Go.Proofs.YtneaancanfpdhaaGreatDoor
