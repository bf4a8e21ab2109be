/-
  What is proved here: contracts of the program's scanner: letter, digit, run.
-/
import Derived.Test.YtneaancanfpdhaaGreatDoorYR5
set_option linter.unusedSimpArgs false
set_option linter.unusedVariables false
namespace Go.Proofs.YtneaancanfpdhaaGreatDoor
open Go Go.Vd Go.RowKit
attribute [local irreducible] Runs OpsR OpR FloatR AnyR AnyO
variable {gl : Nat → List D}

theorem or8_letter : ∀ c : Nat, c < 256 → ((97 ≤ or8 c 32 ∧ or8 c 32 ≤ 122) ↔ ((97 ≤ c ∧ c ≤ 122) ∨ (65 ≤ c ∧ c ≤ 90))) := by decide +kernel

attribute [local irreducible] or8
theorem digit_spec (c : Int) : TriD Tryz.prog gl 122 [.v (.int .u8 c)] (· = .v (.bool (digB c))) := by
  refine triD_of_runs Tryz.func122 rfl Tryz.ntmps122 (rs := [.tmp 2]) rfl rfl rfl ?_
  refine sr ?_; refine o1 (asg ?_); refine nx ?_; refine sr ?_; refine o1 (mv ?_); refine o1 (ige ?_); refine o1 (mv ?_)
  apply ops_and (yt := 7) (d := 5) 2 rfl rfl rfl (.none rfl) rfl rfl
  case h1 =>
    intro hb5 hK
    have hc := hb5; (try simp only [nrm, Int.reduceEq, Int.reduceNe, Int.reduceLT, Int.reduceLE] at hc)
    refine gye ?_ (hbw := by exact hb5); refine o1 (mv ?_); refine gye ?_ (hbw := by exact hb5); refine o1 (ile ?_); exact hK [_, _] rfl rfl
  case h2 =>
    intro hb5 hK; refine gno ?_ (hbw := by exact hb5); refine gno ?_ (hbw := by exact hb5); exact hK [_, _] rfl
  refine o1 (asg ?_); refine nx ?_; refine runs_ret ?_; refine fin_ret ?_; refine fin_d1 rfl rfl ?_; exact congrArg (fun b => D.v (.bool b)) (by rw [Bool.eq_iff_iff]; simp [digB])

theorem letter_spec (c : Int) (h0 : 0 ≤ c) (h1 : c < 256) : TriD Tryz.prog gl 120 [.v (.int .u8 c)] (· = .v (.bool (nameB c true))) := by
  obtain ⟨k, rfl⟩ : ∃ k : Nat, c = k := ⟨c.toNat, by omega⟩
  have hl := or8_letter k (by omega)
  refine triD_of_runs Tryz.func120 rfl Tryz.ntmps120 (rs := [.tmp 2]) rfl rfl rfl ?_
  refine sr ?_; refine o1 (asg ?_); refine nx ?_; refine sr ?_; refine o1 (mv ?_); refine o1 (f_or8 ?_); refine o1 (ige ?_); refine o1 (mv ?_)
  apply ops_and (yt := 9) (d := 6) 3 rfl rfl rfl (.none rfl) rfl rfl
  case h1 =>
    intro hb7 hK
    have hc := hb7; (try simp only [nrm, Int.reduceEq, Int.reduceNe, Int.reduceLT, Int.reduceLE] at hc)
    refine gye ?_ (hbw := by exact hb7); refine o1 (mv ?_); refine gye ?_ (hbw := by exact hb7); refine o1 (f_or8 ?_); refine gye ?_ (hbw := by exact hb7); refine o1 (ile ?_); exact hK [_, _, _] rfl rfl
  case h2 =>
    intro hb7 hK; refine gno ?_ (hbw := by exact hb7); refine gno ?_ (hbw := by exact hb7); refine gno ?_ (hbw := by exact hb7); exact hK [_, _, _] rfl
  refine o1 (mv ?_)
  apply ops_or (yt := 13) (d := 11) 2 rfl rfl rfl (.none rfl) rfl rfl
  case h1 =>
    intro hb16 hK
    have hc := hb16; (try simp only [nrm, Int.reduceEq, Int.reduceNe, Int.reduceLT, Int.reduceLE] at hc)
    refine gye ?_ (hbw := by exact hb16); refine o1 (mv ?_); refine gye ?_ (hbw := by exact hb16); refine o1 (ieq ?_); exact hK [_, _] rfl rfl
  case h2 =>
    intro hb16 hK; refine gno ?_ (hbw := by exact hb16); refine gno ?_ (hbw := by exact hb16); exact hK [_, _] rfl
  refine o1 (asg ?_); refine nx ?_; refine runs_ret ?_; refine fin_ret ?_; refine fin_d1 rfl rfl ?_; exact congrArg (fun b => D.v (.bool b)) (by rw [Bool.eq_iff_iff]; simp [nameB]; omega)

theorem ws1_spec (c : Int) : TriD Tryz.prog gl 119 [.v (.int .u8 c)] (· = .v (.bool (wsB c))) := by
  refine triD_of_runs Tryz.func119 rfl Tryz.ntmps119 (rs := [.tmp 2]) rfl rfl rfl ?_
  refine sr ?_; refine o1 (asg ?_); refine nx ?_; refine sr ?_; refine o1 (mv ?_); refine o1 (ieq ?_); refine o1 (mv ?_)
  apply ops_or (yt := 7) (d := 5) 2 rfl rfl rfl (.none rfl) rfl rfl
  case h1 =>
    intro hb4 hK
    have hc := hb4; (try simp only [nrm, Int.reduceEq, Int.reduceNe, Int.reduceLT, Int.reduceLE] at hc)
    refine gye ?_ (hbw := by exact hb4); refine o1 (mv ?_); refine gye ?_ (hbw := by exact hb4); refine o1 (ieq ?_); exact hK [_, _] rfl rfl
  case h2 =>
    intro hb4 hK; refine gno ?_ (hbw := by exact hb4); refine gno ?_ (hbw := by exact hb4); exact hK [_, _] rfl
  refine o1 (mv ?_)
  apply ops_or (yt := 11) (d := 9) 2 rfl rfl rfl (.none rfl) rfl rfl
  case h1 =>
    intro hb12 hK
    have hc := hb12; (try simp only [nrm, Int.reduceEq, Int.reduceNe, Int.reduceLT, Int.reduceLE] at hc)
    refine gye ?_ (hbw := by exact hb12); refine o1 (mv ?_); refine gye ?_ (hbw := by exact hb12); refine o1 (ieq ?_); exact hK [_, _] rfl rfl
  case h2 =>
    intro hb12 hK; refine gno ?_ (hbw := by exact hb12); refine gno ?_ (hbw := by exact hb12); exact hK [_, _] rfl
  refine o1 (asg ?_); refine nx ?_; refine runs_ret ?_; refine fin_ret ?_; refine fin_d1 rfl rfl ?_; exact congrArg (fun b => D.v (.bool b)) (by rw [Bool.eq_iff_iff]; simp [wsB, or_assoc])

theorem nb2_spec (c : Int) (h0 : 0 ≤ c) (h1 : c < 256) : TriD Tryz.prog gl 121 [.v (.int .u8 c)] (· = .v (.bool (nameB c false))) := by
  refine triD_of_runs Tryz.func121 rfl Tryz.ntmps121 (rs := [.tmp 2]) rfl rfl rfl ?_
  refine sr ?_; refine o1 (asg ?_); refine nx ?_; refine sr ?_; refine o1 (mv ?_); refine oc (cv ca120 rfl rfl (letter_spec c h0 h1) (fir .nil) ?_); refine o1 (mv ?_)
  apply ops_or (yt := 7) (d := 5) 2 rfl rfl rfl (.none rfl) rfl rfl
  case h1 =>
    intro hb4 hK
    have hc := hb4; (try simp only [nrm, Int.reduceEq, Int.reduceNe, Int.reduceLT, Int.reduceLE] at hc)
    refine gye ?_ (hbw := by exact hb4); refine o1 (mv ?_); refine gye ?_ (hbw := by exact hb4); refine oc (cv ca122 rfl rfl (digit_spec c) (fir .nil) ?_); exact hK [_, _] rfl rfl
  case h2 =>
    intro hb4 hK; refine gno ?_ (hbw := by exact hb4); refine gno ?_ (hbw := by exact hb4); exact hK [_, _] rfl
  refine o1 (mv ?_)
  apply ops_or (yt := 11) (d := 9) 2 rfl rfl rfl (.none rfl) rfl rfl
  case h1 =>
    intro hb12 hK
    have hc := hb12; (try simp only [nrm, Int.reduceEq, Int.reduceNe, Int.reduceLT, Int.reduceLE] at hc)
    refine gye ?_ (hbw := by exact hb12); refine o1 (mv ?_); refine gye ?_ (hbw := by exact hb12); refine o1 (ieq ?_); exact hK [_, _] rfl rfl
  case h2 =>
    intro hb12 hK; refine gno ?_ (hbw := by exact hb12); refine gno ?_ (hbw := by exact hb12); exact hK [_, _] rfl
  refine o1 (mv ?_)
  apply ops_or (yt := 15) (d := 13) 2 rfl rfl rfl (.none rfl) rfl rfl
  case h1 =>
    intro hb20 hK
    have hc := hb20; (try simp only [nrm, Int.reduceEq, Int.reduceNe, Int.reduceLT, Int.reduceLE] at hc)
    refine gye ?_ (hbw := by exact hb20); refine o1 (mv ?_); refine gye ?_ (hbw := by exact hb20); refine o1 (ieq ?_); exact hK [_, _] rfl rfl
  case h2 =>
    intro hb20 hK; refine gno ?_ (hbw := by exact hb20); refine gno ?_ (hbw := by exact hb20); exact hK [_, _] rfl
  refine o1 (asg ?_); refine nx ?_; refine runs_ret ?_; refine fin_ret ?_; refine fin_d1 rfl rfl ?_; exact congrArg (fun b => D.v (.bool b)) (by rw [Bool.eq_iff_iff]; simp [nameB, digB]; omega)

/-- a scanner -/
def scO (s : ByteArray) (at' : Nat) (tok : ByteArray) (pos : Nat) : Ob := .cells [.d (.v (.string s)), .d (.v (.int .i64 at')), .d (.v (.string tok)), .d (.v (.int .i64 pos))] 105

theorem byteAt_bound (s : ByteArray) (i : Nat) : 0 ≤ byteAt s i ∧ byteAt s i < 256 := by
  unfold byteAt
  have := UInt8.toNat_lt (s.data.getD i 0)
  omega

theorem run_spec (f : FuncId) (ofv : SV) (hof : ofv = .fn (.func f) [] [] ∨ ofv = .d (.v (.func (.func f) #[] #[]))) (p : Int → Bool) (hcal : callable Tryz.prog f = true) (hp : ∀ c, 0 ≤ c → c < 256 → TriD Tryz.prog gl f [.v (.int .u8 c)] (· = .v (.bool (p c)))) (s : ByteArray) (hs : s.size ≤ 1099511627776) (a b : Nat) (tok : ByteArray) (pos : Nat) (ha : a ≤ s.size) :
    Tri Tryz.prog gl 118 [scO s b tok pos] [.blk 0 0, .d (.v (.int .i64 a)), ofv] fun out ob' => out = .ret (.d (.v (.int .i64 (spanB p s a)))) ∧ ob' = [scO s b tok pos] := by
  rcases hof with rfl | rfl
  all_goals (
    unfold scO
    refine triS_of_runs Tryz.func118 rfl Tryz.ntmps118 (rs := [.tmp 6]) rfl rfl rfl 1 rfl ?_
    refine sr ?_; refine o1 (asg ?_); refine nx ?_; refine runs_seq ?_; refine runs_block ?_; refine kp [0, 1, 2] ?_
    apply runs_loop_c (ι := Nat) (fun i => [(1, int i)]) [0, 2] (fun i => i ≤ s.size ∧ spanB p s a = spanB p s i) (fun i => s.size - i) (a)
    case hk => exact rfl
    case hI =>
      exact ⟨ha, rfl⟩
    case hm =>
      refine mo ?_ (sly (sly (sly slz)))
      repeat (first | exact boz | refine boc ?_)
    case h =>
      rintro i hinv
      try dsimp only at hinv
      refine kp [1, 0, 2] ?_; refine runs_seq ?_; refine sr ?_; refine o1 (mv ?_); refine o1 (mv ?_); refine o1 (ncb ?_); refine o1 (fdb ti105 ?_); refine o1 (ldb ti9 ?_); refine o1 (le3 ut9 ?_); refine o1 (ilt ?_); refine o1 (mv ?_)
      apply ops_and (yt := 22) (d := 14) 8 rfl rfl rfl (.none rfl) rfl rfl
      case h1 =>
        intro hb15 hK
        have hc := hb15; (try simp only [nrm, Int.reduceEq, Int.reduceNe, Int.reduceLT, Int.reduceLE] at hc)
        refine gye ?_ (hbw := by exact hb15); refine o1 (mv ?_); refine gye ?_ (hbw := by exact hb15); refine o1 (mv ?_); refine gye ?_ (hbw := by exact hb15); refine o1 (ncb ?_); refine gye ?_ (hbw := by exact hb15); refine o1 (fdb ti105 ?_)
        refine gye ?_ (hbw := by exact hb15); refine o1 (ldb ti9 ?_); refine gye ?_ (hbw := by exact hb15); refine o1 (mv ?_); refine gye ?_ (hbw := by exact hb15); refine o1 (byt ut9 ?_); refine gye ?_ (hbw := by exact hb15)
        first | refine oc (T := fun _ => False) (op_callcd hcal rfl rfl rfl rfl rfl rfl rfl rfl (hp (byteAt s i) (byteAt_bound s i).1 (byteAt_bound s i).2) (fir .nil) (fun d hd => ?_)) | refine oc (T := fun _ => False) (op_callfd hcal rfl rfl rfl rfl rfl rfl (hp (byteAt s i) (byteAt_bound s i).1 (byteAt_bound s i).2) (fir .nil) (fun d hd => ?_))
        obtain rfl := hd; exact hK [_, _, _, _, _, _, _, _] rfl rfl
      case h2 =>
        intro hb15 hK; refine gno ?_ (hbw := by exact hb15); refine gno ?_ (hbw := by exact hb15); refine gno ?_ (hbw := by exact hb15); refine gno ?_ (hbw := by exact hb15); refine gno ?_ (hbw := by exact hb15); refine gno ?_ (hbw := by exact hb15)
        refine gno ?_ (hbw := by exact hb15); refine gno ?_ (hbw := by exact hb15); exact hK [_, _, _, _, _, _, _, _] rfl
      refine nx ?_; refine cd (fun h1 => ?_) (fun h1 => ?_)
      · (try simp only [nrm, Int.reduceEq, Int.reduceNe, Int.reduceLT, Int.reduceLE] at h1)
        refine runs_skip ?_; refine seq_normal ?_; refine runs_block ?_; refine kp [1, 0, 2] ?_; refine runs_region ?_; refine o1 (mv ?_); refine o1 (iad ?_); refine o1 (asg ?_); refine ops_nil ?_; refine inb_normal ?_; refine seq_back ?_
        refine back_i (i + 1) rfl ?_ ?_
        · exact ⟨⟨by omega, by rw [hinv.2, spanB_step (by omega) (by simpa using h1.2)]⟩, by omega⟩
        · refine mo ?_ (sly (sly (sly slz)))
          repeat (first | exact boz | refine boc ?_)
      (try simp only [nrm, Int.reduceEq, Int.reduceNe, Int.reduceLT, Int.reduceLE] at h1); refine runs_exit ?_; refine seq_exit ?_; refine seq_exit ?_; refine inb_exit ?_; refine seq_normal ?_; refine kp [1] ?_; refine sr ?_; refine o1 (mv ?_)
      refine o1 (asg ?_); refine nx ?_; refine runs_ret ?_; refine fin_ret ?_; refine fin_od ⟨_, _, rfl, rfl, rfl⟩ rfl ([0]) ([scO s b tok pos]) rfl rfl rfl ?_ ?_
      · repeat (first | exact boz | refine boc ?_)
      · refine ⟨?_, rfl⟩
        rw [hinv.2, spanB_end (p := i) (by rintro ⟨h5, h6⟩; rcases h1 with h1 | h1; omega; rw [h6] at h1; cases h1)]
  )
end Go.Proofs.YtneaancanfpdhaaGreatDoor
