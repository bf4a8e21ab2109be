/-
  What is proved here: contracts of the program's scanner: Step.
-/
import Derived.Test.YtneaancanfpdhaaGreatDoorYS1
import Derived.Test.YtneaancanfpdhaaGreatDoorYRead
set_option linter.unusedSimpArgs false
set_option linter.unusedVariables false
namespace Go.Proofs.YtneaancanfpdhaaGreatDoor
open Go Go.Vd Go.RowKit
attribute [local irreducible] Runs OpsR OpR FloatR AnyR AnyO
variable {gl : Nat → List D}

def stepTok (s : ByteArray) (p : Nat) : ByteArray := if (tokR s p).2.2 = true then (tokR s p).1 else ⟨#[0]⟩
def stepAt (s : ByteArray) (p : Nat) : Nat := if (tokR s p).2.2 = true then (tokR s p).2.1 + (tokR s p).1.size else p
theorem step_yes {s : ByteArray} {p : Nat} {t : ByteArray} {i : Nat} (h : tokR s p = (t, i, true)) : stepTok s p = t ∧ stepAt s p = i + t.size ∧ (tokR s p).2.1 = i := by
  unfold stepTok stepAt; rw [h]; exact ⟨rfl, rfl, rfl⟩
theorem step_no {s : ByteArray} {p : Nat} {t : ByteArray} {i : Nat} (h : tokR s p = (t, i, false)) : stepTok s p = ⟨#[0]⟩ ∧ stepAt s p = p ∧ (tokR s p).2.1 = i := by
  unfold stepTok stepAt; rw [h]; exact ⟨rfl, rfl, rfl⟩

theorem nameB_mono {c : Int} (h : nameB c true = true) : nameB c false = true := by
  simp [nameB] at h ⊢
  omega

theorem step_spec (s : ByteArray) (hs : s.size ≤ 1099511627776) (p : Nat) (hp : p ≤ s.size) (tok0 : ByteArray) (pos0 : Nat) :
    Tri Tryz.prog gl 101 [scO s p tok0 pos0] [.blk 0 0] fun out ob' => out = .ret (.d (.tup [])) ∧ ob' = [scO s (stepAt s p) (stepTok s p) (tokR s p).2.1] := by
  obtain ⟨i, hi⟩ : ∃ i, spanB wsB s p = i := ⟨_, rfl⟩
  have hil := spanB_le wsB s p hp
  rw [hi] at hil
  have hba := byteAt_bound s i
  have hw := run_spec (gl := gl) 119 _ (.inr rfl) wsB ca119 (fun c _ _ => ws1_spec c) s hs p p tok0 pos0 hp
  rw [hi] at hw
  unfold scO at hw ⊢
  refine triS_of_runs Tryz.func101 rfl Tryz.ntmps101 (rs := []) rfl rfl rfl 1 rfl ?_
  refine sr ?_; refine o1 (mv ?_); refine o1 (mv ?_); refine o1 (mv ?_); refine o1 (ncb ?_); refine o1 (fdb ti105 ?_); refine o1 (ldb ti3 ?_); refine oc (ck ca118 rfl rfl (hw) [0] rfl (boc .nil) (fir (fir (fir .nil))) ?_); refine o1 (ncb ?_)
  refine o1 (fdb ti105 ?_); refine oc (sto ti3 ?_); refine nx ?_; refine runs_seq ?_; refine runs_seq ?_; refine kp [0] ?_; refine a_start ?_ (hm := by exact mixed); refine A1 0 rfl (mv ⟨_, rfl, ?_⟩); refine A1 1 rfl (ncb ⟨_, rfl, ?_⟩)
  refine A1 2 rfl (fdb ti105 ⟨_, rfl, ?_⟩); refine A1 3 rfl (ldb ti3 ⟨_, rfl, ?_⟩); refine A1 4 rfl (mv ⟨_, rfl, ?_⟩); refine A1 5 rfl (ncb ⟨_, rfl, ?_⟩); refine A1 6 rfl (fdb ti105 ⟨_, rfl, ?_⟩); refine A1 7 rfl (ldb ti9 ⟨_, rfl, ?_⟩)
  refine A1 8 rfl (le3 ut9 ⟨_, rfl, ?_⟩); refine A1 9 rfl (ieq ⟨_, rfl, ?_⟩); refine a_end ?_; refine seq_normal ?_; refine cd (fun h1 => ?_) (fun h1 => ?_)
  · (try simp only [nrm, Int.reduceEq, Int.reduceNe, Int.reduceLT, Int.reduceLE] at h1)
    refine kp [0] ?_; refine sr ?_; refine o1 (mv ?_); refine o1 (mv ?_); refine o1 (mv ?_); refine o1 (ncb ?_); refine o1 (fdb ti105 ?_); refine o1 (ldb ti3 ?_); refine o1 (ncb ?_); refine o1 (fdb ti105 ?_); refine oc (sto ti9 ?_)
    refine o1 (ncb ?_); refine o1 (fdb ti105 ?_); refine oc (sto ti3 ?_); refine nx ?_; refine runs_ret ?_; refine seq_ret ?_; refine fin_ret ?_; refine fin_od (l := []) rfl rfl ([0]) ([scO s i .empty i]) rfl rfl rfl ?_ ?_
    · repeat (first | exact boz | refine boc ?_)
    · have h := step_yes (tok_end (show spanB wsB s p = spanB wsB s i by rw [hi, spanB_end (by omega)]) (by omega))
      refine ⟨rfl, ?_⟩
      rw [h.1, h.2.1, h.2.2]; rfl
  (try simp only [nrm, Int.reduceEq, Int.reduceNe, Int.reduceLT, Int.reduceLE] at h1); refine runs_skip ?_; refine seq_normal ?_; refine kp [0] ?_; refine sr ?_; refine o1 (mv ?_); refine o1 (ncb ?_); refine o1 (fdb ti105 ?_)
  refine o1 (ldb ti3 ?_); refine o1 (iad ?_); refine o1 (asg ?_); refine nx ?_; refine runs_seq ?_; refine runs_seq ?_; refine kp [2, 0] ?_
  have hi1 : i + 1 ≤ s.size := by omega
  have hqd := spanB_le digB s (i + 1) hi1
  have hqe := spanB_le digB s i hil.2
  have hqn := spanB_le (nameB · false) s i hil.2
  refine a_start ?_ (hm := by exact mixed); refine A1 0 rfl (mv ⟨_, rfl, ?_⟩); refine A1 1 rfl (ncb ⟨_, rfl, ?_⟩); refine A1 2 rfl (fdb ti105 ⟨_, rfl, ?_⟩); refine A1 3 rfl (ldb ti9 ⟨_, rfl, ?_⟩); refine A1 4 rfl (mv ⟨_, rfl, ?_⟩)
  refine A1 5 rfl (ncb ⟨_, rfl, ?_⟩); refine A1 6 rfl (fdb ti105 ⟨_, rfl, ?_⟩); refine A1 7 rfl (ldb ti3 ⟨_, rfl, ?_⟩); refine A1 8 rfl (byt ut9 ⟨_, rfl, ?_⟩); refine A1 9 rfl (asg ⟨_, rfl, ?_⟩); refine a_end ?_; refine seq_normal ?_
  refine runs_block ?_; refine kp [3, 2, 0] ?_; refine sr ?_; refine o1 (mv ?_); refine o1 (ieq ?_); refine o1 (mv ?_)
  apply ops_or (yt := 54) (d := 52) 2 rfl rfl rfl (.none rfl) rfl rfl
  case h1 =>
    intro hb4 hK
    have hc := hb4; (try simp only [nrm, Int.reduceEq, Int.reduceNe, Int.reduceLT, Int.reduceLE] at hc)
    refine gye ?_ (hbw := by exact hb4); refine o1 (mv ?_); refine gye ?_ (hbw := by exact hb4); refine o1 (ieq ?_); exact hK [_, _] rfl rfl
  case h2 =>
    intro hb4 hK; refine gno ?_ (hbw := by exact hb4); refine gno ?_ (hbw := by exact hb4); exact hK [_, _] rfl
  refine o1 (asg ?_); refine nx ?_; refine cd (fun h6 => ?_) (fun h6 => ?_)
  · (try simp only [nrm, Int.reduceEq, Int.reduceNe, Int.reduceLT, Int.reduceLE] at h6)
    refine runs_skip ?_; refine inb_normal ?_; refine seq_normal ?_; refine runs_seq ?_; refine kp [2, 0] ?_; refine sr ?_; refine o1 (mv ?_); refine o1 (ilt ?_); refine nx ?_; refine cd (fun h19 => ?_) (fun h19 => ?_)
    · (try simp only [nrm, Int.reduceEq, Int.reduceNe, Int.reduceLT, Int.reduceLE] at h19); contradiction
    (try simp only [nrm, Int.reduceEq, Int.reduceNe, Int.reduceLT, Int.reduceLE] at h19); refine runs_skip ?_; refine seq_normal ?_; refine a_start ?_ (hm := by exact mixed); refine A1 0 rfl (mv ⟨_, rfl, ?_⟩); refine A1 1 rfl (mv ⟨_, rfl, ?_⟩)
    refine A1 2 rfl (mv ⟨_, rfl, ?_⟩); refine A1 3 rfl (ncb ⟨_, rfl, ?_⟩); refine A1 4 rfl (fdb ti105 ⟨_, rfl, ?_⟩); refine A1 5 rfl (ldb ti9 ⟨_, rfl, ?_⟩); refine A1 6 rfl (mv ⟨_, rfl, ?_⟩); refine A1 7 rfl (ncb ⟨_, rfl, ?_⟩)
    refine A1 8 rfl (fdb ti105 ⟨_, rfl, ?_⟩); refine A1 9 rfl (ldb ti3 ⟨_, rfl, ?_⟩); refine A1 10 rfl (mv ⟨_, rfl, ?_⟩); refine A1 11 rfl (f_sub_lh ut9 ⟨_, rfl, ?_⟩); refine A1 12 rfl (mv ⟨_, rfl, ?_⟩); refine A1 13 rfl (ncb ⟨_, rfl, ?_⟩)
    refine A1 14 rfl (fdb ti105 ⟨_, rfl, ?_⟩); refine A2 15 rfl (sto ti9 ?_); refine A1 16 rfl (ncb ⟨_, rfl, ?_⟩); refine A1 17 rfl (fdb ti105 ⟨_, rfl, ?_⟩); refine A2 18 rfl (sto ti3 ?_); refine a_end ?_; refine fin_normal ?_
    refine fin_od (l := []) rfl rfl ([0]) ([scO s (i + 1) (s.extract i (i + 1)) i]) rfl rfl rfl ?_ ?_
    · repeat (first | exact boz | refine boc ?_)
    · have h := step_yes (tok_par hi hi1 h6)
      refine ⟨rfl, ?_⟩
      rw [h.1, h.2.1, h.2.2, show i + (s.extract i (i + 1)).size = (i + 1) by rw [ByteArray.size_extract]; omega]; rfl
  (try simp only [nrm, Int.reduceEq, Int.reduceNe, Int.reduceLT, Int.reduceLE] at h6); refine kp [3, 0] ?_; refine sr ?_; refine o1 (mv ?_); refine oc (cv ca120 rfl rfl (letter_spec (byteAt s i) hba.1 hba.2) (fir .nil) ?_); refine o1 (asg ?_)
  refine nx ?_; refine cd (fun h7 => ?_) (fun h7 => ?_)
  · (try simp only [nrm, Int.reduceEq, Int.reduceNe, Int.reduceLT, Int.reduceLE] at h7)
    refine kp [0] ?_; refine sr ?_; refine o1 (mv ?_); refine o1 (mv ?_); refine o1 (ncb ?_); refine o1 (fdb ti105 ?_); refine o1 (ldb ti3 ?_)
    refine oc (ck ca118 rfl rfl (run_spec 121 _ (.inr rfl) (nameB · false) ca121 (fun c h0 h1 => nb2_spec c h0 h1) s hs i p tok0 i hil.2) [0] rfl (boc .nil) (fir (fir (fir .nil))) ?_); refine o1 (asg ?_); refine nx ?_; refine kp [2, 0] ?_
    refine sr ?_; refine o1 (mv ?_); refine o1 (mv ?_); refine o1 (ncb ?_); refine o1 (fdb ti105 ?_); refine o1 (ldb ti3 ?_); refine o1 (isu ?_); refine o1 (igt ?_); refine nx ?_; refine cd (fun h9 => ?_) (fun h9 => ?_)
    · (try simp only [nrm, Int.reduceEq, Int.reduceNe, Int.reduceLT, Int.reduceLE] at h9)
      refine kp [0] ?_; refine runs_region ?_; refine o1 (asg ?_); refine ops_nil ?_; refine inb_normal ?_; refine seq_normal ?_; refine runs_seq ?_; refine sr ?_; refine o1 (mv ?_); refine o1 (ilt ?_); refine nx ?_
      refine cdf (fun h19 => ?_) (fun h19 => ?_)
      · simp only [nrm, Int.reduceEq, Int.reduceNe, Int.reduceLT, Int.reduceLE] at h19
      (try simp only [nrm, Int.reduceEq, Int.reduceNe, Int.reduceLT, Int.reduceLE] at h19); refine sr ?_; refine o1 (mv ?_); refine o1 (ncb ?_); refine o1 (fdb ti105 ?_); refine oc (sto ti9 ?_); refine nx ?_; refine runs_ret ?_; refine seq_ret ?_
      refine fin_ret ?_; refine fin_od (l := []) rfl rfl ([0]) ([scO s p ⟨#[0]⟩ i]) rfl rfl rfl ?_ ?_
      · repeat (first | exact boz | refine boc ?_)
      · have h := step_no (tok_nameNo hi hi1 (by omega) h7 (spanB_step hi1 (nameB_mono h7)).symm (by omega))
        refine ⟨rfl, ?_⟩
        rw [h.1, h.2.1, h.2.2]; rfl
    (try simp only [nrm, Int.reduceEq, Int.reduceNe, Int.reduceLT, Int.reduceLE] at h9); refine runs_skip ?_; refine inb_normal ?_; refine seq_normal ?_; refine runs_seq ?_; refine kp [2, 0] ?_; refine sr ?_; refine o1 (mv ?_)
    refine o1 (ilt ?_); refine nx ?_; refine cd (fun h19 => ?_) (fun h19 => ?_)
    · (try simp only [nrm, Int.reduceEq, Int.reduceNe, Int.reduceLT, Int.reduceLE] at h19); contradiction
    (try simp only [nrm, Int.reduceEq, Int.reduceNe, Int.reduceLT, Int.reduceLE] at h19); refine runs_skip ?_; refine seq_normal ?_; refine a_start ?_ (hm := by exact mixed); refine A1 0 rfl (mv ⟨_, rfl, ?_⟩); refine A1 1 rfl (mv ⟨_, rfl, ?_⟩)
    refine A1 2 rfl (mv ⟨_, rfl, ?_⟩); refine A1 3 rfl (ncb ⟨_, rfl, ?_⟩); refine A1 4 rfl (fdb ti105 ⟨_, rfl, ?_⟩); refine A1 5 rfl (ldb ti9 ⟨_, rfl, ?_⟩); refine A1 6 rfl (mv ⟨_, rfl, ?_⟩); refine A1 7 rfl (ncb ⟨_, rfl, ?_⟩)
    refine A1 8 rfl (fdb ti105 ⟨_, rfl, ?_⟩); refine A1 9 rfl (ldb ti3 ⟨_, rfl, ?_⟩); refine A1 10 rfl (mv ⟨_, rfl, ?_⟩); refine A1 11 rfl (f_sub_lh ut9 ⟨_, rfl, ?_⟩); refine A1 12 rfl (mv ⟨_, rfl, ?_⟩); refine A1 13 rfl (ncb ⟨_, rfl, ?_⟩)
    refine A1 14 rfl (fdb ti105 ⟨_, rfl, ?_⟩); refine A2 15 rfl (sto ti9 ?_); refine A1 16 rfl (ncb ⟨_, rfl, ?_⟩); refine A1 17 rfl (fdb ti105 ⟨_, rfl, ?_⟩); refine A2 18 rfl (sto ti3 ?_); refine a_end ?_; refine fin_normal ?_
    refine fin_od (l := []) rfl rfl ([0]) ([scO s (spanB (fun x => nameB x false) s i) (s.extract i (spanB (fun x => nameB x false) s i)) i]) rfl rfl rfl ?_ ?_
    · repeat (first | exact boz | refine boc ?_)
    · have h := step_yes (tok_name hi hi1 (by omega) h7 (spanB_step hi1 (nameB_mono h7)).symm (by omega))
      refine ⟨rfl, ?_⟩
      rw [h.1, h.2.1, h.2.2, show i + (s.extract i (spanB (fun x => nameB x false) s i)).size = (spanB (fun x => nameB x false) s i) by rw [ByteArray.size_extract]; omega]; rfl
  (try simp only [nrm, Int.reduceEq, Int.reduceNe, Int.reduceLT, Int.reduceLE] at h7); refine sr ?_; refine o1 (mv ?_); refine o1 (ieq ?_); refine o1 (mv ?_)
  apply ops_or (yt := 77) (d := 75) 2 rfl rfl rfl (.none rfl) rfl rfl
  case h1 =>
    intro hb4 hK
    have hc := hb4; (try simp only [nrm, Int.reduceEq, Int.reduceNe, Int.reduceLT, Int.reduceLE] at hc)
    refine gye ?_ (hbw := by exact hb4); refine o1 (mv ?_); refine gye ?_ (hbw := by exact hb4); refine oc (cv ca122 rfl rfl (digit_spec (byteAt s i)) (fir .nil) ?_); exact hK [_, _] rfl rfl
  case h2 =>
    intro hb4 hK; refine gno ?_ (hbw := by exact hb4); refine gno ?_ (hbw := by exact hb4); exact hK [_, _] rfl
  refine o1 (asg ?_); refine nx ?_; refine cdf (fun h11 => ?_) (fun h11 => ?_)
  · (try simp only [nrm, Int.reduceEq, Int.reduceNe, Int.reduceLT, Int.reduceLE] at h11)
    refine kp [0] ?_; refine runs_region ?_; refine o1 (asg ?_); refine ops_nil ?_; refine inb_normal ?_; refine seq_normal ?_; refine runs_seq ?_; refine sr ?_; refine o1 (mv ?_); refine o1 (ilt ?_); refine nx ?_
    refine cdf (fun h19 => ?_) (fun h19 => ?_)
    · simp only [nrm, Int.reduceEq, Int.reduceNe, Int.reduceLT, Int.reduceLE] at h19
    (try simp only [nrm, Int.reduceEq, Int.reduceNe, Int.reduceLT, Int.reduceLE] at h19); refine sr ?_; refine o1 (mv ?_); refine o1 (ncb ?_); refine o1 (fdb ti105 ?_); refine oc (sto ti9 ?_); refine nx ?_; refine runs_ret ?_; refine seq_ret ?_
    refine fin_ret ?_; refine fin_od (l := []) rfl rfl ([0]) ([scO s p ⟨#[0]⟩ i]) rfl rfl rfl ?_ ?_
    · repeat (first | exact boz | refine boc ?_)
    · have h := step_no (tok_none hi hi1 (by omega) h7 (by simp only [digB, decide_eq_false_iff_not] at h11; omega))
      refine ⟨rfl, ?_⟩
      rw [h.1, h.2.1, h.2.2]; rfl
  (try simp only [nrm, Int.reduceEq, Int.reduceNe, Int.reduceLT, Int.reduceLE] at h11); refine kp [3, 0] ?_; refine sr ?_; refine o1 (mv ?_); refine o1 (ncb ?_); refine o1 (fdb ti105 ?_); refine o1 (ldb ti3 ?_); refine o1 (asg ?_)
  refine nx ?_; refine runs_seq ?_; refine kp [4, 3, 0] ?_; refine sr ?_; refine o1 (mv ?_); refine o1 (ieq ?_); refine nx ?_; refine cdf (fun h13 => ?_) (fun h13 => ?_)
  · (try simp only [nrm, Int.reduceEq, Int.reduceNe, Int.reduceLT, Int.reduceLE] at h13)
    refine runs_skip ?_; refine seq_normal ?_; refine sr ?_; refine o1 (mv ?_); refine o1 (mv ?_)
    refine oc (ck ca118 rfl rfl (run_spec 122 _ (.inr rfl) digB ca122 (fun c _ _ => digit_spec c) s hs i p tok0 i hil.2) [0] rfl (boc .nil) (fir (fir (fir .nil))) ?_); refine o1 (asg ?_); refine nx ?_; refine kp [2, 4, 0] ?_; refine sr ?_
    refine o1 (mv ?_); refine o1 (mv ?_); refine o1 (isu ?_); refine o1 (asg ?_); refine nx ?_; refine sr ?_; refine o1 (mv ?_); refine o1 (ieq ?_); refine o1 (mv ?_)
    apply ops_or (yt := 97) (d := 95) 2 rfl rfl rfl (.none rfl) rfl rfl
    case h1 =>
      intro hb4 hK
      have hc := hb4; (try simp only [nrm, Int.reduceEq, Int.reduceNe, Int.reduceLT, Int.reduceLE] at hc)
      refine gye ?_ (hbw := by exact hb4); refine o1 (mv ?_); refine gye ?_ (hbw := by exact hb4); refine o1 (igt ?_); exact hK [_, _] rfl rfl
    case h2 =>
      intro hb4 hK; refine gno ?_ (hbw := by exact hb4); refine gno ?_ (hbw := by exact hb4); exact hK [_, _] rfl
    refine o1 (mv ?_)
    apply ops_or (yt := 110) (d := 99) 11 rfl rfl rfl (.none rfl) rfl rfl
    case h1 =>
      intro hb12 hK
      have hc := hb12; (try simp only [nrm, Int.reduceEq, Int.reduceNe, Int.reduceLT, Int.reduceLE] at hc)
      refine gye ?_ (hbw := by exact hb12); refine o1 (mv ?_); refine gye ?_ (hbw := by exact hb12); refine o1 (igt ?_); refine gye ?_ (hbw := by exact hb12); refine o1 (mv ?_)
      apply ops_and (yt := 109) (d := 102) 7 rfl rfl rfl (.yes rfl rfl rfl hb12) rfl rfl
      case h1 =>
        intro hb19 hK
        have hc := hb19; (try simp only [nrm, Int.reduceEq, Int.reduceNe, Int.reduceLT, Int.reduceLE] at hc)
        refine gye ?_ (hbw := by exact hb19); refine o1 (mv ?_); refine gye ?_ (hbw := by exact hb19); refine o1 (ncb ?_); refine gye ?_ (hbw := by exact hb19); refine o1 (fdb ti105 ?_); refine gye ?_ (hbw := by exact hb19); refine o1 (ldb ti9 ?_)
        refine gye ?_ (hbw := by exact hb19); refine o1 (mv ?_); refine gye ?_ (hbw := by exact hb19); refine o1 (byt ut9 ?_); refine gye ?_ (hbw := by exact hb19); refine o1 (ieq ?_); exact hK [_, _, _, _, _, _, _] rfl rfl
      case h2 =>
        intro hb19 hK; refine gno ?_ (hbw := by exact hb19); refine gno ?_ (hbw := by exact hb19); refine gno ?_ (hbw := by exact hb19); refine gno ?_ (hbw := by exact hb19); refine gno ?_ (hbw := by exact hb19); refine gno ?_ (hbw := by exact hb19)
        refine gno ?_ (hbw := by exact hb19); exact hK [_, _, _, _, _, _, _] rfl
      exact hK [_, _, _, _] rfl rfl
    case h2 =>
      intro hb12 hK; refine gno ?_ (hbw := by exact hb12); refine gno ?_ (hbw := by exact hb12); refine gno ?_ (hbw := by exact hb12); refine gud ?_; refine gud ?_; refine gud ?_; refine gud ?_; refine gud ?_; refine gud ?_; refine gud ?_
      refine gno ?_ (hbw := by exact hb12); exact hK [_, _, _, _, _, _, _, _, _, _, _] rfl
    refine nx ?_; refine cd (fun h17 => ?_) (fun h17 => ?_)
    · (try simp only [nrm, Int.reduceEq, Int.reduceNe, Int.reduceLT, Int.reduceLE] at h17)
      refine kp [0] ?_; refine runs_region ?_; refine o1 (asg ?_); refine ops_nil ?_; refine inb_normal ?_; refine seq_normal ?_; refine runs_seq ?_; refine sr ?_; refine o1 (mv ?_); refine o1 (ilt ?_); refine nx ?_
      refine cdf (fun h19 => ?_) (fun h19 => ?_)
      · simp only [nrm, Int.reduceEq, Int.reduceNe, Int.reduceLT, Int.reduceLE] at h19
      (try simp only [nrm, Int.reduceEq, Int.reduceNe, Int.reduceLT, Int.reduceLE] at h19); refine sr ?_; refine o1 (mv ?_); refine o1 (ncb ?_); refine o1 (fdb ti105 ?_); refine oc (sto ti9 ?_); refine nx ?_; refine runs_ret ?_; refine seq_ret ?_
      refine fin_ret ?_; refine fin_od (l := []) rfl rfl ([0]) ([scO s p ⟨#[0]⟩ i]) rfl rfl rfl ?_ ?_
      · repeat (first | exact boz | refine boc ?_)
      · have h := step_no (tok_numNo hi hi1 (by omega) h7 (by simp only [digB, decide_eq_true_eq] at h11; omega) (spanB_step hi1 (by rcases h11 with h11 | h11; omega; exact h11)).symm (if_neg h13) (by omega))
        refine ⟨rfl, ?_⟩
        rw [h.1, h.2.1, h.2.2]; rfl
    (try simp only [nrm, Int.reduceEq, Int.reduceNe, Int.reduceLT, Int.reduceLE] at h17); refine runs_skip ?_; refine inb_normal ?_; refine seq_normal ?_; refine runs_seq ?_; refine kp [2, 0] ?_; refine sr ?_; refine o1 (mv ?_)
    refine o1 (ilt ?_); refine nx ?_; refine cd (fun h19 => ?_) (fun h19 => ?_)
    · (try simp only [nrm, Int.reduceEq, Int.reduceNe, Int.reduceLT, Int.reduceLE] at h19); contradiction
    (try simp only [nrm, Int.reduceEq, Int.reduceNe, Int.reduceLT, Int.reduceLE] at h19); refine runs_skip ?_; refine seq_normal ?_; refine a_start ?_ (hm := by exact mixed); refine A1 0 rfl (mv ⟨_, rfl, ?_⟩); refine A1 1 rfl (mv ⟨_, rfl, ?_⟩)
    refine A1 2 rfl (mv ⟨_, rfl, ?_⟩); refine A1 3 rfl (ncb ⟨_, rfl, ?_⟩); refine A1 4 rfl (fdb ti105 ⟨_, rfl, ?_⟩); refine A1 5 rfl (ldb ti9 ⟨_, rfl, ?_⟩); refine A1 6 rfl (mv ⟨_, rfl, ?_⟩); refine A1 7 rfl (ncb ⟨_, rfl, ?_⟩)
    refine A1 8 rfl (fdb ti105 ⟨_, rfl, ?_⟩); refine A1 9 rfl (ldb ti3 ⟨_, rfl, ?_⟩); refine A1 10 rfl (mv ⟨_, rfl, ?_⟩); refine A1 11 rfl (f_sub_lh ut9 ⟨_, rfl, ?_⟩); refine A1 12 rfl (mv ⟨_, rfl, ?_⟩); refine A1 13 rfl (ncb ⟨_, rfl, ?_⟩)
    refine A1 14 rfl (fdb ti105 ⟨_, rfl, ?_⟩); refine A2 15 rfl (sto ti9 ?_); refine A1 16 rfl (ncb ⟨_, rfl, ?_⟩); refine A1 17 rfl (fdb ti105 ⟨_, rfl, ?_⟩); refine A2 18 rfl (sto ti3 ?_); refine a_end ?_; refine fin_normal ?_
    refine fin_od (l := []) rfl rfl ([0]) ([scO s (spanB digB s i) (s.extract i (spanB digB s i)) i]) rfl rfl rfl ?_ ?_
    · repeat (first | exact boz | refine boc ?_)
    · have h := step_yes (tok_num hi hi1 (by omega) h7 (by simp only [digB, decide_eq_true_eq] at h11; omega) (spanB_step hi1 (by rcases h11 with h11 | h11; omega; exact h11)).symm (if_neg h13) (by omega))
      refine ⟨rfl, ?_⟩
      rw [h.1, h.2.1, h.2.2, show i + (s.extract i (spanB digB s i)).size = (spanB digB s i) by rw [ByteArray.size_extract]; omega]; rfl
  (try simp only [nrm, Int.reduceEq, Int.reduceNe, Int.reduceLT, Int.reduceLE] at h13); refine runs_region ?_; refine o1 (mv ?_); refine o1 (iad ?_); refine o1 (asg ?_); refine nx ?_; refine kp [4, 0] ?_; refine sr ?_; refine o1 (mv ?_)
  refine o1 (mv ?_); refine oc (ck ca118 rfl rfl (run_spec 122 _ (.inr rfl) digB ca122 (fun c _ _ => digit_spec c) s hs (i + 1) p tok0 i (by omega)) [0] rfl (boc .nil) (fir (fir (fir .nil))) ?_); refine o1 (asg ?_); refine nx ?_; refine sr ?_
  refine o1 (mv ?_); refine o1 (mv ?_); refine o1 (isu ?_); refine o1 (asg ?_); refine nx ?_; refine kp [5, 2, 4, 0] ?_; refine sr ?_; refine o1 (mv ?_); refine o1 (ieq ?_); refine o1 (mv ?_)
  apply ops_or (yt := 97) (d := 95) 2 rfl rfl rfl (.none rfl) rfl rfl
  case h1 =>
    intro hb4 hK
    have hc := hb4; (try simp only [nrm, Int.reduceEq, Int.reduceNe, Int.reduceLT, Int.reduceLE] at hc)
    refine gye ?_ (hbw := by exact hb4); refine o1 (mv ?_); refine gye ?_ (hbw := by exact hb4); refine o1 (igt ?_); exact hK [_, _] rfl rfl
  case h2 =>
    intro hb4 hK; refine gno ?_ (hbw := by exact hb4); refine gno ?_ (hbw := by exact hb4); exact hK [_, _] rfl
  refine o1 (mv ?_)
  apply ops_or (yt := 110) (d := 99) 11 rfl rfl rfl (.none rfl) rfl rfl
  case h1 =>
    intro hb12 hK
    have hc := hb12; (try simp only [nrm, Int.reduceEq, Int.reduceNe, Int.reduceLT, Int.reduceLE] at hc)
    refine gye ?_ (hbw := by exact hb12); refine o1 (mv ?_); refine gye ?_ (hbw := by exact hb12); refine o1 (igt ?_); refine gye ?_ (hbw := by exact hb12); refine o1 (mv ?_)
    apply ops_and (yt := 109) (d := 102) 7 rfl rfl rfl (.yes rfl rfl rfl hb12) rfl rfl
    case h1 =>
      intro hb19 hK
      have hc := hb19; (try simp only [nrm, Int.reduceEq, Int.reduceNe, Int.reduceLT, Int.reduceLE] at hc)
      refine gye ?_ (hbw := by exact hb19); refine o1 (mv ?_); refine gye ?_ (hbw := by exact hb19); refine o1 (ncb ?_); refine gye ?_ (hbw := by exact hb19); refine o1 (fdb ti105 ?_); refine gye ?_ (hbw := by exact hb19); refine o1 (ldb ti9 ?_)
      refine gye ?_ (hbw := by exact hb19); refine o1 (mv ?_); refine gye ?_ (hbw := by exact hb19); refine o1 (byt ut9 ?_); refine gye ?_ (hbw := by exact hb19); refine o1 (ieq ?_); exact hK [_, _, _, _, _, _, _] rfl rfl
    case h2 =>
      intro hb19 hK; refine gno ?_ (hbw := by exact hb19); refine gno ?_ (hbw := by exact hb19); refine gno ?_ (hbw := by exact hb19); refine gno ?_ (hbw := by exact hb19); refine gno ?_ (hbw := by exact hb19); refine gno ?_ (hbw := by exact hb19)
      refine gno ?_ (hbw := by exact hb19); exact hK [_, _, _, _, _, _, _] rfl
    exact hK [_, _, _, _] rfl rfl
  case h2 =>
    intro hb12 hK; refine gno ?_ (hbw := by exact hb12); refine gno ?_ (hbw := by exact hb12); refine gno ?_ (hbw := by exact hb12); refine gud ?_; refine gud ?_; refine gud ?_; refine gud ?_; refine gud ?_; refine gud ?_; refine gud ?_
    refine gno ?_ (hbw := by exact hb12); exact hK [_, _, _, _, _, _, _, _, _, _, _] rfl
  refine nx ?_; refine cd (fun h17 => ?_) (fun h17 => ?_)
  · (try simp only [nrm, Int.reduceEq, Int.reduceNe, Int.reduceLT, Int.reduceLE] at h17)
    refine kp [0] ?_; refine runs_region ?_; refine o1 (asg ?_); refine ops_nil ?_; refine inb_normal ?_; refine seq_normal ?_; refine runs_seq ?_; refine sr ?_; refine o1 (mv ?_); refine o1 (ilt ?_); refine nx ?_
    refine cdf (fun h19 => ?_) (fun h19 => ?_)
    · simp only [nrm, Int.reduceEq, Int.reduceNe, Int.reduceLT, Int.reduceLE] at h19
    (try simp only [nrm, Int.reduceEq, Int.reduceNe, Int.reduceLT, Int.reduceLE] at h19); refine sr ?_; refine o1 (mv ?_); refine o1 (ncb ?_); refine o1 (fdb ti105 ?_); refine oc (sto ti9 ?_); refine nx ?_; refine runs_ret ?_; refine seq_ret ?_
    refine fin_ret ?_; refine fin_od (l := []) rfl rfl ([0]) ([scO s p ⟨#[0]⟩ i]) rfl rfl rfl ?_ ?_
    · repeat (first | exact boz | refine boc ?_)
    · have h := step_no (tok_numNo hi hi1 (by omega) h7 (by simp only [digB, decide_eq_true_eq] at h11; omega) rfl (if_pos h13) (by omega))
      refine ⟨rfl, ?_⟩
      rw [h.1, h.2.1, h.2.2]; rfl
  (try simp only [nrm, Int.reduceEq, Int.reduceNe, Int.reduceLT, Int.reduceLE] at h17); refine runs_skip ?_; refine inb_normal ?_; refine seq_normal ?_; refine runs_seq ?_; refine kp [2, 0] ?_; refine sr ?_; refine o1 (mv ?_)
  refine o1 (ilt ?_); refine nx ?_; refine cd (fun h19 => ?_) (fun h19 => ?_)
  · (try simp only [nrm, Int.reduceEq, Int.reduceNe, Int.reduceLT, Int.reduceLE] at h19); contradiction
  (try simp only [nrm, Int.reduceEq, Int.reduceNe, Int.reduceLT, Int.reduceLE] at h19); refine runs_skip ?_; refine seq_normal ?_; refine a_start ?_ (hm := by exact mixed); refine A1 0 rfl (mv ⟨_, rfl, ?_⟩); refine A1 1 rfl (mv ⟨_, rfl, ?_⟩)
  refine A1 2 rfl (mv ⟨_, rfl, ?_⟩); refine A1 3 rfl (ncb ⟨_, rfl, ?_⟩); refine A1 4 rfl (fdb ti105 ⟨_, rfl, ?_⟩); refine A1 5 rfl (ldb ti9 ⟨_, rfl, ?_⟩); refine A1 6 rfl (mv ⟨_, rfl, ?_⟩); refine A1 7 rfl (ncb ⟨_, rfl, ?_⟩)
  refine A1 8 rfl (fdb ti105 ⟨_, rfl, ?_⟩); refine A1 9 rfl (ldb ti3 ⟨_, rfl, ?_⟩); refine A1 10 rfl (mv ⟨_, rfl, ?_⟩); refine A1 11 rfl (f_sub_lh ut9 ⟨_, rfl, ?_⟩); refine A1 12 rfl (mv ⟨_, rfl, ?_⟩); refine A1 13 rfl (ncb ⟨_, rfl, ?_⟩)
  refine A1 14 rfl (fdb ti105 ⟨_, rfl, ?_⟩); refine A2 15 rfl (sto ti9 ?_); refine A1 16 rfl (ncb ⟨_, rfl, ?_⟩); refine A1 17 rfl (fdb ti105 ⟨_, rfl, ?_⟩); refine A2 18 rfl (sto ti3 ?_); refine a_end ?_; refine fin_normal ?_
  refine fin_od (l := []) rfl rfl ([0]) ([scO s (spanB digB s (i + 1)) (s.extract i (spanB digB s (i + 1))) i]) rfl rfl rfl ?_ ?_
  · repeat (first | exact boz | refine boc ?_)
  · have h := step_yes (tok_num hi hi1 (by omega) h7 (by simp only [digB, decide_eq_true_eq] at h11; omega) rfl (if_pos h13) (by omega))
    refine ⟨rfl, ?_⟩
    rw [h.1, h.2.1, h.2.2, show i + (s.extract i (spanB digB s (i + 1))).size = (spanB digB s (i + 1)) by rw [ByteArray.size_extract]; omega]; rfl
end Go.Proofs.YtneaancanfpdhaaGreatDoor
