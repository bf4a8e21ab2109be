/-
  What is proved here: contracts of the reference's reader: peek, name, number.
-/
import Derived.Test.YtneaancanfpdhaaGreatDoorYTerm
import Derived.Test.YtneaancanfpdhaaGreatDoorYR7
set_option linter.unusedSimpArgs false
set_option linter.unusedVariables false
namespace Go.Proofs.YtneaancanfpdhaaGreatDoor
open Go Go.Vd Go.RowKit
attribute [local irreducible] Runs OpsR OpR FloatR AnyR
variable {gl : Nat → List D}

theorem peek_spec (s : ByteArray) (r : RS) (hs : s.size ≤ 1099511627776) (hp : r.p ≤ s.size) :
    Tri Tryz.prog gl 87 [rdO s r] [.blk 0 0] fun out ob' => out = .ret (.d (.v (.string (peekR s r)))) ∧ ob' = [rdO s r] := by
  obtain ⟨p, f⟩ := r
  simp only at hp
  cases f with
  | none =>
    refine triS_of_runs Tryz.func87 rfl Tryz.ntmps87 (rs := [.tmp 2]) rfl rfl rfl 1 rfl ?_
    refine sr ?_; refine o1 (asg ?_); refine nx ?_; refine sr ?_; refine o1 (mv ?_); refine oc (ck ca82 rfl rfl (token_spec s p (fcode none) (fat none) hs hp) [0] rfl (boc .nil) (fir .nil) ?_); refine o1 (mv ?_); refine o1 (ex2 ?_)
    refine o1 (ex2 ?_); refine o1 (ex2 ?_); refine o1 (asg ?_); refine o1 (asg ?_); refine o1 (asg ?_); refine nx ?_; refine runs_seq ?_; refine kp [5, 3, 0] ?_; refine sr ?_; refine o1 (mv ?_); refine o1 (f_not ?_); refine o1 (mv ?_)
    apply ops_or (yt := 20) (d := 14) 6 rfl rfl rfl (.none rfl) rfl rfl
    case h1 =>
      intro hb4 hK
      have hc := hb4; (try simp only [nrm, Int.reduceEq, Int.reduceNe, Int.reduceLT, Int.reduceLE, fcode, fat] at hc)
      refine gye ?_ (hbw := by exact hb4); refine o1 (mv ?_); refine gye ?_ (hbw := by exact hb4); refine o1 (ncb ?_); refine gye ?_ (hbw := by exact hb4); refine o1 (fdb ti71 ?_); refine gye ?_ (hbw := by exact hb4); refine o1 (fdb ti33 ?_)
      refine gye ?_ (hbw := by exact hb4); refine o1 (ldb ti3 ?_); refine gye ?_ (hbw := by exact hb4); refine o1 (ine ?_); exact hK [_, _, _, _, _, _] rfl rfl
    case h2 =>
      intro hb4 hK; refine gno ?_ (hbw := by exact hb4); refine gno ?_ (hbw := by exact hb4); refine gno ?_ (hbw := by exact hb4); refine gno ?_ (hbw := by exact hb4); refine gno ?_ (hbw := by exact hb4); refine gno ?_ (hbw := by exact hb4)
      exact hK [_, _, _, _, _, _] rfl
    refine nx ?_; refine cd (fun h2 => ?_) (fun h2 => ?_)
    · (try simp only [nrm, Int.reduceEq, Int.reduceNe, Int.reduceLT, Int.reduceLE, fcode, fat] at h2)
      refine kp [] ?_; refine sr ?_; refine o1 (asg ?_); refine nx ?_; refine runs_ret ?_; refine seq_ret ?_; refine fin_ret ?_; refine fin_od ⟨_, _, rfl, rfl, rfl⟩ rfl ([0]) ([rdO s ⟨p, none⟩]) rfl rfl rfl ?_ ?_
      · repeat (first | exact boz | refine boc ?_)
      · refine ⟨?_, rfl⟩; unfold peekR; dsimp only; rw [if_pos (by simp_all)]; rfl
    (try simp only [nrm, Int.reduceEq, Int.reduceNe, Int.reduceLT, Int.reduceLE, fcode, fat] at h2); refine runs_skip ?_; refine seq_normal ?_; refine kp [3] ?_; refine sr ?_; refine o1 (mv ?_); refine o1 (asg ?_); refine nx ?_
    refine runs_ret ?_; refine fin_ret ?_; refine fin_od ⟨_, _, rfl, rfl, rfl⟩ rfl ([0]) ([rdO s ⟨p, none⟩]) rfl rfl rfl ?_ ?_
    · repeat (first | exact boz | refine boc ?_)
    · refine ⟨?_, rfl⟩; unfold peekR; dsimp only; rw [if_neg (by simp_all)]
  | some a =>
    refine triS_of_runs Tryz.func87 rfl Tryz.ntmps87 (rs := [.tmp 2]) rfl rfl rfl 1 rfl ?_
    refine sr ?_; refine o1 (asg ?_); refine nx ?_; refine sr ?_; refine o1 (mv ?_); refine oc (ck ca82 rfl rfl (token_spec s p (fcode (some a)) (fat (some a)) hs hp) [0] rfl (boc .nil) (fir .nil) ?_); refine o1 (mv ?_); refine o1 (ex2 ?_)
    refine o1 (ex2 ?_); refine o1 (ex2 ?_); refine o1 (asg ?_); refine o1 (asg ?_); refine o1 (asg ?_); refine nx ?_; refine runs_seq ?_; refine kp [5, 3, 0] ?_; refine sr ?_; refine o1 (mv ?_); refine o1 (f_not ?_); refine o1 (mv ?_)
    apply ops_or (yt := 20) (d := 14) 6 rfl rfl rfl (.none rfl) rfl rfl
    case h1 =>
      intro hb4 hK
      have hc := hb4; (try simp only [nrm, Int.reduceEq, Int.reduceNe, Int.reduceLT, Int.reduceLE, fcode, fat] at hc)
      refine gye ?_ (hbw := by exact hb4); refine o1 (mv ?_); refine gye ?_ (hbw := by exact hb4); refine o1 (ncb ?_); refine gye ?_ (hbw := by exact hb4); refine o1 (fdb ti71 ?_); refine gye ?_ (hbw := by exact hb4); refine o1 (fdb ti33 ?_)
      refine gye ?_ (hbw := by exact hb4); refine o1 (ldb ti3 ?_); refine gye ?_ (hbw := by exact hb4); refine o1 (ine ?_); exact hK [_, _, _, _, _, _] rfl rfl
    case h2 =>
      intro hb4 hK; refine gno ?_ (hbw := by exact hb4); refine gno ?_ (hbw := by exact hb4); refine gno ?_ (hbw := by exact hb4); refine gno ?_ (hbw := by exact hb4); refine gno ?_ (hbw := by exact hb4); refine gno ?_ (hbw := by exact hb4)
      exact hK [_, _, _, _, _, _] rfl
    refine nx ?_; refine cdf (fun h2 => ?_) (fun h2 => ?_)
    · simp only [nrm, Int.reduceEq, Int.reduceNe, Int.reduceLT, Int.reduceLE, fcode, fat] at h2
    (try simp only [nrm, Int.reduceEq, Int.reduceNe, Int.reduceLT, Int.reduceLE, fcode, fat] at h2); refine kp [] ?_; refine sr ?_; refine o1 (asg ?_); refine nx ?_; refine runs_ret ?_; refine seq_ret ?_; refine fin_ret ?_
    refine fin_od ⟨_, _, rfl, rfl, rfl⟩ rfl ([0]) ([rdO s ⟨p, some a⟩]) rfl rfl rfl ?_ ?_
    · repeat (first | exact boz | refine boc ?_)
    · refine ⟨?_, rfl⟩; unfold peekR; dsimp only; rw [if_pos (by simp)]; rfl

theorem name_spec (s : ByteArray) (r : RS) (hs : s.size ≤ 1099511627776) (hp : r.p ≤ s.size) :
    Tri Tryz.prog gl 86 [rdO s r] [.blk 0 0] fun out ob' => out = .ret (.d (.v (.string (nameR s r).1))) ∧ ob' = [rdO s (nameR s r).2] := by
  have hat := tokR_at (s := s) hp
  obtain ⟨p, f⟩ := r
  simp only at hat hp
  cases f with
  | none =>
    refine triS_of_runs Tryz.func86 rfl Tryz.ntmps86 (rs := [.tmp 2]) rfl rfl rfl 1 rfl ?_
    refine sr ?_; refine o1 (asg ?_); refine nx ?_; refine sr ?_; refine o1 (mv ?_); refine oc (ck ca82 rfl rfl (token_spec s p (fcode none) (fat none) hs hp) [0] rfl (boc .nil) (fir .nil) ?_); refine o1 (mv ?_); refine o1 (ex2 ?_)
    refine o1 (ex2 ?_); refine o1 (ex2 ?_); refine o1 (asg ?_); refine o1 (asg ?_); refine o1 (asg ?_); refine nx ?_; refine kp [5, 4, 3, 0] ?_; refine sr ?_; refine o1 (mv ?_)
    refine oc (cv ca97 rfl rfl (isName_spec (tokR s p).1) (fir .nil) ?_); refine o1 (asg ?_); refine nx ?_; refine runs_seq ?_; refine sr ?_; refine o1 (mv ?_); refine o1 (f_not ?_); refine o1 (mv ?_)
    apply ops_or (yt := 19) (d := 17) 2 rfl rfl rfl (.none rfl) rfl rfl
    case h1 =>
      intro hb4 hK
      have hc := hb4; (try simp only [nrm, Int.reduceEq, Int.reduceNe, Int.reduceLT, Int.reduceLE, fcode, fat, RS.fail] at hc)
      refine gye ?_ (hbw := by exact hb4); refine o1 (mv ?_); refine gye ?_ (hbw := by exact hb4); refine o1 (f_not ?_); exact hK [_, _] rfl rfl
    case h2 =>
      intro hb4 hK; refine gno ?_ (hbw := by exact hb4); refine gno ?_ (hbw := by exact hb4); exact hK [_, _] rfl
    refine nx ?_; refine cd (fun h3 => ?_) (fun h3 => ?_)
    · (try simp only [nrm, Int.reduceEq, Int.reduceNe, Int.reduceLT, Int.reduceLE, fcode, fat, RS.fail] at h3)
      refine kp [4, 3, 0] ?_; refine runs_region ?_; refine o1 (mv ?_); refine o1 (mv ?_); refine oc (ck ca83 rfl rfl (fail_spec s (tokR s p).2.1 ⟨p, none⟩) [0] rfl (boc .nil) (fir (fir .nil)) ?_); refine nx ?_; refine runs_seq ?_; refine sr ?_
      refine o1 (mv ?_); refine o1 (ncb ?_); refine o1 (fdb ti71 ?_); refine o1 (fdb ti33 ?_); refine o1 (ldb ti3 ?_); refine o1 (ine ?_); refine nx ?_; refine cdf (fun h5 => ?_) (fun h5 => ?_)
      · simp only [nrm, Int.reduceEq, Int.reduceNe, Int.reduceLT, Int.reduceLE, fcode, fat, RS.fail] at h5
      (try simp only [nrm, Int.reduceEq, Int.reduceNe, Int.reduceLT, Int.reduceLE, fcode, fat, RS.fail] at h5); refine kp [] ?_; refine sr ?_; refine o1 (asg ?_); refine nx ?_; refine runs_ret ?_; refine seq_ret ?_; refine fin_ret ?_
      refine fin_od ⟨_, _, rfl, rfl, rfl⟩ rfl ([0]) ([rdO s (RS.fail (tokR s p).2.1 ⟨p, none⟩)]) rfl rfl rfl ?_ ?_
      · repeat (first | exact boz | refine boc ?_)
      · unfold nameR; simp only; rw [if_pos (by simp_all)]; exact ⟨rfl, rfl⟩
    (try simp only [nrm, Int.reduceEq, Int.reduceNe, Int.reduceLT, Int.reduceLE, fcode, fat, RS.fail] at h3); refine runs_skip ?_; refine seq_normal ?_; refine runs_seq ?_; refine kp [4, 3, 0] ?_; refine sr ?_; refine o1 (mv ?_)
    refine o1 (ncb ?_); refine o1 (fdb ti71 ?_); refine o1 (fdb ti33 ?_); refine o1 (ldb ti3 ?_); refine o1 (ine ?_); refine nx ?_; refine cd (fun h5 => ?_) (fun h5 => ?_)
    · simp only [nrm, Int.reduceEq, Int.reduceNe, Int.reduceLT, Int.reduceLE, fcode, fat, RS.fail] at h5
    (try simp only [nrm, Int.reduceEq, Int.reduceNe, Int.reduceLT, Int.reduceLE, fcode, fat, RS.fail] at h5); refine runs_skip ?_; refine seq_normal ?_; refine kp [4, 3, 0] ?_; refine sr ?_; refine o1 (mv ?_); refine o1 (mv ?_)
    refine o1 (mv ?_); refine o1 (le3 ut9 ?_); refine o1 (iad ?_); refine o1 (ncb ?_); refine o1 (fdb ti71 ?_); refine oc (sto ti3 ?_); refine nx ?_; refine kp [3] ?_; refine sr ?_; refine o1 (mv ?_); refine o1 (asg ?_); refine nx ?_
    refine runs_ret ?_; refine fin_ret ?_; refine fin_od ⟨_, _, rfl, rfl, rfl⟩ rfl ([0]) ([rdO s ⟨(tokR s p).2.1 + (tokR s p).1.size, none⟩]) rfl rfl rfl ?_ ?_
    · repeat (first | exact boz | refine boc ?_)
    · unfold nameR; simp only; rw [if_neg (by simp_all)]; exact ⟨rfl, rfl⟩
  | some a =>
    refine triS_of_runs Tryz.func86 rfl Tryz.ntmps86 (rs := [.tmp 2]) rfl rfl rfl 1 rfl ?_
    refine sr ?_; refine o1 (asg ?_); refine nx ?_; refine sr ?_; refine o1 (mv ?_); refine oc (ck ca82 rfl rfl (token_spec s p (fcode (some a)) (fat (some a)) hs hp) [0] rfl (boc .nil) (fir .nil) ?_); refine o1 (mv ?_); refine o1 (ex2 ?_)
    refine o1 (ex2 ?_); refine o1 (ex2 ?_); refine o1 (asg ?_); refine o1 (asg ?_); refine o1 (asg ?_); refine nx ?_; refine kp [5, 4, 3, 0] ?_; refine sr ?_; refine o1 (mv ?_)
    refine oc (cv ca97 rfl rfl (isName_spec (tokR s p).1) (fir .nil) ?_); refine o1 (asg ?_); refine nx ?_; refine runs_seq ?_; refine sr ?_; refine o1 (mv ?_); refine o1 (f_not ?_); refine o1 (mv ?_)
    apply ops_or (yt := 19) (d := 17) 2 rfl rfl rfl (.none rfl) rfl rfl
    case h1 =>
      intro hb4 hK
      have hc := hb4; (try simp only [nrm, Int.reduceEq, Int.reduceNe, Int.reduceLT, Int.reduceLE, fcode, fat, RS.fail] at hc)
      refine gye ?_ (hbw := by exact hb4); refine o1 (mv ?_); refine gye ?_ (hbw := by exact hb4); refine o1 (f_not ?_); exact hK [_, _] rfl rfl
    case h2 =>
      intro hb4 hK; refine gno ?_ (hbw := by exact hb4); refine gno ?_ (hbw := by exact hb4); exact hK [_, _] rfl
    refine nx ?_; refine cdf (fun h3 => ?_) (fun h3 => ?_)
    · (try simp only [nrm, Int.reduceEq, Int.reduceNe, Int.reduceLT, Int.reduceLE, fcode, fat, RS.fail] at h3)
      refine runs_skip ?_; refine seq_normal ?_; refine runs_seq ?_; refine kp [4, 3, 0] ?_; refine sr ?_; refine o1 (mv ?_); refine o1 (ncb ?_); refine o1 (fdb ti71 ?_); refine o1 (fdb ti33 ?_); refine o1 (ldb ti3 ?_); refine o1 (ine ?_)
      refine nx ?_; refine cdf (fun h5 => ?_) (fun h5 => ?_)
      · simp only [nrm, Int.reduceEq, Int.reduceNe, Int.reduceLT, Int.reduceLE, fcode, fat, RS.fail] at h5
      (try simp only [nrm, Int.reduceEq, Int.reduceNe, Int.reduceLT, Int.reduceLE, fcode, fat, RS.fail] at h5); refine kp [] ?_; refine sr ?_; refine o1 (asg ?_); refine nx ?_; refine runs_ret ?_; refine seq_ret ?_; refine fin_ret ?_
      refine fin_od ⟨_, _, rfl, rfl, rfl⟩ rfl ([0]) ([rdO s ⟨p, some a⟩]) rfl rfl rfl ?_ ?_
      · repeat (first | exact boz | refine boc ?_)
      · unfold nameR; simp only; split <;> exact ⟨rfl, rfl⟩
    (try simp only [nrm, Int.reduceEq, Int.reduceNe, Int.reduceLT, Int.reduceLE, fcode, fat, RS.fail] at h3); refine kp [4, 3, 0] ?_; refine runs_region ?_; refine o1 (mv ?_); refine o1 (mv ?_)
    refine oc (ck ca83 rfl rfl (fail_spec s (tokR s p).2.1 ⟨p, some a⟩) [0] rfl (boc .nil) (fir (fir .nil)) ?_); refine nx ?_; refine runs_seq ?_; refine sr ?_; refine o1 (mv ?_); refine o1 (ncb ?_); refine o1 (fdb ti71 ?_)
    refine o1 (fdb ti33 ?_); refine o1 (ldb ti3 ?_); refine o1 (ine ?_); refine nx ?_; refine cdf (fun h5 => ?_) (fun h5 => ?_)
    · simp only [nrm, Int.reduceEq, Int.reduceNe, Int.reduceLT, Int.reduceLE, fcode, fat, RS.fail] at h5
    (try simp only [nrm, Int.reduceEq, Int.reduceNe, Int.reduceLT, Int.reduceLE, fcode, fat, RS.fail] at h5); refine kp [] ?_; refine sr ?_; refine o1 (asg ?_); refine nx ?_; refine runs_ret ?_; refine seq_ret ?_; refine fin_ret ?_
    refine fin_od ⟨_, _, rfl, rfl, rfl⟩ rfl ([0]) ([rdO s ⟨p, some a⟩]) rfl rfl rfl ?_ ?_
    · repeat (first | exact boz | refine boc ?_)
    · unfold nameR; simp only; split <;> exact ⟨rfl, rfl⟩

theorem number_spec (t : ByteArray) (h5 : t.size ≤ 5) (hd : allDig t) : TriD Tryz.prog gl 85 [.v (.string t)] (· = .v (.int .i64 (numR t t.size))) := by
  refine triD_of_runs Tryz.func85 rfl Tryz.ntmps85 (rs := [.tmp 2]) rfl rfl rfl ?_
  refine sr ?_; refine o1 (asg ?_); refine nx ?_; refine sr ?_; refine o1 (asg ?_); refine nx ?_; refine runs_seq ?_; refine sr ?_; refine o1 (asg ?_); refine nx ?_; refine runs_block ?_; refine kp [4, 3, 0] ?_
  apply runs_loop_c (ι := Nat) (fun i => [(4, int i), (3, int (numR t i))]) [0] (fun i => i ≤ t.size) (fun i => t.size - i) (0)
  case hk => exact rfl
  case hI =>
    exact Nat.zero_le _
  case hm =>
    refine mo ?_ (sly (sly (sly slz))); exact boz
  case h =>
    rintro i hinv
    try dsimp only at hinv
    refine kp [4, 3, 0] ?_; refine runs_seq ?_; refine sr ?_; refine o1 (mv ?_); refine o1 (mv ?_); refine o1 (le3 ut9 ?_); refine o1 (ilt ?_); refine nx ?_; refine cdf (fun h3 => ?_) (fun h3 => ?_)
    · (try simp only [nrm, Int.reduceEq, Int.reduceNe, Int.reduceLT, Int.reduceLE] at h3)
      refine runs_exit ?_; refine seq_exit ?_; refine seq_exit ?_; refine inb_exit ?_; refine seq_normal ?_; refine kp [3] ?_; refine sr ?_; refine o1 (mv ?_); refine o1 (asg ?_); refine nx ?_; refine runs_ret ?_; refine fin_ret ?_
      refine fin_d1 rfl rfl ?_
      have hi : i = t.size := by omega
      subst hi
      rfl
    (try simp only [nrm, Int.reduceEq, Int.reduceNe, Int.reduceLT, Int.reduceLE] at h3); refine runs_skip ?_; refine seq_normal ?_; refine runs_seq ?_; refine runs_block ?_; refine kp [4, 3, 0] ?_
    have hdi := hd i (by omega)
    have hnb := numR_bound hd i (by omega) (by omega)
    have hw : IntKind.wrap .i64 (sub8 (byteAt t ((i : Nat) : Int).toNat) 48) = byteAt t i - 48 := by rw [Int.toNat_natCast, sub8_digit hdi]; exact wrap_digit (by omega)
    refine runs_region ?_; refine o1 (mv ?_); refine o1 (fl_mul rfl rfl rfl (by omega) ?_); refine o1 (mv ?_); refine o1 (mv ?_); refine o1 (byt ut9 ?_); refine o1 (fl_sub8 rfl rfl rfl ?_); refine o1 (fl_conv ui3 uo5 rfl rfl ?_)
    refine o1 (iad ?_); refine o1 (asg ?_); refine ops_nil ?_; refine inb_normal ?_; refine seq_normal ?_; refine kp [3, 4, 0] ?_; refine runs_region ?_; refine o1 (mv ?_); refine o1 (iad ?_); refine o1 (asg ?_); refine ops_nil ?_
    refine seq_back ?_
    rw [hw]
    refine back_i (i + 1) rfl ?_ ?_
    · exact ⟨by omega, by omega⟩
    · refine mo ?_ (sly (sly (sly slz)))
      exact boz
end Go.Proofs.YtneaancanfpdhaaGreatDoor
