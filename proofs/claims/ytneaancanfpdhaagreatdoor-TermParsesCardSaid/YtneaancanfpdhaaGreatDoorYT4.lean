/-
  What is proved here: contracts of what the program's term.Read calls: strings.CutPrefix, strconv.Atoi (a few digits), slices.Index.
-/
import Derived.Test.YtneaancanfpdhaaGreatDoorYT2
import Derived.Test.YtneaancanfpdhaaGreatDoorYS4
set_option linter.unusedSimpArgs false
set_option linter.unusedVariables false
namespace Go.Proofs.YtneaancanfpdhaaGreatDoor
open Go Go.Vd Go.RowKit
attribute [local irreducible] Runs OpsR OpR FloatR AnyR AnyO
variable {g gl : Nat → List D}

/-- does the token begin with #? -/
def hashB (t : ByteArray) : Bool := decide (t ≠ .empty) && decide (byteAt t 0 = 35)
theorem hash_pre (t : ByteArray) : (1 ≤ t.size ∧ t.extract 0 1 = ⟨#[35]⟩) ↔ hashB t = true := by
  unfold hashB
  simp only [Bool.and_eq_true, decide_eq_true_eq]
  constructor
  · rintro ⟨h1, h2⟩
    refine ⟨fun e => by subst e; simp at h1, ?_⟩
    have h3 : byteAt (t.extract 0 1) 0 = byteAt t 0 := by rw [byteAt_extract t (by omega) h1]
    rw [← h3, h2]; rfl
  · rintro ⟨h1, h2⟩
    have h3 := size_pos h1
    refine ⟨h3, byteAt_inj (by rw [ByteArray.size_extract]; have : (ByteArray.mk #[35]).size = 1 := rfl; omega) fun i hi => ?_⟩
    rw [ByteArray.size_extract] at hi
    obtain rfl : i = 0 := by omega
    rw [byteAt_extract t (by omega) h3, Nat.zero_add, h2]; rfl

theorem hash_pre2 (t : ByteArray) : (decide (((ByteArray.mk #[35]).size : Int) ≤ (t.size : Int)) && decide (t.extract 0 (((ByteArray.mk #[35]).size : Nat) : Int).toNat = ⟨#[35]⟩)) = hashB t := by
  rw [Bool.eq_iff_iff, ← hash_pre, Bool.and_eq_true, decide_eq_true_eq, decide_eq_true_eq]
  show ((1 : Int) ≤ t.size ∧ t.extract 0 1 = _) ↔ _
  exact ⟨fun h => ⟨by omega, h.2⟩, fun h => ⟨by omega, h.2⟩⟩
theorem hasPrefix_spec (t : ByteArray) : TriD Tryz.prog gl 136 [.v (.string t), .v (.string ⟨#[35]⟩)] (· = .v (.bool (hashB t))) := by
  have h1s : (ByteArray.mk #[35]).size = 1 := rfl
  refine triD_of_runs Tryz.func136 rfl Tryz.ntmps136 (rs := [.tmp 4]) rfl rfl rfl ?_
  refine sr ?_; refine o1 (asg ?_); refine nx ?_; refine sr ?_; refine o1 (mv ?_); refine o1 (le3 ut9 ?_); refine o1 (mv ?_); refine o1 (le3 ut9 ?_); refine o1 (ige ?_); refine o1 (mv ?_)
  apply ops_and (yt := 16) (d := 10) 6 rfl rfl rfl (.none rfl) rfl rfl
  case h1 =>
    intro hb11 hK
    have hc := hb11; (try simp only [nrm, Int.reduceEq, Int.reduceNe, Int.reduceLT, Int.reduceLE] at hc)
    refine gye ?_ (hbw := by exact hb11); refine o1 (mv ?_); refine gye ?_ (hbw := by exact hb11); refine o1 (mv ?_); refine gye ?_ (hbw := by exact hb11); refine o1 (le3 ut9 ?_); refine gye ?_ (hbw := by exact hb11)
    refine o1 (fl_sub_h ut9 rfl rfl rfl (by omega) ?_); refine gye ?_ (hbw := by exact hb11); refine o1 (mv ?_); refine gye ?_ (hbw := by exact hb11); refine o1 (seq1 ?_); exact hK [_, _, _, _, _, _] rfl rfl
  case h2 =>
    intro hb11 hK; refine gno ?_ (hbw := by exact hb11); refine gno ?_ (hbw := by exact hb11); refine gno ?_ (hbw := by exact hb11); refine gno ?_ (hbw := by exact hb11); refine gno ?_ (hbw := by exact hb11); refine gno ?_ (hbw := by exact hb11)
    exact hK [_, _, _, _, _, _] rfl
  refine o1 (asg ?_); refine nx ?_; refine runs_ret ?_; refine fin_ret ?_; refine fin_d1 rfl rfl ?_
  rw [hash_pre2]
theorem cutLite_spec (t : ByteArray) : TriD Tryz.prog gl 123 [.v (.string t), .v (.string ⟨#[35]⟩)] (· = .tup [.v (.string (if hashB t then t.extract 1 t.size else t)), .v (.bool (hashB t))]) := by
  have h1s : (ByteArray.mk #[35]).size = 1 := rfl
  have hp := hash_pre t
  refine triD_of_runs Tryz.func123 rfl Tryz.ntmps123 (rs := [.tmp 4, .tmp 5]) rfl rfl rfl ?_
  refine sr ?_; refine o1 (asg ?_); refine o1 (asg ?_); refine nx ?_; refine runs_seq ?_; refine sr ?_; refine o1 (mv ?_); refine o1 (mv ?_); refine oc (cv ca136 rfl rfl (hasPrefix_spec t) (fir (fir .nil)) ?_); refine o1 (f_not ?_)
  refine nx ?_; refine cd (fun h1 => ?_) (fun h1 => ?_)
  · (try simp only [nrm, Int.reduceEq, Int.reduceNe, Int.reduceLT, Int.reduceLE] at h1)
    refine kp [0] ?_; refine sr ?_; refine o1 (mv ?_); refine o1 (asg ?_); refine o1 (asg ?_); refine nx ?_; refine runs_ret ?_; refine seq_ret ?_; refine fin_ret ?_; refine fin_d2 rfl rfl rfl ?_
    rw [h1]; rfl
  (try simp only [nrm, Int.reduceEq, Int.reduceNe, Int.reduceLT, Int.reduceLE] at h1); refine runs_skip ?_; refine seq_normal ?_; refine runs_seq ?_; refine kp [0, 1] ?_
  have hp1 := (hp.2 h1).1
  refine runs_region ?_; refine o1 (mv ?_); refine o1 (mv ?_); refine o1 (le3 ut9 ?_); refine o1 (fl_sub_l ut9 rfl rfl rfl (by omega) ?_); refine o1 (asg ?_); refine o1 (asg ?_); refine nx ?_; refine runs_ret ?_; refine fin_ret ?_
  refine fin_d2 rfl rfl rfl ?_
  rw [h1]; rfl
theorem cut_spec (t : ByteArray) : TriD Tryz.prog gl 102 [.v (.string t), .v (.string ⟨#[35]⟩)] (· = .tup [.v (.string (if hashB t then t.extract 1 t.size else t)), .v (.bool (hashB t))]) := by
  refine triD_of_runs Tryz.func102 rfl Tryz.ntmps102 (rs := [.tmp 4, .tmp 5]) rfl rfl rfl ?_
  refine sr ?_; refine o1 (asg ?_); refine o1 (asg ?_); refine nx ?_; refine sr ?_; refine o1 (mv ?_); refine o1 (mv ?_); refine oc (cv ca123 rfl rfl (cutLite_spec t) (fir (fir .nil)) ?_); refine o1 (ex2 ?_); refine o1 (ex2 ?_)
  refine o1 (asg ?_); refine o1 (asg ?_); refine nx ?_; refine runs_ret ?_; refine fin_ret ?_; refine fin_d2 rfl rfl rfl ?_
  rfl

theorem atoiIn_spec (t : ByteArray) (h1 : 1 ≤ t.size) (h5 : t.size ≤ 5) (hd : allDig t) : TriD Tryz.prog gl 124 [.v (.string t)] (· = .tup [.v (.int .i64 (numR t t.size)), .v .nilIface]) := by
  have hd0 := hd 0 (by omega)
  have hbl := bytesD_len t
  refine triD_of_runs Tryz.func124 rfl Tryz.ntmps124 (rs := [.tmp 2, .tmp 3]) rfl rfl rfl ?_
  refine sr ?_; refine o1 (asg ?_); refine o1 (asg ?_); refine nx ?_; refine sr ?_; refine o1 (mv ?_); refine o1 (le3 ut9 ?_); refine o1 (asg ?_); refine nx ?_; refine runs_seq ?_; refine kp [4, 0] ?_; refine sr ?_; refine o1 (mv ?_)
  refine ops_set 13 false rfl (by simp) ?_; refine gno ?_ (hbw := by exact rfl); refine gno ?_ (hbw := by exact rfl); refine gno ?_ (hbw := by exact rfl); refine gud ?_; refine gud ?_; refine gno ?_ (hbw := by exact rfl)
  refine o1 (f_pick_f ?_); refine o1 (mv ?_); refine ops_set 21 false rfl (by simp) ?_; refine gye ?_ (hbw := by exact rfl); refine o1 (mv ?_); refine ops_set 22 true rfl (by simp) ?_; refine gye ?_ (hbw := by exact rfl); refine o1 (mv ?_)
  refine gye ?_ (hbw := by exact rfl); refine o1 (ilt ?_); refine gye ?_ (hbw := by exact rfl); refine o1 (mv ?_); refine ops_set 25 true rfl (by simp; omega) ?_; refine gye ?_ (hbw := by exact rfl); refine o1 (mv ?_)
  refine gye ?_ (hbw := by exact rfl); refine o1 (ilt ?_); refine gye ?_ (hbw := by exact rfl); refine o1 (f_pick_t ?_); refine gye ?_ (hbw := by exact rfl); refine o1 (f_pick_t ?_); refine o1 (f_pick_f ?_); refine nx ?_
  refine cdf (fun h2 => ?_) (fun h2 => ?_)
  · (try simp only [nrm, Int.reduceEq, Int.reduceNe, Int.reduceLT, Int.reduceLE] at h2); omega
  (try simp only [nrm, Int.reduceEq, Int.reduceNe, Int.reduceLT, Int.reduceLE] at h2); refine kp [0] ?_; refine sr ?_; refine o1 (mv ?_); refine o1 (asg ?_); refine nx ?_; refine runs_seq ?_; refine sr ?_; refine o1 (mv ?_)
  refine o1 (byt ut9 ?_); refine o1 (ieq ?_); refine o1 (mv ?_)
  apply ops_or (yt := 38) (d := 35) 3 rfl rfl rfl (.none rfl) rfl rfl
  case h1 =>
    intro hb6 hK
    have hc := hb6; (try simp only [nrm, Int.reduceEq, Int.reduceNe, Int.reduceLT, Int.reduceLE] at hc)
    refine gye ?_ (hbw := by exact hb6); refine o1 (mv ?_); refine gye ?_ (hbw := by exact hb6); refine o1 (byt ut9 ?_); refine gye ?_ (hbw := by exact hb6); refine o1 (ieq ?_); exact hK [_, _, _] rfl rfl
  case h2 =>
    intro hb6 hK; refine gno ?_ (hbw := by exact hb6); refine gno ?_ (hbw := by exact hb6); refine gno ?_ (hbw := by exact hb6); exact hK [_, _, _] rfl
  refine nx ?_; refine cd (fun h4 => ?_) (fun h4 => ?_)
  · (try simp only [nrm, Int.reduceEq, Int.reduceNe, Int.reduceLT, Int.reduceLE] at h4); exfalso; have h0 : byteAt t (Int.toNat 0) = byteAt t 0 := rfl; rcases h4 with h | h <;> omega
  (try simp only [nrm, Int.reduceEq, Int.reduceNe, Int.reduceLT, Int.reduceLE] at h4); refine runs_skip ?_; refine seq_normal ?_; refine kp [5, 0] ?_; refine sr ?_; refine o1 (asg ?_); refine nx ?_; refine runs_seq ?_; refine sr ?_
  refine o1 (mv ?_); refine oc (T := fun _ => False) (op_bytes ut9 sl89 ui5 rfl rfl rfl rfl rfl ?_); refine o1 (le1 us89 ?_); refine o1 (mv ?_); refine nx ?_; refine runs_block ?_; refine kp [49, 48, 47, 6, 5] ?_
  apply runs_loop_c (ι := Nat) (fun i => [(49, int i), (6, int (numR t i))]) [48, 47, 5] (fun i => i ≤ t.size) (fun i => t.size - i) (0)
  case hk => exact rfl
  case hI =>
    exact Nat.zero_le _
  case hm =>
    refine mo ?_ (sly (sly (sly (sly (sly slz)))))
    repeat (first | exact boz | refine bod ?_)
  case h =>
    rintro i hinv
    try dsimp only at hinv
    refine kp [49, 6, 48, 47, 5] ?_; refine sr ?_; refine o1 (ilt ?_); refine nx ?_; refine runs_seq ?_; refine cdf (fun h10 => ?_) (fun h10 => ?_)
    · (try simp only [nrm, Int.reduceEq, Int.reduceNe, Int.reduceLT, Int.reduceLE] at h10)
      refine runs_exit ?_; refine seq_exit ?_; refine seq_exit ?_; refine inb_exit ?_; refine seq_normal ?_; refine runs_seq ?_; refine kp [6, 5] ?_; refine sr ?_; refine o1 (mv ?_); refine o1 (byt ut9 ?_); refine o1 (ieq ?_); refine nx ?_
      refine cd (fun h17 => ?_) (fun h17 => ?_)
      · (try simp only [nrm, Int.reduceEq, Int.reduceNe, Int.reduceLT, Int.reduceLE] at h17); omega
      (try simp only [nrm, Int.reduceEq, Int.reduceNe, Int.reduceLT, Int.reduceLE] at h17); refine runs_skip ?_; refine seq_normal ?_; refine kp [6] ?_; refine sr ?_; refine o1 (mv ?_); refine o1 (asg ?_); refine o1 (asg ?_); refine nx ?_
      refine runs_ret ?_; refine seq_ret ?_; refine fin_ret ?_; refine fin_d2 rfl rfl rfl ?_
      have hi : i = t.size := by omega
      subst hi
      rfl
    (try simp only [nrm, Int.reduceEq, Int.reduceNe, Int.reduceLT, Int.reduceLE] at h10); refine runs_skip ?_; refine seq_normal ?_; refine runs_seq ?_; refine runs_block ?_; refine runs_seq ?_
    have hdi := hd i (by omega)
    have hnb := numR_bound hd i (by omega) (by omega)
    have hs8 := sub8_digit hdi
    have hw : IntKind.wrap .i64 (sub8 (byteAt t i) 48) = byteAt t i - 48 := by rw [sub8_digit hdi]; exact wrap_digit (by omega)
    refine runs_region ?_; refine o1 (ixs us89 te89 ?_ (he := by exact (byte_at (show i < t.size by omega)))); refine o1 (ldc ti5 ?_); refine o1 (asg ?_); refine nx ?_; refine sr ?_; refine o1 (mv ?_); refine o1 (fl_sub8 rfl rfl rfl ?_)
    refine o1 (asg ?_); refine nx ?_; refine runs_seq ?_; refine kp [8, 49, 6, 48, 47, 5] ?_; refine sr ?_; refine o1 (mv ?_); refine o1 (igt ?_); refine nx ?_; refine cd (fun h13 => ?_) (fun h13 => ?_)
    · (try simp only [nrm, Int.reduceEq, Int.reduceNe, Int.reduceLT, Int.reduceLE] at h13); omega
    (try simp only [nrm, Int.reduceEq, Int.reduceNe, Int.reduceLT, Int.reduceLE] at h13); refine runs_skip ?_; refine seq_normal ?_; refine runs_region ?_; refine o1 (mv ?_); refine o1 (fl_mul rfl rfl rfl (by omega) ?_); refine o1 (mv ?_)
    refine o1 (fl_conv ui3 uo5 rfl rfl ?_); refine o1 (iad ?_); refine o1 (asg ?_); refine ops_nil ?_; refine inb_normal ?_; refine seq_normal ?_; refine kp [6, 49, 48, 47, 5] ?_; refine runs_region ?_; refine o1 (iad ?_); refine o1 (mv ?_)
    refine ops_nil ?_; refine seq_back ?_; refine back_i (i + 1) rfl ?_ ?_
    · exact ⟨by omega, by omega⟩
    · refine mo ?_ (sly (slx rfl (by exact Fit.of_eq (by rw [hw]; simp only [numR]; rw [Int.mul_comm]; rfl)) (sly (sly (sly slz)))))
      repeat (first | exact boz | refine bod ?_)
theorem atoi_spec (t : ByteArray) (h1 : 1 ≤ t.size) (h5 : t.size ≤ 5) (hd : allDig t) : TriD Tryz.prog gl 103 [.v (.string t)] (· = .tup [.v (.int .i64 (numR t t.size)), .v .nilIface]) := by
  refine triD_of_runs Tryz.func103 rfl Tryz.ntmps103 (rs := [.tmp 2, .tmp 3]) rfl rfl rfl ?_
  refine sr ?_; refine o1 (asg ?_); refine o1 (asg ?_); refine nx ?_; refine sr ?_; refine o1 (mv ?_); refine oc (cv ca124 rfl rfl (atoiIn_spec t h1 h5 hd) (fir .nil) ?_); refine o1 (mv ?_); refine o1 (ex2 ?_); refine o1 (ex2 ?_)
  refine o1 (asg ?_); refine o1 (asg ?_); refine nx ?_; refine runs_seq ?_; refine kp [5, 4, 0] ?_; refine sr ?_; refine o1 (mv ?_); refine o1 (f_ineq_nil ii54 ?_); refine nx ?_; refine cd (fun h2 => ?_) (fun h2 => ?_)
  · simp only [nrm, Int.reduceEq, Int.reduceNe, Int.reduceLT, Int.reduceLE] at h2
  (try simp only [nrm, Int.reduceEq, Int.reduceNe, Int.reduceLT, Int.reduceLE] at h2); refine runs_skip ?_; refine seq_normal ?_; refine kp [4] ?_; refine sr ?_; refine o1 (mv ?_); refine o1 (asg ?_); refine o1 (asg ?_); refine nx ?_
  refine runs_ret ?_; refine fin_ret ?_; refine fin_d2 rfl rfl rfl ?_
  rfl
end Go.Proofs.YtneaancanfpdhaaGreatDoor
