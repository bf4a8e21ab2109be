/-
  What is proved here: contracts of the reference's succs, Leq, Same.
-/
import Derived.Test.YtafhnnbbfgoacaaYR2
import Derived.Test.YtafhnnbbfgoacaaYOrd
set_option linter.unusedSimpArgs false
set_option linter.unusedVariables false
namespace Go.Proofs.Ytafhnnbbfgoacaa
open Go Go.Vd Go.RowKit
attribute [local irreducible] Runs OpsR OpR FloatR AnyR AnyO
variable {gl : Nat → List D}

theorem succs_spec : ∀ (n : Nat) (k : Int) (s : ByteArray) (args : List Lvl), (Lvl.mk k s args).size ≤ n → (Lvl.mk k s args).size ≤ 1099511627776 →
    TriD Try.prog gl 15 [(Lvl.mk k s args).d] (· = .v (.int .i64 (Lvl.mk k s args).succs)) := by
  intro n
  induction n with
  | zero => intro k s args h; simp [Lvl.size] at h
  | succ n ih =>
    intro k s args hn hb
    have hsz : sizes args ≤ n := by simp [Lvl.size] at hn; omega
    have hlen := lvls_len args
    have hlb := lvls_size args
    have hsl := succsL_le args
    simp only [Lvl.size] at hb
    have hk1 : (0 : Int) ≤ (if k = 1 then 1 else 0) ∧ (if k = 1 then (1 : Int) else 0) ≤ 1 := by split <;> omega
    refine triD_of_runs Try.func15 rfl Try.ntmps15 (rs := [.tmp 2]) rfl rfl rfl ?_
    refine sr ?_; refine oc (T := fun _ => False) (bx ti29 ?_ (hl := by simp only [List.length_cons, List.length_nil, Nat.reduceAdd]; rfl)); refine o1 (asg ?_); refine nx ?_; refine sr ?_; refine o1 (asg ?_); refine nx ?_; refine runs_seq ?_
    refine sr ?_; refine o1 (fdb ti29 ?_); refine o1 (ldb ti3 ?_); refine o1 (ieq ?_); refine nx ?_; refine kp [7, 3, 1] ?_
    apply runs_cut_c (ι := Unit) (fun _ => [(3, int (if k = 1 then 1 else 0))]) [1] (fun _ => True)
    case hk => exact rfl
    case h1 =>
      refine cdf (fun h2 => ?_) (fun h2 => ?_)
      · (try simp only [nrm, Int.reduceEq, Int.reduceNe, Int.reduceLT, Int.reduceLE] at h2)
        refine runs_skip ?_; refine seq_back ?_; refine back_i (()) rfl ?_ ?_
        · trivial
        · refine mo ?_ (slx rfl (by exact Fit.of_eq (by simp only [h2, if_true, if_false]; rfl)) (sly slz))
          repeat (first | exact boz | refine boc ?_)
      (try simp only [nrm, Int.reduceEq, Int.reduceNe, Int.reduceLT, Int.reduceLE] at h2); refine runs_region ?_; refine o1 (asg ?_); refine ops_nil ?_; refine seq_back ?_; refine back_i (()) rfl ?_ ?_
      · trivial
      · refine mo ?_ (slx rfl (by exact Fit.of_eq (by simp only [h2, if_true, if_false]; rfl)) (sly slz))
        repeat (first | exact boz | refine boc ?_)
    case h2 =>
      rintro _ hcut
      try dsimp only at hcut
      refine kp [3, 1] ?_; refine runs_seq ?_; refine sr ?_; refine o1 (asg ?_); refine nx ?_; refine runs_block ?_
      apply runs_loop_c (ι := Nat) (fun i => [(4, int i), (3, int ((if k = 1 then 1 else 0) + (succsL (args.take i) : Nat)))]) [1] (fun i => i ≤ args.length) (fun i => args.length - i) (0)
      case hk => exact rfl
      case hI =>
        exact Nat.zero_le _
      case hm =>
        refine mo ?_ (sly (slx rfl (by exact Fit.of_eq (by simp [succsL]; rfl)) (sly slz)))
        repeat (first | exact boz | refine boc ?_)
      case h =>
        rintro i hinv
        try dsimp only at hinv
        refine kp [4, 3, 1] ?_; refine runs_seq ?_; refine sr ?_; refine o1 (mv ?_); refine o1 (fdb ti29 ?_); refine o1 (ldb ti27 ?_); refine o1 (le1 us27 ?_); refine o1 (ilt ?_); refine nx ?_; refine cdf (fun h5 => ?_) (fun h5 => ?_)
        · (try simp only [nrm, Int.reduceEq, Int.reduceNe, Int.reduceLT, Int.reduceLE] at h5)
          refine runs_exit ?_; refine seq_exit ?_; refine seq_exit ?_; refine inb_exit ?_; refine seq_normal ?_; refine kp [3] ?_; refine sr ?_; refine o1 (mv ?_); refine o1 (asg ?_); refine nx ?_; refine runs_ret ?_; refine fin_ret ?_
          refine fin_d1 rfl rfl ?_
          rw [List.take_of_length_le (by omega)]
          simp only [Lvl.succs]
          split <;> rfl
        (try simp only [nrm, Int.reduceEq, Int.reduceNe, Int.reduceLT, Int.reduceLE] at h5); refine runs_skip ?_; refine seq_normal ?_; refine runs_seq ?_; refine runs_block ?_; refine kp [4, 3, 1] ?_
        obtain ⟨k', s', a', hget⟩ := lvl_get (show i < args.length by omega)
        have hsz' := size_get hget
        have hst := succsL_take_le args (i + 1)
        have hst1 := succsL_take hget
        refine runs_region ?_; refine o1 (mv ?_); refine o1 (fdb ti29 ?_); refine o1 (ldb ti27 ?_); refine o1 (mv ?_); refine o1 (ixs us27 te27 ?_ (he := by exact (lvl_at hget))); refine o1 (ldc ti29 ?_)
        refine oc (cv ca15 rfl rfl (ih k' s' a' (by omega) (by omega)) (fid .nil) ?_); refine o1 (iad ?_); refine o1 (asg ?_); refine ops_nil ?_; refine inb_normal ?_; refine seq_normal ?_; refine kp [3, 4, 1] ?_; refine runs_region ?_
        refine o1 (mv ?_); refine o1 (iad ?_); refine o1 (asg ?_); refine ops_nil ?_; refine seq_back ?_; refine back_i (i + 1) rfl ?_ ?_
        · exact ⟨by omega, by omega⟩
        · refine mo ?_ (sly (slx rfl (by exact Fit.of_eq (by rw [succsL_take hget]; simp only [int, Int.natCast_add, ← Int.add_assoc]; rfl)) (sly slz)))
          repeat (first | exact boz | refine boc ?_)

def p3 (i : Nat) : Nat := 3 ^ i
theorem p3_succ (i : Nat) : p3 (i + 1) = p3 i * 3 := by simp [p3, Nat.pow_succ]
theorem p3_le {i : Nat} (h : i ≤ 6) : 1 ≤ p3 i ∧ p3 i ≤ 729 := by
  rcases (show i = 0 ∨ i = 1 ∨ i = 2 ∨ i = 3 ∨ i = 4 ∨ i = 5 ∨ i = 6 by omega) with rfl | rfl | rfl | rfl | rfl | rfl | rfl <;> decide
def dv (k i : Nat) : Nat := k / 3 ^ i
theorem dv_le (k i : Nat) : dv k i ≤ k := Nat.div_le_self _ _
theorem dv_succ (k i : Nat) : dv k (i + 1) = dv k i / 3 := by unfold dv; rw [Nat.pow_succ, ← Nat.div_div_eq_div_mul]
theorem dv_zero (k : Nat) : dv k 0 = k := by unfold dv; rw [Nat.pow_zero, Nat.div_one]
theorem third_at (big : Int) (r : Nat) : [[D.v (.int .i64 0)], [D.v (.int .i64 1)], [D.v (.int .i64 big)]][((r : Int) % 3).toNat]? = some [D.v (.int .i64 (third big r))] := by
  have e : ((r : Int) % 3).toNat = r % 3 := by omega
  have : r % 3 < 3 := Nat.mod_lt _ (by omega)
  rw [e]
  unfold third
  rcases (show r % 3 = 0 ∨ r % 3 = 1 ∨ r % 3 = 2 by omega) with h | h | h <;> simp [h]
theorem digs_all {big : Int} (h0 : 0 ≤ big) (h1 : big ≤ 1099511627776) {k n : Nat} : ∀ d ∈ digs big k n, -1099511627776 ≤ d ∧ d ≤ 1099511627776 := fun d hd => by
  unfold digs at hd
  obtain ⟨j, _, rfl⟩ := List.mem_map.1 hd
  exact third_bound h0 h1 _

theorem rleq_spec (a b : Lev) (hps : (a.ps b).length ≤ 6) (hsa : a.size ≤ 1000000) (hsb : b.size ≤ 1000000) :
    TriD Try.prog gl 9 [a.toLvl.d, b.toLvl.d] (· = .v (.bool (refLeq a b))) := by
  have hla := a.succs_le
  have hlb := b.succs_le
  have hza := a.size_toLvl
  have hzb := b.size_toLvl
  have hpa := a.params_toLvl []
  have hpb := b.params_toLvl (a.params [])
  have hSa := a.succs_toLvl
  have hSb := b.succs_toLvl
  have hplen := a.toLvl.params_len []
  have hbig : 0 ≤ a.big b ∧ a.big b ≤ 1099511627776 := by unfold Lev.big; omega
  have hWa := fun k => worth_spec (gl := gl) (a.ps b) (digs (a.big b) k (a.ps b).length) (by rw [digs_len]; exact Nat.le_refl _) (by omega) (digs_all hbig.1 hbig.2) a (by omega)
  have hWb := fun k => worth_spec (gl := gl) (a.ps b) (digs (a.big b) k (a.ps b).length) (by rw [digs_len]; exact Nat.le_refl _) (by omega) (digs_all hbig.1 hbig.2) b (by omega)
  have hsl := strs_len (a.ps b)
  rw [hpa] at hplen
  simp only [List.length_nil, Nat.zero_add] at hplen
  obtain ⟨ka, na, aa, hXa⟩ := Lvl.case a.toLvl
  obtain ⟨kb, nb, ab, hXb⟩ := Lvl.case b.toLvl
  rw [hXa] at hpa hza hSa hWa hplen
  rw [hXb] at hpb hzb hSb hWb
  rw [hXa, hXb]
  have hp1 := params_spec (gl := gl) _ ka na aa [] (Nat.le_refl _) (by simp; omega)
  have hp2 := params_spec (gl := gl) _ kb nb ab (a.params []) (Nat.le_refl _) (by omega)
  rw [hpa] at hp1
  rw [hpb] at hp2
  have hs1 := succs_spec (gl := gl) _ ka na aa (Nat.le_refl _) (by omega)
  have hs2 := succs_spec (gl := gl) _ kb nb ab (Nat.le_refl _) (by omega)
  rw [hSa] at hs1
  rw [hSb] at hs2
  have hpsdef : b.params (a.params []) = a.ps b := rfl
  rw [hpsdef] at hp2
  have hbe : (2 : Int) + (a.succs : Int) + (b.succs : Int) = a.big b := rfl
  refine triD_of_runs Try.func9 rfl Try.ntmps9 (rs := [.tmp 4]) rfl rfl rfl ?_
  refine sr ?_; refine oc (T := fun _ => False) (bx ti29 ?_ (hl := by simp only [List.length_cons, List.length_nil, Nat.reduceAdd]; rfl))
  refine oc (T := fun _ => False) (bx ti29 ?_ (hl := by simp only [List.length_cons, List.length_nil, Nat.reduceAdd]; rfl)); refine o1 (asg ?_); refine nx ?_; refine runs_seq ?_; refine runs_nilrow 9 1 rfl ?_
  refine a_start ?_ (hm := by exact mixed); refine A1 0 rfl (ldb ti29 ⟨_, rfl, ?_⟩); refine A1 1 rfl (ldb ti29 ⟨_, rfl, ?_⟩); refine A2 2 rfl (ck ca6 rfl rfl (hp1) [2] rfl (bon .nil) (fid (.cons (.nil rfl) .nil)) ?_)
  refine A2 3 rfl (ck ca6 rfl rfl (hp2) [2] rfl (bor .nil) (fid (fir .nil)) ?_); refine A1 4 rfl (asg ⟨_, rfl, ?_⟩); refine a_end ?_; refine seq_normal ?_; refine runs_seq ?_; refine kp [5, 3, 2] ?_; refine a_start ?_ (hm := by exact mixed)
  refine A1 0 rfl (ldb ti29 ⟨_, rfl, ?_⟩); refine A1 3 rfl (ldb ti29 ⟨_, rfl, ?_⟩); refine A2 1 rfl (cv ca15 rfl rfl (hs1) (fid .nil) ?_); refine A1 2 rfl (iad ⟨_, rfl, ?_⟩); refine A2 4 rfl (cv ca15 rfl rfl (hs2) (fid .nil) ?_)
  refine A1 5 rfl (iad ⟨_, rfl, ?_⟩); refine A1 6 rfl (asg ⟨_, rfl, ?_⟩); refine a_end ?_; refine seq_normal ?_; refine runs_seq ?_; refine kp [6, 5, 3, 2] ?_
  rw [hbe]
  refine runs_region ?_; refine o1 (mv ?_)
  refine oc (T := fun _ => False) (op_lit sl46 [.const (.int .i64 0), .const (.int .i64 1), .tmp 24] ti3 rfl rfl rfl rfl rfl rfl rfl (by decide) (by decide) (by decide) (by simp only [List.length_cons, List.length_nil, Nat.reduceAdd]; rfl) rfl ?_)
  refine o1 (asg ?_); refine nx ?_; refine sr ?_; refine o1 (asg ?_); refine nx ?_; refine runs_seq ?_; refine sr ?_; refine o1 (asg ?_); refine nx ?_; refine runs_block ?_; refine kp [9, 8, 7, 5, 3, 2] ?_
  apply runs_loop_c (ι := Nat) (fun i => [(9, int i), (8, int (p3 i))]) [7, 5, 3, 2] (fun i => i ≤ (a.ps b).length) (fun i => (a.ps b).length - i) (0)
  case hk => exact rfl
  case hI =>
    exact Nat.zero_le _
  case hm =>
    refine mo ?_ (sly (sly (sly (sly (sly (sly slz))))))
    repeat (first | exact boz | refine boc ?_ | refine bor ?_)
  case h =>
    rintro i hinv
    try dsimp only at hinv
    refine kp [9, 8, 7, 5, 3, 2] ?_; refine runs_seq ?_; refine sr ?_; refine o1 (mv ?_); refine o1 (mv ?_); refine o1 (le2 us34 ?_); refine o1 (ilt ?_); refine nx ?_; refine cd (fun h6 => ?_) (fun h6 => ?_)
    · (try simp only [nrm, Int.reduceEq, Int.reduceNe, Int.reduceLT, Int.reduceLE] at h6)
      refine runs_skip ?_; refine seq_normal ?_; refine runs_seq ?_; refine runs_block ?_; refine kp [9, 8, 7, 5, 3, 2] ?_
      have hp3 := p3_le (i := i) (by omega)
      refine runs_region ?_; refine o1 (mv ?_); refine o1 (fl_mul rfl rfl rfl (by omega) ?_); refine o1 (asg ?_); refine ops_nil ?_; refine inb_normal ?_; refine seq_normal ?_; refine runs_region ?_; refine o1 (mv ?_); refine o1 (iad ?_)
      refine o1 (asg ?_); refine ops_nil ?_; refine seq_back ?_; refine back_i (i + 1) rfl ?_ ?_
      · exact ⟨by omega, by omega⟩
      · refine mo ?_ (sly (slx rfl (by exact Fit.of_eq (by rw [p3_succ]; rfl)) (sly (sly (sly (sly slz))))))
        repeat (first | exact boz | refine boc ?_ | refine bor ?_)
    (try simp only [nrm, Int.reduceEq, Int.reduceNe, Int.reduceLT, Int.reduceLE] at h6); refine runs_exit ?_; refine seq_exit ?_; refine seq_exit ?_; refine inb_exit ?_; refine seq_normal ?_; refine runs_seq ?_; refine runs_seq ?_
    refine kp [8, 7, 5, 3, 2] ?_
    have hi : i = (a.ps b).length := by omega
    subst hi
    have hp3 := p3_le hps
    refine runs_region ?_; refine o1 (asg ?_); refine nx ?_; refine runs_block ?_
    apply runs_loop_c (ι := Nat) (fun k => [(10, int k)]) [8, 7, 5, 3, 2] (fun k => k ≤ p3 (a.ps b).length ∧ ∀ j, j < k → refAt a b j) (fun k => p3 (a.ps b).length - k) (0)
    case hk => exact rfl
    case hI =>
      exact ⟨Nat.zero_le _, fun j hj => by omega⟩
    case hm =>
      refine mo ?_ (sly (sly (sly (sly (sly (sly slz))))))
      repeat (first | exact boz | refine boc ?_ | refine bor ?_)
    case h =>
      rintro k hinv
      try dsimp only at hinv
      refine kp [10, 8, 7, 5, 3, 2] ?_; refine runs_seq ?_; refine sr ?_; refine o1 (mv ?_); refine o1 (mv ?_); refine o1 (ilt ?_); refine nx ?_; refine cdf (fun h10 => ?_) (fun h10 => ?_)
      · (try simp only [nrm, Int.reduceEq, Int.reduceNe, Int.reduceLT, Int.reduceLE] at h10)
        refine runs_exit ?_; refine seq_exit ?_; refine seq_exit ?_; refine inb_exit ?_; refine seq_normal ?_; refine kp [] ?_; refine sr ?_; refine o1 (asg ?_); refine nx ?_; refine runs_ret ?_; refine fin_ret ?_; refine fin_d1 rfl rfl ?_
        have : refLeq a b = true := by
          unfold refLeq
          exact decide_eq_true fun j hj => hinv.2 j (by have hj' : j < p3 _ := hj; omega)
        rw [this]
      (try simp only [nrm, Int.reduceEq, Int.reduceNe, Int.reduceLT, Int.reduceLE] at h10); refine runs_skip ?_; refine seq_normal ?_; refine runs_seq ?_; refine runs_block ?_; refine runs_seq ?_
      have houter := hinv
      refine runs_region ?_; refine o1 (asg ?_); refine nx ?_; refine sr ?_; refine o1 (mv ?_); refine o1 (asg ?_); refine nx ?_; refine runs_seq ?_; refine kp [12, 11, 10, 8, 7, 5, 3, 2] ?_; refine sr ?_; refine o1 (asg ?_); refine nx ?_
      refine runs_block ?_; refine runs_nilrow 3 1 rfl ?_
      apply runs_loop_o (ι := Nat) (fun i => [(13, int i), (12, int (dv k i)), (11, .own 4 1 (ints (digs (a.big b) k i)))]) (fun i => [.cells [.d (.v (.int .i64 ka)), .d (.v (.string na)), .d (.sl 3 (lvls aa))] 29, .cells [.d (.v (.int .i64 kb)), .d (.v (.string nb)), .d (.sl 3 (lvls ab))] 29, .row 9 1, .row 3 1, .row 3 1]) [10, 8, 7, 5, 3, 2] (fun i => i ≤ (a.ps b).length) (fun i => (a.ps b).length - i) (0) ([0, 1, 2, 3, 4])
      case hk => exact rfl
      case hI =>
        exact Nat.zero_le _
      case hm =>
        refine mo ?_ (sly (slx rfl (by exact Fit.of_eq (by rw [dv_zero]; rfl)) (slx rfl (by exact .nil rfl) (sly (sly (sly (sly (sly (sly slz)))))))))
        repeat (first | exact boz | refine boc ?_ | refine bor ?_ | refine bon ?_)
      case h =>
        rintro i hinv
        try dsimp only at hinv
        refine kp [13, 12, 11, 10, 8, 7, 5, 3, 2] ?_; refine runs_seq ?_; refine sr ?_; refine o1 (mv ?_); refine o1 (mv ?_); refine o1 (le2 us34 ?_); refine o1 (ilt ?_); refine nx ?_; refine cd (fun h15 => ?_) (fun h15 => ?_)
        · (try simp only [nrm, Int.reduceEq, Int.reduceNe, Int.reduceLT, Int.reduceLE] at h15)
          refine runs_skip ?_; refine seq_normal ?_; refine runs_seq ?_; refine runs_block ?_; refine runs_seq ?_; refine kp [13, 12, 11, 10, 8, 7, 5, 3, 2] ?_
          have hil := ints_len (digs (a.big b) k i)
          have hdl := digs_len (a.big b) k i
          have hk3 := dv_le k i
          refine runs_region ?_; refine o1 (mv ?_); refine o1 (mv ?_); refine o1 (mv ?_); refine o1 (f_rem ?_); refine o1 (ixo us46 te46 ?_ (he := by exact (third_at (a.big b) (dv k i)))); refine o1 (ldc ti3 ?_)
          refine oc (T := fun _ => False) (op_lit sl46 [.tmp 51] ti3 rfl rfl rfl rfl rfl rfl rfl (by decide) (by decide) (by decide) (by simp only [List.length_cons, List.length_nil, Nat.reduceAdd]; rfl) rfl ?_)
          refine oc (op_append sl46 rfl rfl rfl rfl rfl rfl rfl (.inl rfl) (by decide) (by simp) (by first | decide | (simp only [maxLen, List.length_cons, List.length_nil, List.length_append, List.length_map]; omega) | omega) rfl rfl rfl ?_)
          refine o1 (asg ?_); refine nx ?_; refine kp [11, 13, 12, 10, 8, 7, 5, 3, 2] ?_; refine runs_region ?_; refine o1 (mv ?_); refine o1 (fl_quo rfl rfl rfl (by omega) ?_); refine o1 (asg ?_); refine ops_nil ?_; refine inb_normal ?_
          refine seq_normal ?_; refine runs_region ?_; refine o1 (mv ?_); refine o1 (iad ?_); refine o1 (asg ?_); refine ops_nil ?_; refine seq_back ?_; refine back_c (i + 1) rfl ?_ ([0, 1, 2, 3, 4]) ?_
          · exact ⟨by omega, by omega⟩
          · refine mo ?_ (sly (slx rfl (by exact Fit.of_eq (by rw [dv_succ]; rfl)) (slx rfl (by exact Fit.of_eq (by rw [digs_succ, ← ints_app]; rfl)) (sly (sly (sly (sly (sly (sly slz)))))))))
            repeat (first | exact boz | refine boc ?_ | refine bor ?_)
        (try simp only [nrm, Int.reduceEq, Int.reduceNe, Int.reduceLT, Int.reduceLE] at h15); refine runs_exit ?_; refine seq_exit ?_; refine seq_exit ?_; refine inb_exit ?_; refine seq_normal ?_; refine runs_seq ?_
        refine kp [11, 10, 8, 7, 5, 3, 2] ?_
        have hi : i = (a.ps b).length := by omega
        subst hi
        have hba := a.worth_bound (σ := pval (a.ps b) (digs (a.big b) k (a.ps b).length)) (B := 1099511627776) (by omega) (fun s => pval_bound (by omega) (digs_all hbig.1 hbig.2))
        refine a_start ?_ (hm := by exact mixed); refine A1 0 rfl (ldb ti29 ⟨_, rfl, ?_⟩); refine A1 1 rfl (mv ⟨_, rfl, ?_⟩); refine A1 2 rfl (mv ⟨_, rfl, ?_⟩); refine A1 4 rfl (ldb ti29 ⟨_, rfl, ?_⟩); refine A1 5 rfl (mv ⟨_, rfl, ?_⟩)
        refine A1 6 rfl (mv ⟨_, rfl, ?_⟩); refine A2 3 rfl (cv ca16 rfl rfl (hWa k) (fid (fid (fid .nil))) ?_); refine A2 7 rfl (cv ca16 rfl rfl (hWb k) (fid (fid (fid .nil))) ?_); refine A1 8 rfl (igt ⟨_, rfl, ?_⟩); refine a_end ?_
        refine seq_normal ?_; refine cd (fun h19 => ?_) (fun h19 => ?_)
        · (try simp only [nrm, Int.reduceEq, Int.reduceNe, Int.reduceLT, Int.reduceLE] at h19)
          refine kp [] ?_; refine sr ?_; refine o1 (asg ?_); refine nx ?_; refine runs_ret ?_; refine inb_ret ?_; refine seq_ret ?_; refine seq_ret ?_; refine inb_ret ?_; refine seq_ret ?_; refine fin_ret ?_; refine fin_d1 rfl rfl ?_
          have : refLeq a b = false := by
            unfold refLeq
            refine decide_eq_false fun hall => ?_
            have h5 := hall k (show k < p3 _ by omega)
            unfold refAt at h5
            omega
          rw [this]
        (try simp only [nrm, Int.reduceEq, Int.reduceNe, Int.reduceLT, Int.reduceLE] at h19); refine runs_skip ?_; refine inb_normal ?_; refine seq_normal ?_; refine kp [10, 8, 7, 5, 3, 2] ?_; refine runs_region ?_; refine o1 (mv ?_)
        refine o1 (iad ?_); refine o1 (asg ?_); refine ops_nil ?_; refine seq_back ?_; refine back_i (k + 1) rfl ?_ ?_
        · refine ⟨⟨by omega, fun j hj => ?_⟩, by omega⟩
          rcases Nat.lt_or_ge j k with h | h
          · exact houter.2 j h
          · obtain rfl : j = k := by omega
            exact h19
        · refine mo ?_ (sly (sly (sly (sly (sly (sly slz))))))
          repeat (first | exact boz | refine boc ?_ | refine bor ?_)
theorem rsame_spec (a b : Lev) (hps : (a.ps b).length ≤ 6) (hps2 : (b.ps a).length ≤ 6) (hsa : a.size ≤ 1000000) (hsb : b.size ≤ 1000000) :
    TriD Try.prog gl 10 [a.toLvl.d, b.toLvl.d] (· = .v (.bool (refLeq a b && refLeq b a))) := by
  have h1 := rleq_spec (gl := gl) a b hps hsa hsb
  have h2 := rleq_spec (gl := gl) b a hps2 hsb hsa
  obtain ⟨ka, na, aa, hXa⟩ := Lvl.case a.toLvl
  obtain ⟨kb, nb, ab, hXb⟩ := Lvl.case b.toLvl
  rw [hXa, hXb] at h1 h2 ⊢
  refine triD_of_runs Try.func10 rfl Try.ntmps10 (rs := [.tmp 4]) rfl rfl rfl ?_
  refine sr ?_; refine oc (T := fun _ => False) (bx ti29 ?_ (hl := by simp only [List.length_cons, List.length_nil, Nat.reduceAdd]; rfl))
  refine oc (T := fun _ => False) (bx ti29 ?_ (hl := by simp only [List.length_cons, List.length_nil, Nat.reduceAdd]; rfl)); refine o1 (asg ?_); refine nx ?_; refine sr ?_; refine o1 (ldb ti29 ?_); refine o1 (ldb ti29 ?_)
  refine oc (cv ca9 rfl rfl (h1) (fid (fid .nil)) ?_); refine o1 (asg ?_); refine nx ?_; refine kp [5, 3, 2] ?_; refine sr ?_; refine o1 (ldb ti29 ?_); refine o1 (ldb ti29 ?_); refine oc (cv ca9 rfl rfl (h2) (fid (fid .nil)) ?_)
  refine o1 (asg ?_); refine nx ?_; refine kp [6, 5] ?_; refine sr ?_; refine o1 (mv ?_); refine o1 (mv ?_)
  apply ops_and (yt := 15) (d := 14) 1 rfl rfl rfl (.none rfl) rfl rfl
  case h1 =>
    intro hb3 hK
    have hc := hb3; (try simp only [nrm, Int.reduceEq, Int.reduceNe, Int.reduceLT, Int.reduceLE] at hc)
    refine gye ?_ (hbw := by exact hb3); refine o1 (mv ?_); exact hK [_] rfl rfl
  case h2 =>
    intro hb3 hK; refine gno ?_ (hbw := by exact hb3); exact hK [_] rfl
  refine o1 (asg ?_); refine nx ?_; refine runs_ret ?_; refine fin_ret ?_; refine fin_d1 rfl rfl ?_
  rfl
end Go.Proofs.Ytafhnnbbfgoacaa
