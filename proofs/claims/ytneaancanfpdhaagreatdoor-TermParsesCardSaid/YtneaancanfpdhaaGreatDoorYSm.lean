/-
  What is proved here: the contract of the reference's SameLevel.
-/
import Derived.Test.YtneaancanfpdhaaGreatDoorYR1
set_option linter.unusedSimpArgs false
set_option linter.unusedVariables false
namespace Go.Proofs.YtneaancanfpdhaaGreatDoor
open Go Go.Vd Go.RowKit
attribute [local irreducible] Runs OpsR OpR FloatR AnyR AnyO
variable {gl : Nat → List D}

theorem sameLvl_spec : ∀ (n : Nat) (k : Int) (s : ByteArray) (args : List Lvl) (k2 : Int) (s2 : ByteArray) (args2 : List Lvl), (Lvl.mk k s args).size ≤ n → (Lvl.mk k s args).size ≤ 1099511627776 →
    TriD Tryz.prog gl 94 [(Lvl.mk k s args).d, (Lvl.mk k2 s2 args2).d] (· = .v (.bool (Lvl.same (.mk k s args) (.mk k2 s2 args2)))) := by
  intro n
  induction n with
  | zero => intro k s args k2 s2 args2 h; simp [Lvl.size] at h
  | succ n ih =>
    intro k s args k2 s2 args2 hn hb
    have hsz : sizes args ≤ n := by simp [Lvl.size] at hn; omega
    have hlen := lvls_len args
    have hlen2 := lvls_len args2
    have hlb := lvls_size args
    simp only [Lvl.size] at hb
    refine triD_of_runs Tryz.func94 rfl Tryz.ntmps94 (rs := [.tmp 4]) rfl rfl rfl ?_
    refine sr ?_; refine oc (T := fun _ => False) (bx ti45 ?_ (hl := by simp only [List.length_cons, List.length_nil, Nat.reduceAdd]; rfl))
    refine oc (T := fun _ => False) (bx ti45 ?_ (hl := by simp only [List.length_cons, List.length_nil, Nat.reduceAdd]; rfl)); refine o1 (asg ?_); refine nx ?_; refine runs_seq ?_; refine sr ?_; refine o1 (fdb ti45 ?_); refine o1 (ldb ti3 ?_)
    refine o1 (fdb ti45 ?_); refine o1 (ldb ti3 ?_); refine o1 (ine ?_); refine o1 (mv ?_)
    apply ops_or (yt := 17) (d := 12) 5 rfl rfl rfl (.none rfl) rfl rfl
    case h1 =>
      intro hb10 hK
      have hc := hb10; (try simp only [nrm, Int.reduceEq, Int.reduceNe, Int.reduceLT, Int.reduceLE] at hc)
      refine gye ?_ (hbw := by exact hb10); refine o1 (fdb ti45 ?_); refine gye ?_ (hbw := by exact hb10); refine o1 (ldb ti9 ?_); refine gye ?_ (hbw := by exact hb10); refine o1 (fdb ti45 ?_); refine gye ?_ (hbw := by exact hb10)
      refine o1 (ldb ti9 ?_); refine gye ?_ (hbw := by exact hb10); refine o1 (sne ?_); exact hK [_, _, _, _, _] rfl rfl
    case h2 =>
      intro hb10 hK; refine gno ?_ (hbw := by exact hb10); refine gno ?_ (hbw := by exact hb10); refine gno ?_ (hbw := by exact hb10); refine gno ?_ (hbw := by exact hb10); refine gno ?_ (hbw := by exact hb10); exact hK [_, _, _, _, _] rfl
    refine o1 (mv ?_)
    apply ops_or (yt := 26) (d := 19) 7 rfl rfl rfl (.none rfl) rfl rfl
    case h1 =>
      intro hb24 hK
      have hc := hb24; (try simp only [nrm, Int.reduceEq, Int.reduceNe, Int.reduceLT, Int.reduceLE] at hc)
      refine gye ?_ (hbw := by exact hb24); refine o1 (fdb ti45 ?_); refine gye ?_ (hbw := by exact hb24); refine o1 (ldb ti28 ?_); refine gye ?_ (hbw := by exact hb24); refine o1 (le1 us28 ?_); refine gye ?_ (hbw := by exact hb24)
      refine o1 (fdb ti45 ?_); refine gye ?_ (hbw := by exact hb24); refine o1 (ldb ti28 ?_); refine gye ?_ (hbw := by exact hb24); refine o1 (le1 us28 ?_); refine gye ?_ (hbw := by exact hb24); refine o1 (ine ?_)
      exact hK [_, _, _, _, _, _, _] rfl rfl
    case h2 =>
      intro hb24 hK; refine gno ?_ (hbw := by exact hb24); refine gno ?_ (hbw := by exact hb24); refine gno ?_ (hbw := by exact hb24); refine gno ?_ (hbw := by exact hb24); refine gno ?_ (hbw := by exact hb24); refine gno ?_ (hbw := by exact hb24)
      refine gno ?_ (hbw := by exact hb24); exact hK [_, _, _, _, _, _, _] rfl
    refine nx ?_; refine cd (fun h1 => ?_) (fun h1 => ?_)
    · (try simp only [nrm, Int.reduceEq, Int.reduceNe, Int.reduceLT, Int.reduceLE] at h1)
      refine kp [] ?_; refine sr ?_; refine o1 (asg ?_); refine nx ?_; refine runs_ret ?_; refine seq_ret ?_; refine fin_ret ?_; refine fin_d1 rfl rfl ?_
      rw [Lvl.same_eq]
      rcases h1 with (h | h) | h
      · simp [h]
      · simp [h]
      · have : sameL args args2 = false := by
          cases hs : sameL args args2 with
          | false => rfl
          | true => exact absurd (by have := sameL_len hs; omega) h
        simp [this]
    (try simp only [nrm, Int.reduceEq, Int.reduceNe, Int.reduceLT, Int.reduceLE] at h1); refine runs_skip ?_; refine seq_normal ?_; refine runs_seq ?_; refine kp [3, 2] ?_; refine sr ?_; refine o1 (asg ?_); refine nx ?_; refine runs_block ?_
    apply runs_loop_c (ι := Nat) (fun i => [(5, int i)]) [3, 2] (fun i => i ≤ args.length ∧ sameL (args.take i) (args2.take i) = true) (fun i => args.length - i) (0)
    case hk => exact rfl
    case hI =>
      exact ⟨Nat.zero_le _, by simp [sameL]⟩
    case hm =>
      refine mo ?_ (sly (sly (sly slz)))
      repeat (first | exact boz | refine boc ?_)
    case h =>
      rintro i hinv
      try dsimp only at hinv
      refine kp [5, 3, 2] ?_; refine runs_seq ?_; refine sr ?_; refine o1 (mv ?_); refine o1 (fdb ti45 ?_); refine o1 (ldb ti28 ?_); refine o1 (le1 us28 ?_); refine o1 (ilt ?_); refine nx ?_; refine cdf (fun h4 => ?_) (fun h4 => ?_)
      · (try simp only [nrm, Int.reduceEq, Int.reduceNe, Int.reduceLT, Int.reduceLE] at h4)
        refine runs_exit ?_; refine seq_exit ?_; refine seq_exit ?_; refine inb_exit ?_; refine seq_normal ?_; refine kp [] ?_; refine sr ?_; refine o1 (asg ?_); refine nx ?_; refine runs_ret ?_; refine fin_ret ?_; refine fin_d1 rfl rfl ?_
        rw [Lvl.same_eq]; have h9 := hinv.2; rw [List.take_of_length_le (by omega), List.take_of_length_le (by omega)] at h9; simp [h9, h1]
      (try simp only [nrm, Int.reduceEq, Int.reduceNe, Int.reduceLT, Int.reduceLE] at h4); refine runs_skip ?_; refine seq_normal ?_; refine runs_seq ?_; refine runs_block ?_; refine runs_seq ?_; refine kp [5, 3, 2] ?_
      obtain ⟨k', s', a', hget⟩ := lvl_get (show i < args.length by omega); obtain ⟨k2', s2', a2', hget2⟩ := lvl_get (show i < args2.length by omega)
      have hsz' := size_get hget
      refine a_start ?_ (hm := by exact mixed); refine A1 0 rfl (fdb ti45 ⟨_, rfl, ?_⟩); refine A1 1 rfl (ldb ti28 ⟨_, rfl, ?_⟩); refine A1 2 rfl (mv ⟨_, rfl, ?_⟩); refine A1 3 rfl (ixs us28 te28 ⟨_, rfl, ?_⟩ (he := by exact (lvl_at hget)))
      refine A1 4 rfl (ldc ti45 ⟨_, rfl, ?_⟩); refine A1 5 rfl (fdb ti45 ⟨_, rfl, ?_⟩); refine A1 6 rfl (ldb ti28 ⟨_, rfl, ?_⟩); refine A1 7 rfl (mv ⟨_, rfl, ?_⟩); refine A1 8 rfl (ixs us28 te28 ⟨_, rfl, ?_⟩ (he := by exact (lvl_at hget2)))
      refine A1 9 rfl (ldc ti45 ⟨_, rfl, ?_⟩); refine A2 10 rfl (cv ca94 rfl rfl (ih k' s' a' k2' s2' a2' (by omega) (by omega)) (fid (fid .nil)) ?_); refine A1 11 rfl (asg ⟨_, rfl, ?_⟩); refine a_end ?_; refine seq_normal ?_
      refine kp [6, 5, 3, 2] ?_; refine sr ?_; refine o1 (mv ?_); refine o1 (f_not ?_); refine nx ?_; refine cd (fun h7 => ?_) (fun h7 => ?_)
      · (try simp only [nrm, Int.reduceEq, Int.reduceNe, Int.reduceLT, Int.reduceLE] at h7)
        refine kp [] ?_; refine sr ?_; refine o1 (asg ?_); refine nx ?_; refine runs_ret ?_; refine inb_ret ?_; refine seq_ret ?_; refine seq_ret ?_; refine inb_ret ?_; refine seq_ret ?_; refine fin_ret ?_; refine fin_d1 rfl rfl ?_
        rw [Lvl.same_eq]; rw [sameL_false hget hget2 h7]; simp
      (try simp only [nrm, Int.reduceEq, Int.reduceNe, Int.reduceLT, Int.reduceLE] at h7); refine runs_skip ?_; refine inb_normal ?_; refine seq_normal ?_; refine runs_region ?_; refine o1 (mv ?_); refine o1 (iad ?_); refine o1 (asg ?_)
      refine ops_nil ?_; refine seq_back ?_; refine back_i (i + 1) rfl ?_ ?_
      · exact ⟨⟨by omega, by rw [sameL_take hget hget2]; simp [hinv.2, h7]⟩, by omega⟩
      · refine mo ?_ (sly (sly (sly slz)))
        repeat (first | exact boz | refine boc ?_)
end Go.Proofs.YtneaancanfpdhaaGreatDoor
