/-
  What is proved here: the contract of slices.Index over texts.
-/
import Derived.Test.YtneaancanfpdhaaGreatDoorYLevel
import Derived.Test.YtneaancanfpdhaaGreatDoorYR1
set_option linter.unusedSimpArgs false
set_option linter.unusedVariables false
namespace Go.Proofs.YtneaancanfpdhaaGreatDoor
open Go Go.Vd Go.RowKit
attribute [local irreducible] Runs OpsR OpR FloatR AnyR
variable {gl : Nat → List D}

/-- the place of a text, or -1 -/
def idxI (ps : List ByteArray) (s : ByteArray) : Int := match ps.findIdx? (· = s) with
  | some i => i
  | none => -1
theorem idxI_some {ps : List ByteArray} {s : ByteArray} {i : Nat} (h : i < ps.length) (h1 : s ∉ ps.take i) (h2 : ps[i] = s) : idxI ps s = i := by
  unfold idxI; rw [findIdx_some h h1 h2]
theorem idxI_none {ps : List ByteArray} {s : ByteArray} (h : s ∉ ps) : idxI ps s = -1 := by
  unfold idxI; rw [findIdx_none h]
theorem idxI_case (ps : List ByteArray) (s : ByteArray) : (s ∉ ps ∧ idxI ps s = -1) ∨ ∃ i, ∃ h : i < ps.length, s ∉ ps.take i ∧ ps[i] = s ∧ idxI ps s = i := by
  by_cases hm : s ∈ ps
  · right
    have h0 : (ps.findIdx? (· = s)).isSome = true := by rw [List.findIdx?_isSome]; simpa using hm
    obtain ⟨i, hi⟩ := Option.isSome_iff_exists.1 h0
    obtain ⟨h1, h2, h3⟩ := List.findIdx?_eq_some_iff_getElem.1 hi
    refine ⟨i, h1, fun hc => ?_, by simpa using h2, by unfold idxI; rw [hi]⟩
    obtain ⟨j, hj, e⟩ := List.mem_iff_getElem.1 hc
    simp only [List.length_take] at hj
    have := h3 j (by omega)
    simp only [List.getElem_take] at e
    simp [e] at this
  · exact .inl ⟨hm, idxI_none hm⟩

theorem index_spec (ps : List ByteArray) (s : ByteArray) (hl : ps.length ≤ 281474976710656) :
    TriD Tryz.prog gl 98 [strsD ps, .v (.string s)] (· = .v (.int .i64 (idxI ps s))) := by
  have hlp := strs_len ps
  refine triD_of_runs Tryz.func98 rfl Tryz.ntmps98 (rs := [.tmp 4]) rfl rfl rfl ?_
  refine sr ?_; refine o1 (asg ?_); refine nx ?_; refine runs_seq ?_; refine sr ?_; refine o1 (mv ?_); refine o1 (le1 us42 ?_); refine o1 (mv ?_); refine nx ?_; refine runs_block ?_; refine kp [8, 7, 0, 1] ?_
  apply runs_loop_c (ι := Nat) (fun i => [(8, int i)]) [7, 0, 1] (fun i => i ≤ ps.length ∧ s ∉ ps.take i) (fun i => ps.length - i) (0)
  case hk => exact rfl
  case hI =>
    exact ⟨Nat.zero_le _, by simp⟩
  case hm =>
    refine mo ?_ (sly (sly (sly (sly slz)))); exact boz
  case h =>
    rintro i hinv
    try dsimp only at hinv
    refine kp [8, 7, 0, 1] ?_; refine sr ?_; refine o1 (ilt ?_); refine nx ?_; refine runs_seq ?_; refine cdf (fun h2 => ?_) (fun h2 => ?_)
    · (try simp only [nrm, Int.reduceEq, Int.reduceNe, Int.reduceLT, Int.reduceLE] at h2)
      refine runs_exit ?_; refine seq_exit ?_; refine seq_exit ?_; refine inb_exit ?_; refine seq_normal ?_; refine kp [] ?_; refine sr ?_; refine o1 (asg ?_); refine nx ?_; refine runs_ret ?_; refine fin_ret ?_; refine fin_d1 rfl rfl ?_
      have h := hinv.2
      rw [List.take_of_length_le (by omega)] at h
      rw [idxI_none h]
    (try simp only [nrm, Int.reduceEq, Int.reduceNe, Int.reduceLT, Int.reduceLE] at h2); refine runs_skip ?_; refine seq_normal ?_; refine runs_seq ?_; refine runs_block ?_; refine sr ?_; refine o1 (mv ?_); refine o1 (asg ?_); refine nx ?_
    refine sr ?_; refine o1 (mv ?_); refine o1 (mv ?_); refine o1 (mv ?_); refine o1 (ixs us42 te42 ?_ (he := by exact (str_at (by omega)))); refine o1 (ldc ti9 ?_); refine o1 (seq1 ?_); refine nx ?_; refine cd (fun h4 => ?_) (fun h4 => ?_)
    · (try simp only [nrm, Int.reduceEq, Int.reduceNe, Int.reduceLT, Int.reduceLE] at h4)
      refine kp [5] ?_; refine sr ?_; refine o1 (mv ?_); refine o1 (asg ?_); refine nx ?_; refine runs_ret ?_; refine inb_ret ?_; refine seq_ret ?_; refine seq_ret ?_; refine inb_ret ?_; refine seq_ret ?_; refine fin_ret ?_
      refine fin_d1 rfl rfl ?_
      rw [idxI_some (show i < ps.length by omega) hinv.2 h4.symm]
    (try simp only [nrm, Int.reduceEq, Int.reduceNe, Int.reduceLT, Int.reduceLE] at h4); refine runs_skip ?_; refine inb_normal ?_; refine seq_normal ?_; refine kp [8, 7, 0, 1] ?_; refine runs_region ?_; refine o1 (iad ?_); refine o1 (mv ?_)
    refine ops_nil ?_; refine seq_back ?_; refine back_i (i + 1) rfl ?_ ?_
    · exact ⟨⟨by omega, not_mem_take_succ (by omega) hinv.2 (fun e => h4 e.symm)⟩, by omega⟩
    · refine mo ?_ (sly (sly (sly (sly slz))))
      exact boz

end Go.Proofs.YtneaancanfpdhaaGreatDoor
