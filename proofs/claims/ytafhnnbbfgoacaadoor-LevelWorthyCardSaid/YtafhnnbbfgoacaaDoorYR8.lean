/-
  What is proved here: contracts of the program's functions on levels: Worth, Subst, and of slices.Index, slices.Contains.
-/
import Derived.Test.YtafhnnbbfgoacaaDoorYR3
set_option linter.unusedSimpArgs false
set_option linter.unusedVariables false
namespace Go.Proofs.YtafhnnbbfgoacaaDoor
open Go Go.Vd Go.RowKit
attribute [local irreducible] Runs OpsR OpR FloatR AnyR
variable {gl : Nat → List D}

/-- the place of a text, or -1 -/
def idxI (ps : List ByteArray) (s : ByteArray) : Int := match ps.findIdx? (· = s) with
  | some i => i
  | none => -1
theorem idxI_some {ps : List ByteArray} {s : ByteArray} {i : Nat} (h : i < ps.length) (h1 : s ∉ ps.take i) (h2 : ps[i] = s) : idxI ps s = i := by
  unfold idxI; rw [findIdx_some h h1 h2]
theorem idxI_none {ps : List ByteArray} {s : ByteArray} (h : s ∉ ps) : idxI ps s = -1 := by
  unfold idxI; rw [findIdx_none h]
theorem idxI_case (ps : List ByteArray) (s : ByteArray) : (s ∉ ps ∧ idxI ps s = -1) ∨ ∃ i, ∃ h : i < ps.length, s ∉ ps.take i ∧ ps[i] = s ∧ idxI ps s = i := by
  by_cases hm : s ∈ ps
  · right
    have h0 : (ps.findIdx? (· = s)).isSome = true := by rw [List.findIdx?_isSome]; simpa using hm
    obtain ⟨i, hi⟩ := Option.isSome_iff_exists.1 h0
    obtain ⟨h1, h2, h3⟩ := List.findIdx?_eq_some_iff_getElem.1 hi
    refine ⟨i, h1, fun hc => ?_, by simpa using h2, by unfold idxI; rw [hi]⟩
    obtain ⟨j, hj, e⟩ := List.mem_iff_getElem.1 hc
    simp only [List.length_take] at hj
    have := h3 j (by omega)
    simp only [List.getElem_take] at e
    simp [e] at this
  · exact .inl ⟨hm, idxI_none hm⟩

theorem index_spec (ps : List ByteArray) (s : ByteArray) (hl : ps.length ≤ 281474976710656) :
    TriD Tryd.prog gl 28 [strsD ps, .v (.string s)] (· = .v (.int .i64 (idxI ps s))) := by
  have hlp := strs_len ps
  refine triD_of_runs Tryd.func28 rfl Tryd.ntmps28 (rs := [.tmp 4]) rfl rfl rfl ?_
  refine sr ?_; refine o1 (asg ?_); refine nx ?_; refine runs_seq ?_; refine sr ?_; refine o1 (mv ?_); refine o1 (le1 us36 ?_); refine o1 (mv ?_); refine nx ?_; refine runs_block ?_; refine kp [8, 7, 0, 1] ?_
  apply runs_loop_c (ι := Nat) (fun i => [(8, int i)]) [7, 0, 1] (fun i => i ≤ ps.length ∧ s ∉ ps.take i) (fun i => ps.length - i) (0)
  case hk => exact rfl
  case hI =>
    exact ⟨Nat.zero_le _, by simp⟩
  case hm =>
    refine mo ?_ (sly (sly (sly (sly slz)))); exact boz
  case h =>
    rintro i hinv
    try dsimp only at hinv
    refine kp [8, 7, 0, 1] ?_; refine sr ?_; refine o1 (ilt ?_); refine nx ?_; refine runs_seq ?_; refine cdf (fun h2 => ?_) (fun h2 => ?_)
    · (try simp only [nrm, Int.reduceEq, Int.reduceNe, Int.reduceLT, Int.reduceLE] at h2)
      refine runs_exit ?_; refine seq_exit ?_; refine seq_exit ?_; refine inb_exit ?_; refine seq_normal ?_; refine kp [] ?_; refine sr ?_; refine o1 (asg ?_); refine nx ?_; refine runs_ret ?_; refine fin_ret ?_; refine fin_d1 rfl rfl ?_
      have h := hinv.2
      rw [List.take_of_length_le (by omega)] at h
      rw [idxI_none h]
    (try simp only [nrm, Int.reduceEq, Int.reduceNe, Int.reduceLT, Int.reduceLE] at h2); refine runs_skip ?_; refine seq_normal ?_; refine runs_seq ?_; refine runs_block ?_; refine sr ?_; refine o1 (mv ?_); refine o1 (asg ?_); refine nx ?_
    refine sr ?_; refine o1 (mv ?_); refine o1 (mv ?_); refine o1 (mv ?_); refine o1 (ixs us36 te36 ?_ (he := by exact (str_at (by omega)))); refine o1 (ldc ti9 ?_); refine o1 (seq1 ?_); refine nx ?_; refine cd (fun h4 => ?_) (fun h4 => ?_)
    · (try simp only [nrm, Int.reduceEq, Int.reduceNe, Int.reduceLT, Int.reduceLE] at h4)
      refine kp [5] ?_; refine sr ?_; refine o1 (mv ?_); refine o1 (asg ?_); refine nx ?_; refine runs_ret ?_; refine inb_ret ?_; refine seq_ret ?_; refine seq_ret ?_; refine inb_ret ?_; refine seq_ret ?_; refine fin_ret ?_
      refine fin_d1 rfl rfl ?_
      rw [idxI_some (show i < ps.length by omega) hinv.2 h4.symm]
    (try simp only [nrm, Int.reduceEq, Int.reduceNe, Int.reduceLT, Int.reduceLE] at h4); refine runs_skip ?_; refine inb_normal ?_; refine seq_normal ?_; refine kp [8, 7, 0, 1] ?_; refine runs_region ?_; refine o1 (iad ?_); refine o1 (mv ?_)
    refine ops_nil ?_; refine seq_back ?_; refine back_i (i + 1) rfl ?_ ?_
    · exact ⟨⟨by omega, not_mem_take_succ (by omega) hinv.2 (fun e => h4 e.symm)⟩, by omega⟩
    · refine mo ?_ (sly (sly (sly (sly slz))))
      exact boz

theorem contains_spec (ps : List ByteArray) (s : ByteArray) (hl : ps.length ≤ 281474976710656) :
    TriD Tryd.prog gl 39 [strsD ps, .v (.string s)] (· = .v (.bool (memB s ps))) := by
  refine triD_of_runs Tryd.func39 rfl Tryd.ntmps39 (rs := [.tmp 4]) rfl rfl rfl ?_
  refine sr ?_; refine o1 (asg ?_); refine nx ?_; refine sr ?_; refine o1 (mv ?_); refine o1 (mv ?_); refine oc (cv ca28 rfl rfl (index_spec ps s hl) (fir (fir .nil)) ?_); refine o1 (ige ?_); refine o1 (asg ?_); refine nx ?_
  refine runs_ret ?_; refine fin_ret ?_; refine fin_d1 rfl rfl ?_
  rcases idxI_case ps s with ⟨h1, h2⟩ | ⟨i, h0, h1, h2, h3⟩
  · rw [memB_false h1, h2]; rfl
  · rw [memB_iff.2 (h2 ▸ List.getElem_mem h0), h3]; simp

theorem pworth_spec (ps : List ByteArray) (ns : List Int) (hl : ps.length ≤ ns.length) (hl2 : ps.length ≤ 281474976710656) (hB : ∀ n ∈ ns, -1099511627776 ≤ n ∧ n ≤ 1099511627776) : ∀ x : Lev, x.size ≤ 1073741824 →
    TriD Tryd.prog gl 12 [x.toLvl.d, strsD ps, intsD ns] (· = .v (.int .i64 (x.worth (pval ps ns)))) := by
  have hlp := strs_len ps
  have hln := ints_len ns
  have hbd : ∀ x : Lev, -1099511627776 ≤ x.worth (pval ps ns) ∧ x.worth (pval ps ns) ≤ 1099511627776 + x.size := fun x => x.worth_bound (by omega) fun s => pval_bound (by omega) hB
  intro x
  induction x with
  | zero =>
    intro hsz
    refine triD_of_runs Tryd.func12 rfl Tryd.ntmps12 (rs := [.tmp 6]) rfl rfl rfl ?_
    refine sr ?_; refine oc (T := fun _ => False) (bx ti31 ?_ (hl := by simp only [List.length_cons, List.length_nil, Nat.reduceAdd]; rfl)); refine o1 (asg ?_); refine nx ?_; refine runs_seq ?_; refine sr ?_; refine o1 (fdb ti31 ?_)
    refine o1 (ldb ti3 ?_); refine nx ?_; refine runs_block ?_; refine sr ?_; refine o1 (ieq ?_); refine o1 (asg ?_); refine nx ?_; refine cd (fun h2 => ?_) (fun h2 => ?_)
    · simp only [nrm, Int.reduceEq, Int.reduceNe, Int.reduceLT, Int.reduceLE] at h2
    (try simp only [nrm, Int.reduceEq, Int.reduceNe, Int.reduceLT, Int.reduceLE] at h2); refine kp [10, 3, 1, 2] ?_; refine sr ?_; refine o1 (ieq ?_); refine o1 (asg ?_); refine nx ?_; refine cd (fun h4 => ?_) (fun h4 => ?_)
    · simp only [nrm, Int.reduceEq, Int.reduceNe, Int.reduceLT, Int.reduceLE] at h4
    (try simp only [nrm, Int.reduceEq, Int.reduceNe, Int.reduceLT, Int.reduceLE] at h4); refine sr ?_; refine o1 (ieq ?_); refine o1 (asg ?_); refine nx ?_; refine cd (fun h6 => ?_) (fun h6 => ?_)
    · simp only [nrm, Int.reduceEq, Int.reduceNe, Int.reduceLT, Int.reduceLE] at h6
    (try simp only [nrm, Int.reduceEq, Int.reduceNe, Int.reduceLT, Int.reduceLE] at h6); refine kp [10, 3, 1, 2] ?_; refine sr ?_; refine o1 (ieq ?_); refine o1 (asg ?_); refine nx ?_; refine cd (fun h11 => ?_) (fun h11 => ?_)
    · simp only [nrm, Int.reduceEq, Int.reduceNe, Int.reduceLT, Int.reduceLE] at h11
    (try simp only [nrm, Int.reduceEq, Int.reduceNe, Int.reduceLT, Int.reduceLE] at h11); refine runs_skip ?_; refine inb_normal ?_; refine seq_normal ?_; refine kp [] ?_; refine sr ?_; refine o1 (asg ?_); refine nx ?_; refine runs_ret ?_
    refine fin_ret ?_; refine fin_d1 rfl rfl ?_
    rfl
  | succ a ih =>
    intro hsz
    simp only [Lev.size] at hsz
    have h9 := hbd a
    refine triD_of_runs Tryd.func12 rfl Tryd.ntmps12 (rs := [.tmp 6]) rfl rfl rfl ?_
    refine sr ?_; refine oc (T := fun _ => False) (bx ti31 ?_ (hl := by simp only [List.length_cons, List.length_nil, Nat.reduceAdd]; rfl)); refine o1 (asg ?_); refine nx ?_; refine runs_seq ?_; refine sr ?_; refine o1 (fdb ti31 ?_)
    refine o1 (ldb ti3 ?_); refine nx ?_; refine runs_block ?_; refine sr ?_; refine o1 (ieq ?_); refine o1 (asg ?_); refine nx ?_; refine cdf (fun h2 => ?_) (fun h2 => ?_)
    · simp only [nrm, Int.reduceEq, Int.reduceNe, Int.reduceLT, Int.reduceLE] at h2
    (try simp only [nrm, Int.reduceEq, Int.reduceNe, Int.reduceLT, Int.reduceLE] at h2); refine kp [3, 1, 2] ?_; refine sr ?_; refine o1 (fdb ti31 ?_); refine o1 (ldb ti29 ?_); refine o1 (ixs us29 te29 ?_ (he := by exact (rfl)))
    refine o1 (lda ti31 ?_ (hlen := by exact (Lvl.cells_len _))); refine o1 (mv ?_); refine o1 (mv ?_); refine oc (cv ca12 rfl rfl (ih (by omega)) (fir (fir (fir .nil))) ?_); refine o1 (iad ?_); refine o1 (asg ?_); refine nx ?_
    refine runs_ret ?_; refine inb_ret ?_; refine seq_ret ?_; refine fin_ret ?_; refine fin_d1 rfl rfl ?_
    rfl
  | param s =>
    intro hsz
    refine triD_of_runs Tryd.func12 rfl Tryd.ntmps12 (rs := [.tmp 6]) rfl rfl rfl ?_
    refine sr ?_; refine oc (T := fun _ => False) (bx ti31 ?_ (hl := by simp only [List.length_cons, List.length_nil, Nat.reduceAdd]; rfl)); refine o1 (asg ?_); refine nx ?_; refine runs_seq ?_; refine sr ?_; refine o1 (fdb ti31 ?_)
    refine o1 (ldb ti3 ?_); refine nx ?_; refine runs_block ?_; refine sr ?_; refine o1 (ieq ?_); refine o1 (asg ?_); refine nx ?_; refine cd (fun h2 => ?_) (fun h2 => ?_)
    · simp only [nrm, Int.reduceEq, Int.reduceNe, Int.reduceLT, Int.reduceLE] at h2
    (try simp only [nrm, Int.reduceEq, Int.reduceNe, Int.reduceLT, Int.reduceLE] at h2); refine kp [10, 3, 1, 2] ?_; refine sr ?_; refine o1 (ieq ?_); refine o1 (asg ?_); refine nx ?_; refine cd (fun h4 => ?_) (fun h4 => ?_)
    · simp only [nrm, Int.reduceEq, Int.reduceNe, Int.reduceLT, Int.reduceLE] at h4
    (try simp only [nrm, Int.reduceEq, Int.reduceNe, Int.reduceLT, Int.reduceLE] at h4); refine sr ?_; refine o1 (ieq ?_); refine o1 (asg ?_); refine nx ?_; refine cd (fun h6 => ?_) (fun h6 => ?_)
    · simp only [nrm, Int.reduceEq, Int.reduceNe, Int.reduceLT, Int.reduceLE] at h6
    (try simp only [nrm, Int.reduceEq, Int.reduceNe, Int.reduceLT, Int.reduceLE] at h6); refine kp [10, 3, 1, 2] ?_; refine sr ?_; refine o1 (ieq ?_); refine o1 (asg ?_); refine nx ?_; refine cdf (fun h11 => ?_) (fun h11 => ?_)
    · simp only [nrm, Int.reduceEq, Int.reduceNe, Int.reduceLT, Int.reduceLE] at h11
    (try simp only [nrm, Int.reduceEq, Int.reduceNe, Int.reduceLT, Int.reduceLE] at h11); refine sr ?_; refine o1 (mv ?_); refine o1 (fdb ti31 ?_); refine o1 (ldb ti9 ?_); refine oc (cv ca28 rfl rfl (index_spec ps s hl2) (fir (fir .nil)) ?_)
    refine o1 (asg ?_); refine nx ?_; refine kp [8, 2] ?_; refine sr ?_; refine o1 (mv ?_); refine o1 (ige ?_); refine nx ?_; refine cdf (fun h13 => ?_) (fun h13 => ?_)
    · (try simp only [nrm, Int.reduceEq, Int.reduceNe, Int.reduceLT, Int.reduceLE] at h13)
      refine runs_skip ?_; refine inb_normal ?_; refine seq_normal ?_; refine kp [] ?_; refine sr ?_; refine o1 (asg ?_); refine nx ?_; refine runs_ret ?_; refine fin_ret ?_; refine fin_d1 rfl rfl ?_
      rcases idxI_case ps s with ⟨hx, _⟩ | ⟨i, hi, hx1, hx2, hx⟩
      · simp only [Lev.worth, pval_none hx]
      · omega
    (try simp only [nrm, Int.reduceEq, Int.reduceNe, Int.reduceLT, Int.reduceLE] at h13); refine sr ?_; refine o1 (mv ?_); refine o1 (mv ?_)
    rcases idxI_case ps s with ⟨_, hx⟩ | ⟨i, hi, hx1, hx2, hx⟩
    · omega
    have hin : i < ns.length := by omega
    rw [hx]
    refine o1 (ixs us39 te39 ?_ (he := by exact (int_at (by omega)))); refine o1 (ldc ti3 ?_); refine o1 (asg ?_); refine nx ?_; refine runs_ret ?_; refine inb_ret ?_; refine seq_ret ?_; refine fin_ret ?_; refine fin_d1 rfl rfl ?_
    obtain ⟨n, hn1, hn2⟩ := pval_at hl hx1 (show ps[i]? = some s by rw [List.getElem?_eq_getElem hi, hx2])
    rw [List.getElem?_eq_getElem hin] at hn1
    simp only [Lev.worth, hn2]
    cases hn1; rfl
  | max a b iha ihb =>
    intro hsz
    simp only [Lev.size] at hsz
    have h9 := hbd a
    have h10 := hbd b
    refine triD_of_runs Tryd.func12 rfl Tryd.ntmps12 (rs := [.tmp 6]) rfl rfl rfl ?_
    refine sr ?_; refine oc (T := fun _ => False) (bx ti31 ?_ (hl := by simp only [List.length_cons, List.length_nil, Nat.reduceAdd]; rfl)); refine o1 (asg ?_); refine nx ?_; refine runs_seq ?_; refine sr ?_; refine o1 (fdb ti31 ?_)
    refine o1 (ldb ti3 ?_); refine nx ?_; refine runs_block ?_; refine sr ?_; refine o1 (ieq ?_); refine o1 (asg ?_); refine nx ?_; refine cd (fun h2 => ?_) (fun h2 => ?_)
    · simp only [nrm, Int.reduceEq, Int.reduceNe, Int.reduceLT, Int.reduceLE] at h2
    (try simp only [nrm, Int.reduceEq, Int.reduceNe, Int.reduceLT, Int.reduceLE] at h2); refine kp [10, 3, 1, 2] ?_; refine sr ?_; refine o1 (ieq ?_); refine o1 (asg ?_); refine nx ?_; refine cdf (fun h4 => ?_) (fun h4 => ?_)
    · simp only [nrm, Int.reduceEq, Int.reduceNe, Int.reduceLT, Int.reduceLE] at h4
    (try simp only [nrm, Int.reduceEq, Int.reduceNe, Int.reduceLT, Int.reduceLE] at h4); refine runs_seq ?_; refine a_start ?_ (hm := by exact mixed); refine A1 0 rfl (fdb ti31 ⟨_, rfl, ?_⟩); refine A1 1 rfl (ldb ti29 ⟨_, rfl, ?_⟩)
    refine A1 2 rfl (ixs us29 te29 ⟨_, rfl, ?_⟩ (he := by exact (rfl))); refine A1 3 rfl (lda ti31 ⟨_, rfl, ?_⟩ (hlen := by exact (Lvl.cells_len _))); refine A1 4 rfl (mv ⟨_, rfl, ?_⟩); refine A1 5 rfl (mv ⟨_, rfl, ?_⟩)
    refine A1 7 rfl (fdb ti31 ⟨_, rfl, ?_⟩); refine A1 8 rfl (ldb ti29 ⟨_, rfl, ?_⟩); refine A1 9 rfl (ixs us29 te29 ⟨_, rfl, ?_⟩ (he := by exact (rfl))); refine A1 10 rfl (lda ti31 ⟨_, rfl, ?_⟩ (hlen := by exact (Lvl.cells_len _)))
    refine A1 11 rfl (mv ⟨_, rfl, ?_⟩); refine A1 12 rfl (mv ⟨_, rfl, ?_⟩); refine A2 6 rfl (cv ca12 rfl rfl (iha (by omega)) (fir (fir (fir .nil))) ?_); refine A2 13 rfl (cv ca12 rfl rfl (ihb (by omega)) (fir (fir (fir .nil))) ?_)
    refine A1 14 rfl (f_max ⟨_, rfl, ?_⟩); refine A1 15 rfl (asg ⟨_, rfl, ?_⟩); refine a_end ?_; refine seq_normal ?_; refine runs_ret ?_; refine inb_ret ?_; refine seq_ret ?_; refine fin_ret ?_; refine fin_d1 rfl rfl ?_
    rfl
  | imax a b iha ihb =>
    intro hsz
    simp only [Lev.size] at hsz
    have h9 := hbd a
    have h10 := hbd b
    refine triD_of_runs Tryd.func12 rfl Tryd.ntmps12 (rs := [.tmp 6]) rfl rfl rfl ?_
    refine sr ?_; refine oc (T := fun _ => False) (bx ti31 ?_ (hl := by simp only [List.length_cons, List.length_nil, Nat.reduceAdd]; rfl)); refine o1 (asg ?_); refine nx ?_; refine runs_seq ?_; refine sr ?_; refine o1 (fdb ti31 ?_)
    refine o1 (ldb ti3 ?_); refine nx ?_; refine runs_block ?_; refine sr ?_; refine o1 (ieq ?_); refine o1 (asg ?_); refine nx ?_; refine cd (fun h2 => ?_) (fun h2 => ?_)
    · simp only [nrm, Int.reduceEq, Int.reduceNe, Int.reduceLT, Int.reduceLE] at h2
    (try simp only [nrm, Int.reduceEq, Int.reduceNe, Int.reduceLT, Int.reduceLE] at h2); refine kp [10, 3, 1, 2] ?_; refine sr ?_; refine o1 (ieq ?_); refine o1 (asg ?_); refine nx ?_; refine cd (fun h4 => ?_) (fun h4 => ?_)
    · simp only [nrm, Int.reduceEq, Int.reduceNe, Int.reduceLT, Int.reduceLE] at h4
    (try simp only [nrm, Int.reduceEq, Int.reduceNe, Int.reduceLT, Int.reduceLE] at h4); refine sr ?_; refine o1 (ieq ?_); refine o1 (asg ?_); refine nx ?_; refine cdf (fun h6 => ?_) (fun h6 => ?_)
    · simp only [nrm, Int.reduceEq, Int.reduceNe, Int.reduceLT, Int.reduceLE] at h6
    (try simp only [nrm, Int.reduceEq, Int.reduceNe, Int.reduceLT, Int.reduceLE] at h6); refine kp [3, 1, 2] ?_; refine sr ?_; refine o1 (fdb ti31 ?_); refine o1 (ldb ti29 ?_); refine o1 (ixs us29 te29 ?_ (he := by exact (rfl)))
    refine o1 (lda ti31 ?_ (hlen := by exact (Lvl.cells_len _))); refine o1 (mv ?_); refine o1 (mv ?_); refine oc (cv ca12 rfl rfl (ihb (by omega)) (fir (fir (fir .nil))) ?_); refine o1 (asg ?_); refine nx ?_; refine runs_seq ?_
    refine kp [7, 3, 1, 2] ?_; refine sr ?_; refine o1 (mv ?_); refine o1 (ieq ?_); refine nx ?_; refine cd (fun h8 => ?_) (fun h8 => ?_)
    · (try simp only [nrm, Int.reduceEq, Int.reduceNe, Int.reduceLT, Int.reduceLE] at h8)
      refine kp [] ?_; refine sr ?_; refine o1 (asg ?_); refine nx ?_; refine runs_ret ?_; refine seq_ret ?_; refine inb_ret ?_; refine seq_ret ?_; refine fin_ret ?_; refine fin_d1 rfl rfl ?_
      rw [show (Lev.imax a b).worth (pval ps ns) = 0 by simp only [Lev.worth, h8, if_true]]
    (try simp only [nrm, Int.reduceEq, Int.reduceNe, Int.reduceLT, Int.reduceLE] at h8); refine runs_skip ?_; refine seq_normal ?_; refine sr ?_; refine o1 (fdb ti31 ?_); refine o1 (ldb ti29 ?_)
    refine o1 (ixs us29 te29 ?_ (he := by exact (rfl))); refine o1 (lda ti31 ?_ (hlen := by exact (Lvl.cells_len _))); refine o1 (mv ?_); refine o1 (mv ?_); refine oc (cv ca12 rfl rfl (iha (by omega)) (fir (fir (fir .nil))) ?_)
    refine o1 (mv ?_); refine o1 (f_max ?_); refine o1 (asg ?_); refine nx ?_; refine runs_ret ?_; refine inb_ret ?_; refine seq_ret ?_; refine fin_ret ?_; refine fin_d1 rfl rfl ?_
    rw [show (Lev.imax a b).worth (pval ps ns) = max (a.worth (pval ps ns)) (b.worth (pval ps ns)) by simp only [Lev.worth, h8, if_false]]
theorem psubst_spec (ps : List ByteArray) (ls : List Lvl) (hl : ps.length ≤ ls.length) (hl2 : ps.length ≤ 281474976710656) : ∀ (n : Nat) (k : Int) (s : ByteArray) (args : List Lvl), (Lvl.mk k s args).size ≤ n → (Lvl.mk k s args).size ≤ 1099511627776 →
    TriD Tryd.prog gl 20 [(Lvl.mk k s args).d, strsD ps, .sl 3 (lvls ls)] (· = ((Lvl.mk k s args).subst ps ls).d) := by
  have hlp := strs_len ps
  have hll := lvls_len ls
  intro n
  induction n with
  | zero => intro k s args h; simp [Lvl.size] at h
  | succ n ih =>
    intro k s args hn hb
    have hsz : sizes args ≤ n := by simp [Lvl.size] at hn; omega
    have hlen := lvls_len args
    have hlb := lvls_size args
    simp only [Lvl.size] at hb
    refine triD_of_runs Tryd.func20 rfl Tryd.ntmps20 (rs := [.cell 6 31]) rfl rfl rfl ?_
    refine sr ?_; refine oc (T := fun _ => False) (bx ti31 ?_ (hl := by simp only [List.length_cons, List.length_nil, Nat.reduceAdd]; rfl))
    refine oc (T := fun _ => False) (alc ti31 ?_ (hl := by simp only [List.length_cons, List.length_nil, Nat.reduceAdd]; rfl)); refine nx ?_; refine runs_seq ?_; refine sr ?_; refine o1 (fdb ti31 ?_); refine o1 (ldb ti3 ?_); refine o1 (ieq ?_)
    refine nx ?_; refine cd (fun h1 => ?_) (fun h1 => ?_)
    · (try simp only [nrm, Int.reduceEq, Int.reduceNe, Int.reduceLT, Int.reduceLE] at h1)
      refine runs_seq ?_; refine kp [6, 3, 1, 2] ?_; refine sr ?_; refine o1 (mv ?_); refine o1 (fdb ti31 ?_); refine o1 (ldb ti9 ?_); refine oc (cv ca28 rfl rfl (index_spec ps s hl2) (fir (fir .nil)) ?_); refine o1 (asg ?_); refine nx ?_
      refine kp [7, 6, 3, 2] ?_; refine sr ?_; refine o1 (mv ?_); refine o1 (ige ?_); refine nx ?_; refine cdf (fun h3 => ?_) (fun h3 => ?_)
      · (try simp only [nrm, Int.reduceEq, Int.reduceNe, Int.reduceLT, Int.reduceLE] at h3)
        refine runs_skip ?_; refine seq_normal ?_; refine kp [6, 3] ?_; refine sr ?_; refine o1 (ldb ti31 ?_); refine oc (sto ti31 ?_); refine nx ?_; refine runs_ret ?_; refine seq_ret ?_; refine fin_ret ?_
        refine fin_d ⟨_, _, rfl, (from_cell rfl rfl ti31 rfl rfl rfl rfl), rfl⟩ rfl ?_
        have hk : k = 4 := by omega
        rcases idxI_case ps s with ⟨hx, _⟩ | ⟨i, hi, hx1, hx2, hx⟩
        · simp only [Lvl.subst, if_pos hk, findIdx_none hx]
          rfl
        · omega
      (try simp only [nrm, Int.reduceEq, Int.reduceNe, Int.reduceLT, Int.reduceLE] at h3); refine sr ?_; refine o1 (mv ?_); refine o1 (mv ?_)
      rcases idxI_case ps s with ⟨_, hx⟩ | ⟨i, hi, hx1, hx2, hx⟩
      · omega
      obtain ⟨k', s', a', hget⟩ := lvl_get (show i < ls.length by omega)
      rw [hx]
      refine o1 (ixs us29 te29 ?_ (he := by exact (lvl_at hget))); refine o1 (ldc ti31 ?_); refine oc (sto ti31 ?_); refine nx ?_; refine runs_ret ?_; refine seq_ret ?_; refine seq_ret ?_; refine fin_ret ?_
      refine fin_d ⟨_, _, rfl, (from_cell rfl rfl ti31 rfl rfl rfl rfl), rfl⟩ rfl ?_
      have hk : k = 4 := by omega
      have hf := findIdx_some hi hx1 hx2
      simp only [Lvl.subst, if_pos hk, hf, List.getD_eq_getElem?_getD, hget, Option.getD_some]
      rfl
    (try simp only [nrm, Int.reduceEq, Int.reduceNe, Int.reduceLT, Int.reduceLE] at h1); refine runs_skip ?_; refine seq_normal ?_; refine kp [6, 3, 1, 2] ?_; refine sr ?_; refine o1 (ldb ti31 ?_)
    refine oc (T := fun _ => False) (alc ti31 ?_ (hl := by simp only [List.length_cons, List.length_nil, Nat.reduceAdd]; rfl)); refine oc (sto ti31 ?_); refine nx ?_; refine sr ?_; refine o1 (fdb ti31 ?_); refine oc (sto ti29 ?_); refine nx ?_
    refine runs_seq ?_; refine sr ?_; refine o1 (fdb ti31 ?_); refine o1 (ldb ti29 ?_); refine o1 (le1 us29 ?_); refine o1 (mv ?_); refine nx ?_; refine runs_block ?_; refine kp [30, 29, 28, 8, 6, 1, 2] ?_; refine runs_nilrow 31 3 rfl ?_
    apply runs_loop_o (ι := Nat) (fun i => [(30, int i)]) (fun i => [.cells [.d (.v (.int .i64 k)), .d (.v (.string s)), .d (.sl 3 (lvls args))] 31, .cells [.d (.v (.int .i64 0)), .d (.v (.string .empty)), .d (.v (.slice none 0 0))] 31, .cells [.d (.v (.int .i64 k)), .d (.v (.string s)), .own 3 3 (lvls (substL ps ls (args.take i)))] 31, .row 31 3]) [29, 28, 8, 6, 1, 2] (fun i => i ≤ args.length) (fun i => args.length - i) (0) ([0, 1, 2, 3])
    case hk => exact rfl
    case hI =>
      exact Nat.zero_le _
    case hm =>
      refine mo ?_ (sly (sly (sly (sly (sly (sly (sly slz)))))))
      repeat (first | exact boz | exact fiz | refine boc ?_ | refine bon ?_ | refine boe ?_ ?_ | refine fir ?_ | refine .cons (.nil rfl) ?_)
    case h =>
      rintro i hinv
      try dsimp only at hinv
      refine kp [30, 29, 28, 8, 6, 1, 2] ?_; refine sr ?_; refine o1 (ilt ?_); refine nx ?_; refine runs_seq ?_; refine cdf (fun h9 => ?_) (fun h9 => ?_)
      · (try simp only [nrm, Int.reduceEq, Int.reduceNe, Int.reduceLT, Int.reduceLE] at h9)
        refine runs_exit ?_; refine seq_exit ?_; refine seq_exit ?_; refine inb_exit ?_; refine seq_normal ?_; refine kp [8, 6] ?_; refine sr ?_; refine o1 (ldb ti31 ?_); refine oc (sto ti31 ?_); refine nx ?_; refine runs_ret ?_; refine fin_ret ?_
        refine fin_d ⟨_, _, rfl, (from_cell rfl rfl ti31 rfl rfl rfl rfl), rfl⟩ rfl ?_
        have hk : ¬ k = 4 := by omega
        simp only [Lvl.subst, if_neg hk]
        rw [List.take_of_length_le (by omega)]
        rfl
      (try simp only [nrm, Int.reduceEq, Int.reduceNe, Int.reduceLT, Int.reduceLE] at h9); refine runs_skip ?_; refine seq_normal ?_; refine runs_seq ?_; refine runs_block ?_; refine runs_seq ?_
      obtain ⟨k', s', a', hget⟩ := lvl_get (show i < args.length by omega); obtain ⟨k2, s2, a2, hs2⟩ := Lvl.case ((Lvl.mk k' s' a').subst ps ls)
      have hsz' := size_get hget
      have hlast : lvls (substL ps ls (args.take i)) ++ [[.v (.int .i64 k2), .v (.string s2), .sl 3 (lvls a2)]] = lvls (substL ps ls (args.take (i + 1))) := by
        rw [substL_take hget, lvls_app, hs2]; rfl
      have hll2 := lvls_len (substL ps ls (args.take i))
      have hll3 := substL_len ps ls (args.take i)
      simp only [List.length_take] at hll3
      refine runs_region ?_; refine o1 (ixs us29 te29 ?_ (he := by exact (lvl_at hget))); refine o1 (ldc ti31 ?_); refine oc (T := fun _ => False) (alc ti31 ?_ (hl := by simp only [List.length_cons, List.length_nil, Nat.reduceAdd]; rfl))
      refine oc (sto ti31 ?_); refine nx ?_; refine a_start ?_ (hm := by exact mixed); refine A1 0 rfl (fdb ti31 ⟨_, rfl, ?_⟩); refine A1 1 rfl (ldb ti29 ⟨_, rfl, ?_⟩); refine A1 2 rfl (ldb ti31 ⟨_, rfl, ?_⟩); refine A1 3 rfl (mv ⟨_, rfl, ?_⟩)
      refine A1 4 rfl (mv ⟨_, rfl, ?_⟩); refine A2 (T := fun _ => False) 5 rfl (op_call ca20 rfl rfl rfl rfl (ih k' s' a' (by omega) (by omega)) (fid (fir (fir .nil))) (fun d hd => ?_))
      rw [hs2] at hd; obtain rfl := hd
      refine A2 (T := fun _ => False) 6 rfl (op_lit sl29 [.tmp 39] ti31 rfl rfl rfl rfl rfl rfl rfl (by decide) (by decide) (by decide) (by simp only [List.length_cons, List.length_nil, Nat.reduceAdd]; rfl) rfl ?_)
      refine A2 7 rfl (op_append sl29 rfl rfl rfl rfl rfl rfl rfl (.inl rfl) (by decide) (by simp) (by first | decide | (simp only [maxLen, List.length_cons, List.length_nil, List.length_append, List.length_map]; omega) | omega) rfl rfl rfl ?_)
      refine A1 8 rfl (fdb ti31 ⟨_, rfl, ?_⟩); refine A2 9 rfl (sto ti29 ?_); refine a_end ?_; refine inb_normal ?_; refine seq_normal ?_; refine kp [30, 29, 28, 8, 6, 1, 2] ?_; refine runs_region ?_; refine o1 (iad ?_); refine o1 (mv ?_)
      refine ops_nil ?_; refine seq_back ?_
      rw [hlast]
      refine back_c (i + 1) rfl ?_ ([0, 1, 2, 3]) ?_
      · exact ⟨by omega, by omega⟩
      · refine mo ?_ (sly (sly (sly (sly (sly (sly (sly slz)))))))
        repeat (first | exact boz | refine boc ?_ | refine bor ?_)
end Go.Proofs.YtafhnnbbfgoacaaDoor
