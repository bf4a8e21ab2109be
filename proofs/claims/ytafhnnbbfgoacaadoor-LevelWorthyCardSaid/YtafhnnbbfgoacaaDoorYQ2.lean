/-
  What is proved here: the contract of the program's shape of levels.
-/
import Derived.Test.YtafhnnbbfgoacaaDoorYQ1
set_option linter.unusedSimpArgs false
set_option linter.unusedVariables false
namespace Go.Proofs.YtafhnnbbfgoacaaDoor
open Go Go.Vd Go.RowKit
attribute [local irreducible] Runs OpsR OpR FloatR AnyR AnyO
variable {gl : Nat → List D}

def ShQ (z o : MapF) (l : Lev) (out : Out) (ob' : List Ob) : Prop :=
  ∃ n f q, out = .ret (.tup [.agg [.d (.v (.int .i64 n)), .map 2], .d (.v (.string q))]) ∧ ob' = [.mapI z, .mapI o, .mapI f] ∧ Shape l z o n f q

theorem shape_param_spec (z o : MapF) (hz : Ones z) (ho : Ones o) (s : ByteArray) :
    Tri Tryd.prog gl 46 [.mapI z, .mapI o] [.d (Lev.param s).toLvl.d, .map 0, .map 1] (ShQ z o (.param s)) := by
  have hzs : z s = none ∨ z s = some 1 := by
    cases h : z s with
    | none => exact .inl rfl
    | some m => rw [hz s m h]; exact .inr rfl
  unfold Lev.toLvl
  refine triS_of_runs Tryd.func46 rfl Tryd.ntmps46 (rs := [.cell 6 80, .tmp 7]) rfl rfl rfl 2 rfl ?_
  refine sr ?_; refine oc (T := fun _ => False) (bx ti31 ?_ (hl := by simp only [List.length_cons, List.length_nil, Nat.reduceAdd]; rfl))
  refine oc (T := fun _ => False) (alc ti80 ?_ (hl := by simp only [List.length_cons, List.length_nil, Nat.reduceAdd]; rfl)); refine o1 (asg ?_); refine nx ?_; refine sr ?_
  refine oc (T := fun _ => False) (op_mapmake rfl rfl rfl (by simp only [List.length_cons, List.length_nil, Nat.reduceAdd]; rfl) rfl ?_); refine o1 (bld ti80 ?_)
  refine oc (T := fun _ => False) (alc ti80 ?_ (hl := by simp only [List.length_cons, List.length_nil, Nat.reduceAdd]; rfl)); refine oc (sto ti80 ?_); refine nx ?_; refine runs_seq ?_; refine kp [8, 6, 3, 1, 2] ?_; refine sr ?_
  refine o1 (fdb ti31 ?_); refine o1 (ldb ti3 ?_); refine nx ?_; refine runs_block ?_; refine sr ?_; refine o1 (ieq ?_); refine o1 (asg ?_); refine nx ?_; refine cdf (fun h3 => ?_) (fun h3 => ?_)
  · simp only [nrm, Int.reduceEq, Int.reduceNe, Int.reduceLT, Int.reduceLE] at h3
  (try simp only [nrm, Int.reduceEq, Int.reduceNe, Int.reduceLT, Int.reduceLE] at h3); refine runs_seq ?_; refine kp [8, 6, 3, 1, 2] ?_; refine sr ?_; refine o1 (mv ?_); refine o1 (fdb ti31 ?_); refine o1 (ldb ti9 ?_)
  refine oc (op_lookup1 mt59 rfl rfl rfl rfl rfl rfl ?_); refine o1 (ieq ?_); refine nx ?_; refine cdf (fun h4 => ?_) (fun h4 => ?_)
  · (try simp only [nrm, Int.reduceEq, Int.reduceNe, Int.reduceLT, Int.reduceLE] at h4)
    refine runs_skip ?_; refine seq_normal ?_; refine kp [8, 6] ?_; refine sr ?_; refine o1 (ldb ti80 ?_); refine oc (sto ti80 ?_); refine o1 (asg ?_); refine nx ?_; refine runs_ret ?_; refine inb_ret ?_; refine seq_ret ?_; refine fin_ret ?_
    refine fin_o ⟨_, _, rfl, (from_cell rfl rfl ti80 rfl rfl rfl rfl), ⟨_, _, rfl, rfl, rfl⟩⟩ [0, 1, 4] (.tup [.agg [.d (.v (.int .i64 0)), .map 2], .d (.v (.string .empty))]) ([.mapI z, .mapI o, .mapI (fun _ => none)]) rfl rfl rfl ?_ rfl ?_ ?_
    · repeat (first | exact boz | refine bom ?_)
    · exact .refl _
    · refine ⟨_, _, _, rfl, rfl, shape_zeroed s ?_⟩
      intro h
      rw [h] at h4; simp at h4
  (try simp only [nrm, Int.reduceEq, Int.reduceNe, Int.reduceLT, Int.reduceLE] at h4); refine kp [8, 6, 3, 2] ?_; refine sr ?_; refine o1 (fdb ti80 ?_); refine o1 (ldb ti59 ?_); refine o1 (fdb ti31 ?_); refine o1 (ldb ti9 ?_)
  refine o1 (mv ?_); refine o1 (fdb ti31 ?_); refine o1 (ldb ti9 ?_); refine oc (op_lookup1 mt59 rfl rfl rfl rfl rfl rfl ?_); refine oc (op_mapupd mt59 rfl rfl rfl rfl rfl rfl rfl rfl ?_); refine nx ?_; refine kp [8, 6, 3, 2] ?_
  refine runs_region ?_; refine o1 (mv ?_); refine o1 (fdb ti31 ?_); refine o1 (ldb ti9 ?_); refine oc (op_lookup1 mt59 rfl rfl rfl rfl rfl rfl ?_); refine o1 (fdb ti80 ?_); refine oc (sto ti3 ?_); refine nx ?_; refine kp [8, 6] ?_
  refine sr ?_; refine o1 (ldb ti80 ?_); refine oc (sto ti80 ?_); refine o1 (asg ?_); refine nx ?_; refine runs_ret ?_; refine inb_ret ?_; refine seq_ret ?_; refine fin_ret ?_
  refine fin_o ⟨_, _, rfl, (from_cell rfl rfl ti80 rfl rfl rfl rfl), ⟨_, _, rfl, rfl, rfl⟩⟩ [0, 1, 4] (.tup [.agg [.d (.v (.int .i64 ((o s).getD 0))), .map 2], .d (.v (.string .empty))]) ([.mapI z, .mapI o, .mapI (updM (fun _ => none) s ((o s).getD 0))]) rfl rfl rfl ?_ rfl ?_ ?_
  · repeat (first | exact boz | refine bom ?_)
  · exact .refl _
  · refine ⟨_, _, _, rfl, rfl, shape_param hz ho s ?_⟩
    rcases hzs with h | h
    · exact h
    · rw [h] at h4; simp at h4

theorem shape_loop_spec (z o : MapF) (l : Lev) (k : Int) (ls : List Lev) (hl : l.toLvl = .mk k .empty (ls.map Lev.toLvl)) (h3 : ¬ k = 3) (h4 : ¬ k = 4) (hsz : ∀ a ∈ ls, a.size ≤ 1099511627776) (hlen : ls.length ≤ 2)
    (ih : ∀ a ∈ ls, Tri Tryd.prog gl 46 [.mapI z, .mapI o] [.d a.toLvl.d, .map 0, .map 1] (ShQ z o a))
    (hfin : ∀ n f, PSL (if k = 1 then 1 else 0) z o ls.reverse n f → Shape l z o n f .empty)
    (hearly : ∀ i n f q, PSL (if k = 1 then 1 else 0) z o (ls.take i).reverse n f → q ≠ .empty → (∃ a ∈ ls, a.has q) → z q = none → o q = none → Shape l z o n f q) :
    Tri Tryd.prog gl 46 [.mapI z, .mapI o] [.d l.toLvl.d, .map 0, .map 1] (ShQ z o l) := by
  rw [hl]
  have hll := lvls_len (ls.map Lev.toLvl)
  simp only [List.length_map] at hll
  have hup : (0 : Int) ≤ (if k = 1 then 1 else 0) ∧ (if k = 1 then (1 : Int) else 0) ≤ 1 := by split <;> omega
  refine triS_of_runs Tryd.func46 rfl Tryd.ntmps46 (rs := [.cell 6 80, .tmp 7]) rfl rfl rfl 2 rfl ?_
  refine sr ?_; refine oc (T := fun _ => False) (bx ti31 ?_ (hl := by simp only [List.length_cons, List.length_nil, Nat.reduceAdd]; rfl))
  refine oc (T := fun _ => False) (alc ti80 ?_ (hl := by simp only [List.length_cons, List.length_nil, Nat.reduceAdd]; rfl)); refine o1 (asg ?_); refine nx ?_; refine sr ?_
  refine oc (T := fun _ => False) (op_mapmake rfl rfl rfl (by simp only [List.length_cons, List.length_nil, Nat.reduceAdd]; rfl) rfl ?_); refine o1 (bld ti80 ?_)
  refine oc (T := fun _ => False) (alc ti80 ?_ (hl := by simp only [List.length_cons, List.length_nil, Nat.reduceAdd]; rfl)); refine oc (sto ti80 ?_); refine nx ?_; refine runs_seq ?_; refine kp [8, 6, 3, 1, 2] ?_; refine sr ?_
  refine o1 (fdb ti31 ?_); refine o1 (ldb ti3 ?_); refine nx ?_; refine runs_block ?_; refine sr ?_; refine o1 (ieq ?_); refine o1 (asg ?_); refine nx ?_; refine cd (fun h3 => ?_) (fun h3 => ?_)
  · (try simp only [nrm, Int.reduceEq, Int.reduceNe, Int.reduceLT, Int.reduceLE] at h3); contradiction
  (try simp only [nrm, Int.reduceEq, Int.reduceNe, Int.reduceLT, Int.reduceLE] at h3); refine sr ?_; refine o1 (ieq ?_); refine o1 (asg ?_); refine nx ?_; refine cd (fun h8 => ?_) (fun h8 => ?_)
  · (try simp only [nrm, Int.reduceEq, Int.reduceNe, Int.reduceLT, Int.reduceLE] at h8); contradiction
  (try simp only [nrm, Int.reduceEq, Int.reduceNe, Int.reduceLT, Int.reduceLE] at h8); refine runs_skip ?_; refine inb_normal ?_; refine seq_normal ?_; refine runs_seq ?_; refine kp [8, 6, 3, 1, 2] ?_; refine sr ?_; refine o1 (fdb ti31 ?_)
  refine o1 (ldb ti29 ?_); refine o1 (le1 us29 ?_); refine o1 (mv ?_); refine nx ?_; refine runs_block ?_; refine kp [91, 90, 89, 8, 6, 3, 1, 2] ?_
  apply runs_loop_o (ι := Nat × Int × MapF) (fun ⟨i, n, f⟩ => [(91, int i)]) (fun ⟨i, n, f⟩ => [.mapI z, .mapI o, .cells [.d (.v (.int .i64 k)), .d (.v (.string .empty)), .d (.sl 3 (lvls (ls.map Lev.toLvl)))] 31, .cells [.d (.v (.int .i64 0)), .d (.v (.map none))] 80, .mapI f, .cells [.d (.v (.int .i64 n)), .map 4] 80]) [90, 89, 8, 6, 3, 1, 2] (fun ⟨i, n, f⟩ => i ≤ ls.length ∧ PSL (if k = 1 then 1 else 0) z o (ls.take i).reverse n f) (fun ⟨i, n, f⟩ => ls.length - i) (⟨0, 0, fun _ => none⟩) ([0, 1, 2, 3, 4, 5])
  case hk => exact rfl
  case hI =>
    exact ⟨Nat.zero_le _, rfl, rfl⟩
  case hm =>
    refine mo ?_ (sly (sly (sly (sly (sly (sly (sly (sly slz))))))))
    repeat (first | exact boz | refine boc ?_ | refine bom ?_)
  case h =>
    rintro ⟨i, n, f⟩ hinv
    try dsimp only at hinv
    refine kp [91, 90, 89, 8, 6, 3, 1, 2] ?_; refine sr ?_; refine o1 (ilt ?_); refine nx ?_; refine runs_seq ?_; refine cdf (fun h23 => ?_) (fun h23 => ?_)
    · (try simp only [nrm, Int.reduceEq, Int.reduceNe, Int.reduceLT, Int.reduceLE] at h23)
      refine runs_exit ?_; refine seq_exit ?_; refine seq_exit ?_; refine inb_exit ?_; refine seq_normal ?_; refine kp [8, 6] ?_; refine sr ?_; refine o1 (ldb ti80 ?_); refine oc (sto ti80 ?_); refine o1 (asg ?_); refine nx ?_; refine runs_ret ?_
      refine fin_ret ?_
      refine fin_o ⟨_, _, rfl, (from_cell rfl rfl ti80 rfl rfl rfl rfl), ⟨_, _, rfl, rfl, rfl⟩⟩ [0, 1, 4] (.tup [.agg [.d (.v (.int .i64 n)), .map 2], .d (.v (.string .empty))]) ([.mapI z, .mapI o, .mapI f]) rfl rfl rfl ?_ rfl ?_ ?_
      · repeat (first | exact boz | refine bom ?_)
      · exact .refl _
      · exact ⟨_, _, _, rfl, rfl, hfin n f (by rw [← List.take_of_length_le (l := ls) (i := i) (by omega)]; exact hinv.2)⟩
    (try simp only [nrm, Int.reduceEq, Int.reduceNe, Int.reduceLT, Int.reduceLE] at h23); refine runs_skip ?_; refine seq_normal ?_; refine runs_seq ?_; refine runs_block ?_; refine runs_seq ?_
    have hin : i < ls.length := by omega
    obtain ⟨k', s', a', hX⟩ := Lvl.case ls[i].toLvl
    have hget : (ls.map Lev.toLvl)[i]? = some (.mk k' s' a') := by simp [hin, hX]
    have ihi := ih ls[i] (List.getElem_mem hin)
    have hsi := hsz ls[i] (List.getElem_mem hin)
    have hPb := hinv.2.bound (M := 1099511627777) hup.1 (by omega) (fun a ha => by
      have := hsz a (List.mem_of_mem_take (List.mem_reverse.1 ha)); omega)
    rw [hX] at ihi
    refine runs_region ?_; refine o1 (ixs us29 te29 ?_ (he := by exact (lvl_at hget))); refine o1 (ldc ti31 ?_); refine oc (T := fun _ => False) (alc ti31 ?_ (hl := by simp only [List.length_cons, List.length_nil, Nat.reduceAdd]; rfl))
    refine oc (sto ti31 ?_); refine nx ?_; refine sr ?_; refine o1 (ldb ti31 ?_); refine o1 (mv ?_); refine o1 (mv ?_)
    refine oc (op_callo ca46 rfl rfl rfl rfl (ihi) [0, 1] (bom (bom .nil)) rfl rfl rfl rfl (fid (fir (fir .nil))) (fun s ob' hq => ?_) (fun s ob' hq => ?_))
    rotate_left
    · obtain ⟨_, _, _, hq1, _⟩ := hq; cases hq1
    obtain ⟨na, fa, q, hq1, rfl, hsh⟩ := hq; cases hq1; refine ⟨_, _, _, _, _, rfl, rfl, rfl, rfl, rfl, ?_⟩; refine o1 (mv ?_); refine o1 (ex1 ?_); refine o1 (ex1 ?_)
    refine oc (T := fun _ => False) (alc ti80 ?_ (hl := by simp only [List.length_cons, List.length_nil, Nat.reduceAdd]; rfl)); refine oc (sto ti80 ?_); refine o1 (asg ?_); refine nx ?_; refine runs_seq ?_
    refine kp [16, 15, 91, 90, 89, 8, 6, 3, 1, 2] ?_; refine sr ?_; refine o1 (mv ?_); refine o1 (sne ?_); refine nx ?_; refine cd (fun h26 => ?_) (fun h26 => ?_)
    · (try simp only [nrm, Int.reduceEq, Int.reduceNe, Int.reduceLT, Int.reduceLE] at h26)
      refine kp [16, 8, 6] ?_; refine sr ?_; refine o1 (ldb ti80 ?_); refine o1 (mv ?_); refine oc (sto ti80 ?_); refine o1 (asg ?_); refine nx ?_; refine runs_ret ?_; refine seq_ret ?_; refine inb_ret ?_; refine seq_ret ?_; refine seq_ret ?_
      refine inb_ret ?_; refine seq_ret ?_; refine fin_ret ?_
      refine fin_o ⟨_, _, rfl, (from_cell rfl rfl ti80 rfl rfl rfl rfl), ⟨_, _, rfl, rfl, rfl⟩⟩ [0, 1, 4] (.tup [.agg [.d (.v (.int .i64 n)), .map 2], .d (.v (.string q))]) ([.mapI z, .mapI o, .mapI f]) rfl rfl rfl ?_ rfl ?_ ?_
      · repeat (first | exact boz | refine bom ?_)
      · exact .refl _
      · exact ⟨_, _, _, rfl, rfl, hearly i n f q hinv.2 h26 ⟨ls[i], List.getElem_mem hin, (hsh.no h26).1⟩ (hsh.no h26).2.1 (hsh.no h26).2.2⟩
    (try simp only [nrm, Int.reduceEq, Int.reduceNe, Int.reduceLT, Int.reduceLE] at h26); refine runs_skip ?_; refine seq_normal ?_; refine runs_seq ?_
    replace h26 : q = .empty := h26
    subst h26
    have hnb := hsh.b.n0
    have hnb1 := hsh.b.n1
    refine runs_region ?_; refine o1 (asg ?_); refine nx ?_; refine runs_seq ?_; refine sr ?_; refine o1 (fdb ti31 ?_); refine o1 (ldb ti3 ?_); refine o1 (ieq ?_); refine nx ?_; refine kp [108, 17, 15, 91, 90, 89, 8, 6, 3, 1, 2] ?_
    apply runs_cut_c (ι := Unit) (fun _ => [(17, int (if k = 1 then 1 else 0))]) [15, 91, 90, 89, 8, 6, 3, 1, 2] (fun _ => True)
    case hk => exact rfl
    case h1 =>
      refine cdf (fun h29 => ?_) (fun h29 => ?_)
      · (try simp only [nrm, Int.reduceEq, Int.reduceNe, Int.reduceLT, Int.reduceLE] at h29)
        refine runs_skip ?_; refine seq_back ?_; refine back_i (()) rfl ?_ ?_
        · trivial
        · refine mo ?_ (slx rfl (by exact Fit.of_eq (by simp only [h29, if_true, if_false]; rfl)) (sly (sly (sly (sly (sly (sly (sly (sly (sly slz))))))))))
          repeat (first | exact boz | refine boc ?_ | refine bom ?_)
      (try simp only [nrm, Int.reduceEq, Int.reduceNe, Int.reduceLT, Int.reduceLE] at h29); refine runs_region ?_; refine o1 (asg ?_); refine ops_nil ?_; refine seq_back ?_; refine back_i (()) rfl ?_ ?_
      · trivial
      · refine mo ?_ (slx rfl (by exact Fit.of_eq (by simp only [h29, if_true, if_false]; rfl)) (sly (sly (sly (sly (sly (sly (sly (sly (sly slz))))))))))
        repeat (first | exact boz | refine boc ?_ | refine bom ?_)
    case h2 =>
      rintro _ hcut
      try dsimp only at hcut
      refine kp [17, 15, 91, 90, 89, 8, 6, 3, 1, 2] ?_; refine runs_region ?_; refine o1 (ldb ti80 ?_); refine o1 (mv ?_)
      refine oc (ck ca56 rfl rfl (join_spec n na (if k = 1 then 1 else 0) f fa (ls[i].params []) (by omega) (by omega) hup (fun p m e => by have := hsh.b.f0 p m e; omega) (fun p m e => ls[i].has_params (hsh.b.sup p m e))) [5, 4, 7] rfl (boc (bom (bom .nil))) (fir (fir (fir .nil))) ?_)
      refine ops_nil ?_; refine inb_normal ?_; refine seq_normal ?_; refine kp [91, 90, 89, 8, 6, 3, 1, 2] ?_; refine runs_region ?_; refine o1 (iad ?_); refine o1 (mv ?_); refine ops_nil ?_; refine seq_back ?_
      refine back_c (⟨i + 1, max n (na + if k = 1 then 1 else 0), joinM f fa (if k = 1 then 1 else 0)⟩) rfl ?_ ([0, 1, 2, 3, 4, 5]) ?_
      · refine ⟨⟨by omega, ?_⟩, by simp only; omega⟩
        rw [List.take_succ_eq_append_getElem hin, List.reverse_append]
        exact ⟨n, f, na, fa, hinv.2, hsh, rfl, rfl⟩
      · refine mo ?_ (sly (sly (sly (sly (sly (sly (sly (sly slz))))))))
        repeat (first | exact boz | refine boc ?_ | refine bom ?_)

theorem shape_imax_spec (z o : MapF) (ho : Ones o) (a b : Lev) (hnm : nmL (.imax a b)) (hsa : a.size ≤ 1099511627776) (hsb : b.size ≤ 1099511627776)
    (iha : Tri Tryd.prog gl 46 [.mapI z, .mapI o] [.d a.toLvl.d, .map 0, .map 1] (ShQ z o a))
    (ihb : Tri Tryd.prog gl 46 [.mapI z, .mapI o] [.d b.toLvl.d, .map 0, .map 1] (ShQ z o b)) :
    Tri Tryd.prog gl 46 [.mapI z, .mapI o] [.d (Lev.imax a b).toLvl.d, .map 0, .map 1] (ShQ z o (.imax a b)) := by
  obtain ⟨ka, sa, aa, hXa⟩ := Lvl.case a.toLvl
  obtain ⟨kb, sb, ab, hXb⟩ := Lvl.case b.toLvl
  rw [hXa] at iha
  rw [hXb] at ihb
  unfold Lev.toLvl
  rw [hXa, hXb]
  refine triS_of_runs Tryd.func46 rfl Tryd.ntmps46 (rs := [.cell 6 80, .tmp 7]) rfl rfl rfl 2 rfl ?_
  refine sr ?_; refine oc (T := fun _ => False) (bx ti31 ?_ (hl := by simp only [List.length_cons, List.length_nil, Nat.reduceAdd]; rfl))
  refine oc (T := fun _ => False) (alc ti80 ?_ (hl := by simp only [List.length_cons, List.length_nil, Nat.reduceAdd]; rfl)); refine o1 (asg ?_); refine nx ?_; refine sr ?_
  refine oc (T := fun _ => False) (op_mapmake rfl rfl rfl (by simp only [List.length_cons, List.length_nil, Nat.reduceAdd]; rfl) rfl ?_); refine o1 (bld ti80 ?_)
  refine oc (T := fun _ => False) (alc ti80 ?_ (hl := by simp only [List.length_cons, List.length_nil, Nat.reduceAdd]; rfl)); refine oc (sto ti80 ?_); refine nx ?_; refine runs_seq ?_; refine kp [8, 6, 3, 1, 2] ?_; refine sr ?_
  refine o1 (fdb ti31 ?_); refine o1 (ldb ti3 ?_); refine nx ?_; refine runs_block ?_; refine sr ?_; refine o1 (ieq ?_); refine o1 (asg ?_); refine nx ?_; refine cd (fun h3 => ?_) (fun h3 => ?_)
  · simp only [nrm, Int.reduceEq, Int.reduceNe, Int.reduceLT, Int.reduceLE] at h3
  (try simp only [nrm, Int.reduceEq, Int.reduceNe, Int.reduceLT, Int.reduceLE] at h3); refine sr ?_; refine o1 (ieq ?_); refine o1 (asg ?_); refine nx ?_; refine cdf (fun h8 => ?_) (fun h8 => ?_)
  · simp only [nrm, Int.reduceEq, Int.reduceNe, Int.reduceLT, Int.reduceLE] at h8
  (try simp only [nrm, Int.reduceEq, Int.reduceNe, Int.reduceLT, Int.reduceLE] at h8); refine kp [8, 6, 3, 1, 2] ?_; refine sr ?_; refine o1 (fdb ti31 ?_); refine o1 (ldb ti29 ?_)
  refine o1 (ixs us29 te29 ?_ (he := by exact (show (lvls [Lvl.mk ka sa aa, Lvl.mk kb sb ab])[((1 : Nat) : Int).toNat]? = _ from lvl_at rfl))); refine o1 (ldc ti31 ?_); refine o1 (mv ?_); refine o1 (mv ?_)
  refine oc (op_callo ca46 rfl rfl rfl rfl (ihb) [0, 1] (bom (bom .nil)) rfl rfl rfl rfl (fid (fir (fir .nil))) (fun s ob' hq => ?_) (fun s ob' hq => ?_))
  rotate_left
  · obtain ⟨_, _, _, hq1, _⟩ := hq; cases hq1
  obtain ⟨nb, fb, q, hq1, rfl, hsh⟩ := hq; cases hq1; refine ⟨_, _, _, _, _, rfl, rfl, rfl, rfl, rfl, ?_⟩; refine o1 (mv ?_); refine o1 (ex1 ?_); refine o1 (ex1 ?_)
  refine oc (T := fun _ => False) (alc ti80 ?_ (hl := by simp only [List.length_cons, List.length_nil, Nat.reduceAdd]; rfl)); refine oc (sto ti80 ?_); refine o1 (asg ?_); refine nx ?_; refine runs_seq ?_; refine kp [10, 9, 8, 6, 3, 1, 2] ?_
  refine sr ?_; refine o1 (mv ?_); refine o1 (sne ?_); refine nx ?_; refine cd (fun h10 => ?_) (fun h10 => ?_)
  · (try simp only [nrm, Int.reduceEq, Int.reduceNe, Int.reduceLT, Int.reduceLE] at h10)
    refine kp [10, 8, 6] ?_; refine sr ?_; refine o1 (ldb ti80 ?_); refine o1 (mv ?_); refine oc (sto ti80 ?_); refine o1 (asg ?_); refine nx ?_; refine runs_ret ?_; refine seq_ret ?_; refine inb_ret ?_; refine seq_ret ?_; refine fin_ret ?_
    refine fin_o ⟨_, _, rfl, (from_cell rfl rfl ti80 rfl rfl rfl rfl), ⟨_, _, rfl, rfl, rfl⟩⟩ [0, 1, 4] (.tup [.agg [.d (.v (.int .i64 0)), .map 2], .d (.v (.string q))]) ([.mapI z, .mapI o, .mapI (fun _ => none)]) rfl rfl rfl ?_ rfl ?_ ?_
    · repeat (first | exact boz | refine bom ?_)
    · exact .refl _
    · exact ⟨_, _, _, rfl, rfl, shape_imax_b hsh h10⟩
  (try simp only [nrm, Int.reduceEq, Int.reduceNe, Int.reduceLT, Int.reduceLE] at h10); refine runs_skip ?_; refine seq_normal ?_; refine runs_seq ?_; refine runs_seq ?_
  replace h10 : q = .empty := h10
  subst h10
  have hnb := hsh.b.n0
  have hnb1 := hsh.b.n1
  refine runs_region ?_; refine o1 (fdb ti80 ?_); refine o1 (ldb ti3 ?_); refine o1 (ieq ?_); refine nx ?_; refine cdf (fun h12 => ?_) (fun h12 => ?_)
  · (try simp only [nrm, Int.reduceEq, Int.reduceNe, Int.reduceLT, Int.reduceLE] at h12)
    refine runs_skip ?_; refine seq_normal ?_; refine kp [9, 8, 6, 3, 1, 2] ?_; refine sr ?_; refine o1 (ldb ti80 ?_)
    refine oc (ck ca56 rfl rfl (join_spec 0 nb 0 (fun _ => none) fb (b.params []) (by omega) (by omega) (by omega) (fun p m e => by have := hsh.b.f0 p m e; omega) (fun p m e => b.has_params (hsh.b.sup p m e))) [5, 4, 6] rfl (boc (bom (bom .nil))) (fir (fir (fir .nil))) ?_)
    refine nx ?_; refine sr ?_; refine o1 (fdb ti31 ?_); refine o1 (ldb ti29 ?_); refine o1 (ixs us29 te29 ?_ (he := by exact (show (lvls [Lvl.mk ka sa aa, Lvl.mk kb sb ab])[((0 : Nat) : Int).toNat]? = _ from lvl_at rfl)))
    refine o1 (ldc ti31 ?_); refine o1 (mv ?_); refine o1 (mv ?_); refine oc (op_callo ca46 rfl rfl rfl rfl (iha) [0, 1] (bom (bom .nil)) rfl rfl rfl rfl (fid (fir (fir .nil))) (fun s ob' hq => ?_) (fun s ob' hq => ?_))
    rotate_left
    · obtain ⟨_, _, _, hq1, _⟩ := hq; cases hq1
    obtain ⟨na, fa, q2, hq1, rfl, hsha⟩ := hq; cases hq1
    have hna := hsha.b.n0
    have hna1 := hsha.b.n1
    refine ⟨_, _, _, _, _, rfl, rfl, rfl, rfl, rfl, ?_⟩; refine o1 (mv ?_); refine o1 (ex1 ?_); refine o1 (ex1 ?_); refine oc (T := fun _ => False) (alc ti80 ?_ (hl := by simp only [List.length_cons, List.length_nil, Nat.reduceAdd]; rfl))
    refine oc (sto ti80 ?_); refine o1 (asg ?_); refine nx ?_; refine kp [10, 12, 8, 6] ?_; refine sr ?_; refine o1 (ldb ti80 ?_)
    refine oc (ck ca56 rfl rfl (join_spec (max 0 (nb + 0)) na 0 (joinM (fun _ => none) fb 0) fa (a.params []) (by omega) (by omega) (by omega) (fun p m e => by have := hsha.b.f0 p m e; omega) (fun p m e => a.has_params (hsha.b.sup p m e))) [5, 4, 8] rfl (boc (bom (bom .nil))) (fir (fir (fir .nil))) ?_)
    refine nx ?_; refine sr ?_; refine o1 (ldb ti80 ?_); refine o1 (mv ?_); refine oc (sto ti80 ?_); refine o1 (asg ?_); refine nx ?_; refine runs_ret ?_; refine inb_ret ?_; refine seq_ret ?_; refine fin_ret ?_
    refine fin_o ⟨_, _, rfl, (from_cell rfl rfl ti80 rfl rfl rfl rfl), ⟨_, _, rfl, rfl, rfl⟩⟩ [0, 1, 4] (.tup [.agg [.d (.v (.int .i64 (max (max 0 (nb + 0)) (na + 0)))), .map 2], .d (.v (.string q2))]) ([.mapI z, .mapI o, .mapI (joinM (joinM (fun _ => none) fb 0) fa 0)]) rfl rfl rfl ?_ rfl ?_ ?_
    · repeat (first | exact boz | refine bom ?_)
    · exact .refl _
    · exact ⟨_, _, _, rfl, rfl, shape_imax hsh h12 hsha⟩
  (try simp only [nrm, Int.reduceEq, Int.reduceNe, Int.reduceLT, Int.reduceLE] at h12); refine runs_seq ?_; refine kp [9, 8, 6] ?_; refine sr ?_; refine o1 (fdb ti80 ?_); refine o1 (ldb ti59 ?_)
  refine oc (T := fun _ => False) (op_range mt59 rfl rfl rfl rfl rfl (by simp only [List.length_cons, List.length_nil, Nat.reduceAdd]; rfl) rfl ?_); refine nx ?_; refine runs_block ?_; refine kp [64, 8, 6] ?_
  apply runs_loop_o (ι := List (ByteArray × Int)) (fun dn => []) (fun dn => [.mapI z, .mapI o, .cells [.d (.v (.int .i64 3)), .d (.v (.string .empty)), .d (.sl 3 (lvls [Lvl.mk ka sa aa, Lvl.mk kb sb ab]))] 31, .cells [.d (.v (.int .i64 0)), .d (.v (.map none))] 80, .mapI (fun _ => none), .cells [.d (.v (.int .i64 0)), .map 4] 80, .mapI fb, .cells [.d (.v (.int .i64 nb)), .map 6] 80, .itI 6 fb dn none]) [64, 8, 6] (fun dn => dn = []) (fun dn => 0) ([]) ([0, 1, 2, 3, 4, 5, 6, 7, 8])
  case hk => exact rfl
  case hI =>
    rfl
  case hm =>
    refine mei ?_ (sly (sly (sly slz))) (by repeat (first | exact trivial | refine And.intro rfl ?_))
    repeat (first | exact boz | refine boc ?_ | refine bom ?_ | refine boi ?_)
  case h =>
    rintro dn hinv
    try dsimp only at hinv
    refine kp [64, 8, 6] ?_; refine sr ?_; refine oc (op_next rfl rfl rfl rfl rfl rfl (fun hall => ?_) (fun ks kv hkv hnew => ⟨_, rfl, ?_⟩))
    · refine o1 (ex2 ?_)
      refine nx ?_; refine runs_seq ?_; refine cd (fun h14 => ?_) (fun h14 => ?_)
      · simp only [nrm, Int.reduceEq, Int.reduceNe, Int.reduceLT, Int.reduceLE] at h14
      (try simp only [nrm, Int.reduceEq, Int.reduceNe, Int.reduceLT, Int.reduceLE] at h14); refine runs_exit ?_; refine seq_exit ?_; refine seq_exit ?_; refine inb_exit ?_; refine seq_normal ?_; refine sr ?_; refine o1 (ldb ti80 ?_)
      refine oc (sto ti80 ?_); refine o1 (asg ?_); refine nx ?_; refine runs_ret ?_; refine seq_ret ?_; refine inb_ret ?_; refine seq_ret ?_; refine fin_ret ?_
      refine fin_o ⟨_, _, rfl, (from_cell rfl rfl ti80 rfl rfl rfl rfl), ⟨_, _, rfl, rfl, rfl⟩⟩ [0, 1, 4] (.tup [.agg [.d (.v (.int .i64 0)), .map 2], .d (.v (.string .empty))]) ([.mapI z, .mapI o, .mapI (fun _ => none)]) rfl rfl rfl ?_ rfl ?_ ?_
      · repeat (first | exact boz | refine bom ?_)
      · exact .refl _
      · subst h12 hinv
        refine ⟨_, _, _, rfl, rfl, shape_imax_zero hsh fun p => ?_⟩; cases hp : fb p with
        | none => rfl
        | some m => exact absurd (hall p m hp) (by simp)
    refine o1 (ex2 ?_); refine nx ?_; refine runs_seq ?_; refine cdf (fun h14 => ?_) (fun h14 => ?_)
    · simp only [nrm, Int.reduceEq, Int.reduceNe, Int.reduceLT, Int.reduceLE] at h14
    (try simp only [nrm, Int.reduceEq, Int.reduceNe, Int.reduceLT, Int.reduceLE] at h14); refine runs_skip ?_; refine seq_normal ?_; refine runs_block ?_; refine sr ?_; refine oc (T := fun _ => False) (op_entry rfl rfl rfl rfl rfl ?_)
    refine o1 (ex2 ?_); refine o1 (asg ?_); refine nx ?_; refine kp [11, 8, 6] ?_; refine sr ?_; refine o1 (ldb ti80 ?_); refine o1 (mv ?_); refine oc (sto ti80 ?_); refine o1 (asg ?_); refine nx ?_; refine runs_ret ?_; refine inb_ret ?_
    refine seq_ret ?_; refine inb_ret ?_; refine seq_ret ?_; refine seq_ret ?_; refine inb_ret ?_; refine seq_ret ?_; refine fin_ret ?_
    refine fin_o ⟨_, _, rfl, (from_cell rfl rfl ti80 rfl rfl rfl rfl), ⟨_, _, rfl, rfl, rfl⟩⟩ [0, 1, 4] (.tup [.agg [.d (.v (.int .i64 0)), .map 2], .d (.v (.string ks))]) ([.mapI z, .mapI o, .mapI (fun _ => none)]) rfl rfl rfl ?_ rfl ?_ ?_
    · repeat (first | exact boz | refine bom ?_)
    · exact .refl _
    · subst h12
      exact ⟨_, _, _, rfl, rfl, shape_imax_at ho hsh hkv (hnm ks (.inr (hsh.b.sup ks kv hkv)))⟩

theorem shape_spec (z o : MapF) (hz : Ones z) (ho : Ones o) (l : Lev) : nmL l → l.size ≤ 1099511627776 →
    Tri Tryd.prog gl 46 [.mapI z, .mapI o] [.d l.toLvl.d, .map 0, .map 1] (ShQ z o l) := by
  induction l with
  | param s => exact fun _ _ => shape_param_spec z o hz ho s
  | imax a b iha ihb =>
    intro hn hs
    simp only [Lev.size] at hs
    exact shape_imax_spec z o ho a b hn (by omega) (by omega) (iha (fun p h => hn p (.inl h)) (by omega)) (ihb (fun p h => hn p (.inr h)) (by omega))
  | zero => exact fun _ _ => shape_loop_spec z o .zero 0 [] rfl (by decide) (by decide) (fun a h => by cases h) (by simp) (fun a h => by cases h) (fun n f h => by obtain ⟨rfl, rfl⟩ := h; exact shape_zero) (fun i n f q _ _ h => by obtain ⟨a, h, _⟩ := h; cases h)
  | succ a iha =>
    intro hn hs
    simp only [Lev.size] at hs
    have iha' := iha hn (by omega)
    refine shape_loop_spec z o (.succ a) 1 [a] rfl (by decide) (by decide) (fun x h => by simp at h; subst h; omega) (by simp) (fun x h => by simp at h; subst h; exact iha') (fun n f h => shape_succ h) (fun i n f q h hq h2 h3 h4 => shape_early h (by decide) (fun x hx => ?_) hq ⟨?_, h3, h4⟩)
    · have := List.mem_of_mem_take (List.mem_reverse.1 hx)
      simp at this; subst this
      exact ⟨by simp only [Lev.size, if_true]; omega, fun p h => h⟩
    · obtain ⟨x, hx, h5⟩ := h2
      simp at hx; subst hx; exact h5
  | max a b iha ihb =>
    intro hn hs
    simp only [Lev.size] at hs
    have iha' := iha (fun p h => hn p (.inl h)) (by omega)
    have ihb' := ihb (fun p h => hn p (.inr h)) (by omega)
    refine shape_loop_spec z o (.max a b) 2 [a, b] rfl (by decide) (by decide) (fun x h => by simp at h; rcases h with h | h <;> (subst h; omega)) (by simp) (fun x h => by
        simp at h
        rcases h with h | h
        · subst h; exact iha'
        · subst h; exact ihb') (fun n f h => shape_max h) (fun i n f q h hq h2 h3 h4 => shape_early h (by decide) (fun x hx => ?_) hq ⟨?_, h3, h4⟩)
    · have := List.mem_of_mem_take (List.mem_reverse.1 hx)
      simp at this
      rcases this with h | h
      · subst h; exact ⟨by simp only [Lev.size]; simp; omega, fun p h => .inl h⟩
      · subst h; exact ⟨by simp only [Lev.size]; simp; omega, fun p h => .inr h⟩
    · obtain ⟨x, hx, h5⟩ := h2
      simp at hx
      rcases hx with h | h
      · subst h; exact .inl h5
      · subst h; exact .inr h5
end Go.Proofs.YtafhnnbbfgoacaaDoor
