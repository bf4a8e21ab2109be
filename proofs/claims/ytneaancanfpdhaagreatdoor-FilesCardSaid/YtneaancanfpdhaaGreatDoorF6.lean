/-
  What is proved here: Files: whatever script it is called on, it answers true, and the script reads as it did; on condition that the listed package variables start as the text lays them, which the card ties.
-/
import Derived.Test.YtneaancanfpdhaaGreatDoorF5
import Derived.LaidLaws
import Derived.Test.YtneaancanfpdhaaGreatDoorTie
import Derived.Test.YtneaancanfpdhaaGreatDoorCards
import Derived.SevenTiedAt
import Derived.LaidHandle
set_option linter.unusedSimpArgs false
set_option linter.unusedVariables false
namespace Go.Proofs.YtneaancanfpdhaaGreatDoor
open Go Go.Vd Go.RowKit
attribute [local irreducible] Runs OpsR OpR FloatR AnyR AnyO
variable {g gl : Nat → List D}

/-- a token that begins with a digit -/
theorem tok_dig {s : ByteArray} {p : Nat} (hp : p ≤ s.size) (h0 : (tokR s p).1 ≠ .empty) (h : 48 ≤ byteAt (tokR s p).1 0 ∧ byteAt (tokR s p).1 0 ≤ 57) :
    (tokR s p).1.size ≤ 5 ∧ allDig (tokR s p).1 ∧ (1 < (tokR s p).1.size → ¬ byteAt (tokR s p).1 0 = 48) := by
  have hle := spanB_le wsB s p hp
  revert h0 h
  unfold tokR
  dsimp only
  split
  · intro h0; exact absurd rfl h0
  · rename_i hn
    have hlt : spanB wsB s p < s.size := by omega
    split
    · rename_i hc
      intro _ h
      rw [byteAt_extract s (by omega) (by omega), Nat.add_zero] at h
      omega
    · split
      · rename_i hc hnm
        have h3 := spanB_le (nameB · false) s (spanB wsB s p + 1) (by omega)
        split
        · intro h0; exact absurd rfl h0
        · intro _ h
          rw [byteAt_extract s (by omega) (by omega), Nat.add_zero] at h
          exfalso
          revert hnm
          unfold nameB
          simp
          omega
      · split
        · have h3 := spanB_le digB s (spanB wsB s p + 1) (by omega)
          by_cases h35 : byteAt s (spanB wsB s p) = 35
          · simp only [if_pos h35]
            split
            · intro h0; exact absurd rfl h0
            · intro _ h
              rw [byteAt_extract s (by omega) (by omega), Nat.add_zero] at h
              omega
          · simp only [if_neg h35]
            split
            · intro h0; exact absurd rfl h0
            · rename_i hd
              intro _ h
              rw [byteAt_extract s (by omega) (by omega), Nat.add_zero] at h ⊢
              simp only [ByteArray.size_extract]
              refine ⟨by omega, fun i hi => ?_, fun h1 h48 => hd (.inr (.inr ⟨by omega, h48⟩))⟩
              simp only [ByteArray.size_extract] at hi
              rw [byteAt_extract s (by omega) (by omega)]
              rcases Nat.eq_zero_or_pos i with rfl | hi0
              · exact h
              · have := spanB_all (f := digB) (s := s) (p := spanB wsB s p + 1) (j := spanB wsB s p + i) (by omega) (by omega)
                simpa [digB] using this
        · intro h0; exact absurd rfl h0

theorem declR_none {s : ByteArray} {r r1 : RS} (h1 : takeR s ⟨#[40]⟩ r = r1) (hk : kindF (tokR s r1.p).1 = 0) : declR s r = (.mk 0 .empty [] zeroT zeroT 0 [], r1.fail (tokR s r1.p).2.1) := by
  unfold declR declHead
  dsimp only
  rw [h1, if_pos hk]; rfl
theorem declHead_eq {s : ByteArray} {r r1 r5 : RS} {k : Nat} {nm : ByteArray} {ps : List ByteArray} (h1 : takeR s ⟨#[40]⟩ r = r1) (hk : kindF (tokR s r1.p).1 = k) (h0 : ¬ k = 0) (h3 : (nameR s (nextR s r1).2).1 = nm)
    (h5 : namesR (s.size + 2) s (takeR s ⟨#[40]⟩ (nameR s (nextR s r1).2).2) = (ps, r5)) : declHead s r = (k, nm, ps, takeR s ⟨#[41]⟩ r5) := by
  unfold declHead
  dsimp only
  rw [h1, hk, if_neg h0, h3, h5]
theorem declR_bad {s : ByteArray} {r r6 : RS} {nm : ByteArray} {ps : List ByteArray} (h : declHead s r = (3, nm, ps, r6)) (hb : ¬ arityB (tokR s r6.p)) : declR s r = (.mk 3 nm ps zeroT zeroT 0 [], r6.fail (tokR s r6.p).2.1) := by
  unfold declR
  dsimp only
  rw [h, if_neg (by simp), if_pos ⟨rfl, hb⟩]
theorem declR_good {s : ByteArray} {r r6 r7 r8 r9 r10 : RS} {k : Nat} {nm : ByteArray} {ps : List ByteArray} {a : Int} {t v : Trm} {cs : List (ByteArray × Trm)} (h : declHead s r = (k, nm, ps, r6)) (h0 : ¬ k = 0) (hb : ¬ (k = 3 ∧ ¬ arityB (tokR s r6.p))) (ha : arityR s k r6 = (a, r7))
    (ht : termR (s.size + 1) s r7 = (t, r8)) (hv : valR s k r8 = (v, r9)) (hc : consR s k r9 = (cs, r10)) : declR s r = (.mk k nm ps t v a cs, takeR s ⟨#[41]⟩ r10) := by
  unfold declR
  dsimp only
  rw [h, if_neg h0, if_neg hb]
  simp only [declTail, ha, ht, hv, hc]
def consM (k m : Nat) (s : ByteArray) (r : RS) : List (ByteArray × Trm) × RS := if k = 3 then ctorsR m s r else ([], r)
theorem cons_stop {k m : Nat} {s : ByteArray} {r : RS} (h : ¬ (k = 3 ∧ r.f = none ∧ peekR s r = ⟨#[40]⟩)) : consM k m s r = ([], r) := by
  unfold consM
  split
  · rename_i hk; exact ctors_stop fun h2 => h ⟨hk, h2⟩
  · rfl
theorem cons_step {s : ByteArray} {k : Nat} {r0 r' : RS} {m : Nat} {acc : List (ByteArray × Trm)} {x : ByteArray × Trm} (hinv : r'.p ≤ s.size ∧ acc.length + m = s.size + 2 ∧ (r'.f = none → s.size - r'.p < m) ∧ consM k (s.size + 2) s r0 = (acc ++ (consM k m s r').1, (consM k m s r').2))
    (hk : k = 3) (h : r'.f = none ∧ peekR s r' = ⟨#[40]⟩) (hX : (ctorR s r').1 = x) :
    (ctorR s r').2.p ≤ s.size ∧ (acc ++ [x]).length + (m - 1) = s.size + 2 ∧ ((ctorR s r').2.f = none → s.size - (ctorR s r').2.p < m - 1) ∧
      consM k (s.size + 2) s r0 = (acc ++ [x] ++ (consM k (m - 1) s (ctorR s r').2).1, (consM k (m - 1) s (ctorR s r').2).2) := by
  subst hk
  unfold consM at hinv ⊢
  simp only [if_true] at hinv ⊢
  exact ctors_step hinv h hX
theorem kindF_cases {w : ByteArray} (h1 : ¬ w = ⟨#[97, 120, 105, 111, 109]⟩) (h2 : ¬ w = ⟨#[100, 101, 102]⟩) (h3 : ¬ w = ⟨#[105, 110, 100, 117, 99, 116, 105, 118, 101]⟩) : kindF w = 0 := by
  unfold kindF; rw [if_neg h1, if_neg h2, if_neg h3]
theorem kindF_3 : kindF ⟨#[105, 110, 100, 117, 99, 116, 105, 118, 101]⟩ = 3 := by decide

theorem decl_spec (s : ByteArray) (hs : s.size ≤ 1099511627776) (r : RS) (hp : r.p ≤ s.size) :
    Tri Tryz.prog (glT g) 110 [rdO s r] [.blk 0 0] fun out ob' => out = .ret (.d (declR s r).1.d) ∧ ob' = [rdO s (declR s r).2] := by
  refine triS_of_runs Tryz.func110 rfl Tryz.ntmps110 (rs := [.cell 2 67]) rfl rfl rfl 1 rfl ?_
  refine sr ?_; refine oc (T := fun _ => False) (alc ti67 ?_ (hl := by simp only [List.length_cons, List.length_nil, Nat.reduceAdd]; rfl)); refine nx ?_; refine sr ?_; refine o1 (mv ?_)
  refine oc (ck ca88 rfl rfl (take_spec s ⟨#[40]⟩ r hs hp) [0] rfl (boc .nil) (fir (fir .nil)) ?_); refine nx ?_; refine runs_seq ?_
  have e1 := (takeR_le (s := s) (w := ⟨#[40]⟩) hp).2
  generalize hr1 : takeR s ⟨#[40]⟩ r = r1 at e1 ⊢
  refine runs_region ?_; refine o1 (mv ?_); refine oc (ck ca82 rfl rfl (token_spec s r1.p (fcode r1.f) (fat r1.f) hs e1) [0] rfl (boc .nil) (fir .nil) ?_); refine o1 (mv ?_); refine o1 (ex2 ?_); refine o1 (ex2 ?_); refine o1 (ex2 ?_)
  refine o1 (asg ?_); refine o1 (asg ?_); refine o1 (asg ?_); refine nx ?_; refine kp [4, 3, 2, 0] ?_; refine sr ?_; refine o1 (bld ti67 ?_)
  refine oc (T := fun _ => False) (alc ti67 ?_ (hl := by simp only [List.length_cons, List.length_nil, Nat.reduceAdd]; rfl)); refine oc (sto ti67 ?_); refine nx ?_; refine runs_seq ?_; refine sr ?_; refine o1 (mv ?_); refine nx ?_
  refine kp [20, 6, 4, 2, 0] ?_
  apply runs_cut_o (ι := Nat) (fun k => []) (fun k => [rdO s r1, .cells [.d (.v (.int .i64 0)), .d (.v (.string .empty)), .d (.v (.slice none 0 0)), .d (.v (.int .i64 0)), .d (.v (.int .i64 0)), .d (.v (.string .empty)), .d (.v (.slice none 0 0)), .d (.v (.slice none 0 0)), .d (.v (.int .i64 0)), .d (.v (.int .i64 0)), .d (.v (.string .empty)), .d (.v (.slice none 0 0)), .d (.v (.slice none 0 0)), .d (.v (.int .i64 0)), .d (.v (.slice none 0 0))] 67, .cells [.d (.v (.int .i64 k)), .d (.v (.string .empty)), .d (.v (.slice none 0 0)), .d (.v (.int .i64 0)), .d (.v (.int .i64 0)), .d (.v (.string .empty)), .d (.v (.slice none 0 0)), .d (.v (.slice none 0 0)), .d (.v (.int .i64 0)), .d (.v (.int .i64 0)), .d (.v (.string .empty)), .d (.v (.slice none 0 0)), .d (.v (.slice none 0 0)), .d (.v (.int .i64 0)), .d (.v (.slice none 0 0))] 67]) [6, 2, 0] (fun k => kindF (tokR s r1.p).1 = k ∧ ¬ k = 0)
  case hk => exact rfl
  case h1 =>
    refine runs_block ?_; refine sr ?_; refine o1 (seq1 ?_); refine o1 (asg ?_); refine nx ?_; refine cd (fun h7 => ?_) (fun h7 => ?_)
    · (try simp only [nrm, Int.reduceEq, Int.reduceNe, Int.reduceLT, Int.reduceLE] at h7)
      refine kp [6, 2, 0] ?_; refine runs_region ?_; refine o1 (fdb ti67 ?_); refine oc (sto ti3 ?_); refine ops_nil ?_; refine inb_normal ?_; refine seq_back ?_; refine back_c (1) rfl ?_ ([0, 1, 2]) ?_
      · rw [h7]; decide
      · refine mo ?_ (sly (sly (sly slz)))
        repeat (first | exact boz | refine boc ?_)
    (try simp only [nrm, Int.reduceEq, Int.reduceNe, Int.reduceLT, Int.reduceLE] at h7); refine sr ?_; refine o1 (seq1 ?_); refine o1 (asg ?_); refine nx ?_; refine cd (fun h9 => ?_) (fun h9 => ?_)
    · (try simp only [nrm, Int.reduceEq, Int.reduceNe, Int.reduceLT, Int.reduceLE] at h9)
      refine kp [6, 2, 0] ?_; refine runs_region ?_; refine o1 (fdb ti67 ?_); refine oc (sto ti3 ?_); refine ops_nil ?_; refine inb_normal ?_; refine seq_back ?_; refine back_c (2) rfl ?_ ([0, 1, 2]) ?_
      · rw [h9]; decide
      · refine mo ?_ (sly (sly (sly slz)))
        repeat (first | exact boz | refine boc ?_)
    (try simp only [nrm, Int.reduceEq, Int.reduceNe, Int.reduceLT, Int.reduceLE] at h9); refine kp [20, 6, 4, 2, 0] ?_; refine sr ?_; refine o1 (seq1 ?_); refine o1 (asg ?_); refine nx ?_; refine cd (fun h11 => ?_) (fun h11 => ?_)
    · (try simp only [nrm, Int.reduceEq, Int.reduceNe, Int.reduceLT, Int.reduceLE] at h11)
      refine kp [6, 2, 0] ?_; refine runs_region ?_; refine o1 (fdb ti67 ?_); refine oc (sto ti3 ?_); refine ops_nil ?_; refine inb_normal ?_; refine seq_back ?_; refine back_c (3) rfl ?_ ([0, 1, 2]) ?_
      · rw [h11]; decide
      · refine mo ?_ (sly (sly (sly slz)))
        repeat (first | exact boz | refine boc ?_)
    (try simp only [nrm, Int.reduceEq, Int.reduceNe, Int.reduceLT, Int.reduceLE] at h11); refine sr ?_; refine o1 (mv ?_); refine o1 (mv ?_); refine oc (ck ca83 rfl rfl (fail_spec s (tokR s r1.p).2.1 r1) [0] rfl (boc .nil) (fir (fir .nil)) ?_)
    refine nx ?_; refine kp [6, 2] ?_; refine sr ?_; refine o1 (ldb ti67 ?_); refine oc (sto ti67 ?_); refine nx ?_; refine runs_ret ?_; refine inb_ret ?_; refine seq_ret ?_; refine fin_ret ?_
    refine fin_odl ⟨_, _, rfl, (from_cell rfl rfl ti67 rfl rfl rfl rfl), rfl⟩ rfl ((Dec.mk 0 .empty [] zeroT zeroT 0 []).d) (by repeat (first | exact .refl _ | exact .nil | refine .agg ?_ | refine .cons ?_ ?_)) ([0]) ([rdO s (r1.fail (tokR s r1.p).2.1)]) rfl rfl rfl ?_ ?_
    · repeat (first | exact boz | refine boc ?_)
    · rw [declR_none hr1 (kindF_cases h7 h9 h11)]; exact ⟨rfl, rfl⟩
  case h2 =>
    rintro k hcut
    try dsimp only at hcut
    refine kp [6, 2, 0] ?_; refine runs_seq ?_; obtain ⟨hk, hk0⟩ := hcut
    have e2 := (nextR_le (s := s) (r := r1) e1).2
    have e3 := (nameR_le (s := s) (r := (nextR s r1).2) e2).2
    have e4 := (takeR_le (s := s) (w := ⟨#[40]⟩) (r := (nameR s (nextR s r1).2).2) e3).2
    refine runs_region ?_; refine o1 (mv ?_); refine oc (ck ca84 rfl rfl (next_spec s r1 hs e1) [0] rfl (boc .nil) (fir .nil) ?_); refine nx ?_; refine sr ?_; refine o1 (mv ?_)
    refine oc (ck ca86 rfl rfl (name_spec s (nextR s r1).2 hs e2) [0] rfl (boc .nil) (fir .nil) ?_); refine o1 (fdb ti67 ?_); refine oc (sto ti9 ?_); refine nx ?_; refine kp [6, 2, 0] ?_; refine sr ?_; refine o1 (mv ?_)
    refine oc (ck ca88 rfl rfl (take_spec s ⟨#[40]⟩ (nameR s (nextR s r1).2).2 hs e3) [0] rfl (boc .nil) (fir (fir .nil)) ?_); refine nx ?_; refine runs_seq ?_; refine runs_block ?_; refine kp [6, 2, 0] ?_; refine runs_nilrow 9 1 rfl ?_
    apply runs_loop_o (ι := Nat × List ByteArray × RS) (fun ⟨m, acc, r'⟩ => []) (fun ⟨m, acc, r'⟩ => [rdO s r', .cells [.d (.v (.int .i64 0)), .d (.v (.string .empty)), .d (.v (.slice none 0 0)), .d (.v (.int .i64 0)), .d (.v (.int .i64 0)), .d (.v (.string .empty)), .d (.v (.slice none 0 0)), .d (.v (.slice none 0 0)), .d (.v (.int .i64 0)), .d (.v (.int .i64 0)), .d (.v (.string .empty)), .d (.v (.slice none 0 0)), .d (.v (.slice none 0 0)), .d (.v (.int .i64 0)), .d (.v (.slice none 0 0))] 67, .cells [.d (.v (.int .i64 k)), .d (.v (.string (nameR s (nextR s r1).2).1)), .own 3 1 (strs acc), .d (.v (.int .i64 0)), .d (.v (.int .i64 0)), .d (.v (.string .empty)), .d (.v (.slice none 0 0)), .d (.v (.slice none 0 0)), .d (.v (.int .i64 0)), .d (.v (.int .i64 0)), .d (.v (.string .empty)), .d (.v (.slice none 0 0)), .d (.v (.slice none 0 0)), .d (.v (.int .i64 0)), .d (.v (.slice none 0 0))] 67, .row 9 1]) [6, 2, 0] (fun ⟨m, acc, r'⟩ => r'.p ≤ s.size ∧ acc.length + m = s.size + 2 ∧ (r'.f = none → s.size - r'.p < m) ∧ namesR (s.size + 2) s (takeR s ⟨#[40]⟩ (nameR s (nextR s r1).2).2) = (acc ++ (namesR m s r').1, (namesR m s r').2)) (fun ⟨m, acc, r'⟩ => m) ((s.size + 2, [], takeR s ⟨#[40]⟩ (nameR s (nextR s r1).2).2)) ([0, 1, 2, 3])
    case hk => exact rfl
    case hI =>
      exact ⟨e4, by simp, fun _ => by omega, rfl⟩
    case hm =>
      refine mo ?_ (sly (sly (sly slz)))
      repeat (first | exact boz | exact fiz | refine boc ?_ | refine bon ?_ | refine boe ?_ ?_ | refine fir ?_ | refine .cons (.nil rfl) ?_)
    case h =>
      rintro ⟨m, acc, r'⟩ hinv
      try dsimp only at hinv
      refine kp [6, 2, 0] ?_; refine runs_seq ?_; refine sr ?_; refine o1 (mv ?_); refine o1 (ncb ?_); refine o1 (fdb ti71 ?_); refine o1 (fdb ti33 ?_); refine o1 (ldb ti3 ?_); refine o1 (ieq ?_); refine o1 (mv ?_)
      apply ops_and (yt := 50) (d := 47) 3 rfl rfl rfl (.none rfl) rfl rfl
      case h1 =>
        intro hb13 hK
        have hc := hb13; (try simp only [nrm, Int.reduceEq, Int.reduceNe, Int.reduceLT, Int.reduceLE] at hc)
        refine gye ?_ (hbw := by exact hb13); refine o1 (mv ?_); refine gye ?_ (hbw := by exact hb13); refine oc (ck ca87 rfl rfl (peek_spec s r' hs hinv.1) [0] rfl (boc .nil) (fir .nil) ?_); refine gye ?_ (hbw := by exact hb13); refine o1 (sne ?_)
        exact hK [_, _, _] rfl rfl
      case h2 =>
        intro hb13 hK; refine gno ?_ (hbw := by exact hb13); refine gno ?_ (hbw := by exact hb13); refine gno ?_ (hbw := by exact hb13); exact hK [_, _, _] rfl
      refine nx ?_; refine cd (fun h16 => ?_) (fun h16 => ?_)
      · (try simp only [nrm, Int.reduceEq, Int.reduceNe, Int.reduceLT, Int.reduceLE] at h16)
        refine runs_skip ?_; refine seq_normal ?_; refine runs_block ?_; refine kp [6, 2, 0] ?_
        have hm1 := hinv.2.2.1 (fcode_none.1 h16.1)
        have hln := strs_len acc
        refine a_start ?_ (hm := by exact mixed); refine A1 0 rfl (fdb ti67 ⟨_, rfl, ?_⟩); refine A1 1 rfl (ldb ti42 ⟨_, rfl, ?_⟩); refine A1 2 rfl (mv ⟨_, rfl, ?_⟩)
        refine A2 3 rfl (ck ca86 rfl rfl (name_spec s r' hs hinv.1) [0] rfl (boc .nil) (fir .nil) ?_)
        refine A2 (T := fun _ => False) 4 rfl (op_lit sl42 [.tmp 55] ti9 rfl rfl rfl rfl rfl rfl rfl (by decide) (by decide) (by decide) (by simp only [List.length_cons, List.length_nil, Nat.reduceAdd]; rfl) rfl ?_)
        refine A2 5 rfl (op_append sl42 rfl rfl rfl rfl rfl rfl rfl (.inl rfl) (by decide) (by simp) (by first | decide | (simp only [maxLen, List.length_cons, List.length_nil, List.length_append, List.length_map]; omega) | omega) rfl rfl rfl ?_)
        refine A1 6 rfl (fdb ti67 ⟨_, rfl, ?_⟩); refine A2 7 rfl (sto ti42 ?_); refine a_end ?_; refine inb_normal ?_; refine seq_back ?_
        rw [strs_app]
        refine back_c ((m - 1, acc ++ [(nameR s r').1], (nameR s r').2)) rfl ?_ ([0, 1, 2, 3]) ?_
        · exact ⟨names_step hinv ⟨fcode_none.1 h16.1, h16.2⟩ rfl, show m - 1 < m by omega⟩
        · refine mo ?_ (sly (sly (sly slz)))
          repeat (first | exact boz | refine boc ?_ | refine bor ?_)
      (try simp only [nrm, Int.reduceEq, Int.reduceNe, Int.reduceLT, Int.reduceLE] at h16); refine runs_exit ?_; refine seq_exit ?_; refine seq_exit ?_; refine inb_exit ?_; refine seq_normal ?_; refine runs_seq ?_; refine kp [6, 2, 0] ?_
      have e5 : namesR (s.size + 2) s (takeR s ⟨#[40]⟩ (nameR s (nextR s r1).2).2) = (acc, r') := (by rw [hinv.2.2.2, names_stop (by rintro ⟨ha, hb⟩; rcases h16 with h | h; exact h (fcode_none.2 ha); exact hb h), List.append_nil])
      have e6 := declHead_eq hr1 hk hk0 rfl e5
      have e7 := (takeR_le (s := s) (w := ⟨#[41]⟩) (r := r') hinv.1).2
      refine runs_region ?_; refine o1 (mv ?_); refine oc (ck ca88 rfl rfl (take_spec s ⟨#[41]⟩ r' hs hinv.1) [0] rfl (boc .nil) (fir (fir .nil)) ?_); refine nx ?_; refine runs_seq ?_; refine runs_seq ?_
      generalize hr6 : takeR s ⟨#[41]⟩ r' = r6 at e6 e7 ⊢
      generalize hnm : (nameR s (nextR s r1).2).1 = nm at e6 ⊢
      refine runs_region ?_; refine o1 (fdb ti67 ?_); refine o1 (ldb ti3 ?_); refine o1 (ieq ?_); refine nx ?_; refine kp [63, 6, 2, 0] ?_
      apply runs_cut_o (ι := Int × RS) (fun ⟨a, r7⟩ => []) (fun ⟨a, r7⟩ => [rdO s r7, .cells [.d (.v (.int .i64 0)), .d (.v (.string .empty)), .d (.v (.slice none 0 0)), .d (.v (.int .i64 0)), .d (.v (.int .i64 0)), .d (.v (.string .empty)), .d (.v (.slice none 0 0)), .d (.v (.slice none 0 0)), .d (.v (.int .i64 0)), .d (.v (.int .i64 0)), .d (.v (.string .empty)), .d (.v (.slice none 0 0)), .d (.v (.slice none 0 0)), .d (.v (.int .i64 0)), .d (.v (.slice none 0 0))] 67, .cells [.d (.v (.int .i64 k)), .d (.v (.string nm)), .own 3 1 (strs acc), .d (.v (.int .i64 0)), .d (.v (.int .i64 0)), .d (.v (.string .empty)), .d (.v (.slice none 0 0)), .d (.v (.slice none 0 0)), .d (.v (.int .i64 0)), .d (.v (.int .i64 0)), .d (.v (.string .empty)), .d (.v (.slice none 0 0)), .d (.v (.slice none 0 0)), .d (.v (.int .i64 a)), .d (.v (.slice none 0 0))] 67, .row 9 1]) [6, 2, 0] (fun ⟨a, r7⟩ => arityR s k r6 = (a, r7) ∧ ¬ (k = 3 ∧ ¬ arityB (tokR s r6.p)))
      case hk => exact rfl
      case h1 =>
        refine cdf (fun h19 => ?_) (fun h19 => ?_)
        · (try simp only [nrm, Int.reduceEq, Int.reduceNe, Int.reduceLT, Int.reduceLE] at h19)
          refine runs_skip ?_; refine seq_back ?_; refine back_c ((0, r6)) rfl ?_ ([0, 1, 2, 3]) ?_
          · exact ⟨by unfold arityR; rw [if_neg (by omega)], fun h => by omega⟩
          · refine mo ?_ (sly (sly (sly slz)))
            repeat (first | exact boz | refine boc ?_ | refine bor ?_)
        (try simp only [nrm, Int.reduceEq, Int.reduceNe, Int.reduceLT, Int.reduceLE] at h19); refine sr ?_; refine o1 (mv ?_); refine oc (ck ca82 rfl rfl (token_spec s r6.p (fcode r6.f) (fat r6.f) hs e7) [0] rfl (boc .nil) (fir .nil) ?_)
        refine o1 (mv ?_); refine o1 (ex2 ?_); refine o1 (ex2 ?_); refine o1 (ex2 ?_); refine o1 (asg ?_); refine o1 (asg ?_); refine o1 (asg ?_); refine nx ?_; refine runs_seq ?_; refine kp [9, 8, 7, 6, 2, 0] ?_; refine sr ?_; refine o1 (mv ?_)
        refine o1 (f_not ?_); refine o1 (mv ?_)
        apply ops_or (yt := 74) (d := 72) 2 rfl rfl rfl (.none rfl) rfl rfl
        case h1 =>
          intro hb4 hK
          have hc := hb4; (try simp only [nrm, Int.reduceEq, Int.reduceNe, Int.reduceLT, Int.reduceLE] at hc)
          refine gye ?_ (hbw := by exact hb4); refine o1 (mv ?_); refine gye ?_ (hbw := by exact hb4); refine o1 (seq1 ?_); exact hK [_, _] rfl rfl
        case h2 =>
          intro hb4 hK; refine gno ?_ (hbw := by exact hb4); refine gno ?_ (hbw := by exact hb4); exact hK [_, _] rfl
        refine o1 (mv ?_)
        apply ops_or (yt := 79) (d := 76) 3 rfl rfl rfl (.none rfl) rfl rfl
        case h1 =>
          intro hb12 hK
          have hc := hb12; (try simp only [nrm, Int.reduceEq, Int.reduceNe, Int.reduceLT, Int.reduceLE] at hc)
          refine gye ?_ (hbw := by exact hb12); refine o1 (mv ?_); refine gye ?_ (hbw := by exact hb12); refine o1 (byt ut9 ?_ (h01 := by have h1 := size_pos hc.2; omega)); refine gye ?_ (hbw := by exact hb12); refine o1 (ilt ?_)
          exact hK [_, _, _] rfl rfl
        case h2 =>
          intro hb12 hK; refine gno ?_ (hbw := by exact hb12); refine gno ?_ (hbw := by exact hb12); refine gno ?_ (hbw := by exact hb12); exact hK [_, _, _] rfl
        refine o1 (mv ?_)
        apply ops_or (yt := 84) (d := 81) 3 rfl rfl rfl (.none rfl) rfl rfl
        case h1 =>
          intro hb22 hK
          have hc := hb22; (try simp only [nrm, Int.reduceEq, Int.reduceNe, Int.reduceLT, Int.reduceLE] at hc)
          refine gye ?_ (hbw := by exact hb22); refine o1 (mv ?_); refine gye ?_ (hbw := by exact hb22); refine o1 (byt ut9 ?_ (h01 := by have h1 := size_pos hc.1.2; omega)); refine gye ?_ (hbw := by exact hb22); refine o1 (igt ?_)
          exact hK [_, _, _] rfl rfl
        case h2 =>
          intro hb22 hK; refine gno ?_ (hbw := by exact hb22); refine gno ?_ (hbw := by exact hb22); refine gno ?_ (hbw := by exact hb22); exact hK [_, _, _] rfl
        refine o1 (mv ?_)
        apply ops_or (yt := 89) (d := 86) 3 rfl rfl rfl (.none rfl) rfl rfl
        case h1 =>
          intro hb32 hK
          have hc := hb32; (try simp only [nrm, Int.reduceEq, Int.reduceNe, Int.reduceLT, Int.reduceLE] at hc)
          refine gye ?_ (hbw := by exact hb32); refine o1 (mv ?_); refine gye ?_ (hbw := by exact hb32); refine o1 (le3 ut9 ?_); refine gye ?_ (hbw := by exact hb32); refine o1 (igt ?_); exact hK [_, _, _] rfl rfl
        case h2 =>
          intro hb32 hK; refine gno ?_ (hbw := by exact hb32); refine gno ?_ (hbw := by exact hb32); refine gno ?_ (hbw := by exact hb32); exact hK [_, _, _] rfl
        refine nx ?_; refine cdf (fun h21 => ?_) (fun h21 => ?_)
        · (try simp only [nrm, Int.reduceEq, Int.reduceNe, Int.reduceLT, Int.reduceLE] at h21)
          refine runs_skip ?_; refine seq_normal ?_; refine runs_seq ?_; refine kp [7, 6, 2, 0] ?_
          have hz : byteAt (tokR s r6.p).1 (Int.toNat 0) = byteAt (tokR s r6.p).1 0 := rfl; obtain ⟨⟨⟨⟨_, g1⟩, g2⟩, g3⟩, g4⟩ := h21; have hab : arityB (tokR s r6.p) := ⟨g1, (by omega), (by omega), (by omega)⟩
          have e8 := (nextR_le (s := s) (r := r6) e7).2
          have e9 := tok_dig (s := s) e7 hab.1 ⟨hab.2.1, hab.2.2.1⟩
          refine runs_region ?_; refine o1 (mv ?_); refine oc (ck ca84 rfl rfl (next_spec s r6 hs e7) [0] rfl (boc .nil) (fir .nil) ?_); refine nx ?_; refine runs_region ?_; refine o1 (mv ?_)
          refine oc (cv ca85 rfl rfl (number_spec (tokR s r6.p).1 e9.1 e9.2.1) (fir .nil) ?_); refine o1 (fdb ti67 ?_); refine oc (sto ti3 ?_); refine ops_nil ?_; refine seq_back ?_
          refine back_c ((numR (tokR s r6.p).1 (tokR s r6.p).1.size, (nextR s r6).2)) rfl ?_ ([0, 1, 2, 3]) ?_
          · exact ⟨by unfold arityR; rw [if_pos (by omega)], fun h => h.2 hab⟩
          · refine mo ?_ (sly (sly (sly slz)))
            repeat (first | exact boz | refine boc ?_ | refine bor ?_)
        (try simp only [nrm, Int.reduceEq, Int.reduceNe, Int.reduceLT, Int.reduceLE] at h21); refine runs_seq ?_; refine kp [8, 6, 2, 0] ?_; obtain rfl : k = 3 := (by omega); refine runs_region ?_; refine o1 (mv ?_); refine o1 (mv ?_)
        refine oc (ck ca83 rfl rfl (fail_spec s (tokR s r6.p).2.1 r6) [0] rfl (boc .nil) (fir (fir .nil)) ?_); refine nx ?_; refine kp [6, 2] ?_; refine sr ?_; refine o1 (ldb ti67 ?_); refine oc (sto ti67 ?_); refine nx ?_; refine runs_ret ?_
        refine seq_ret ?_; refine seq_ret ?_; refine fin_ret ?_
        refine fin_odl ⟨_, _, rfl, (from_cell rfl rfl ti67 rfl rfl rfl rfl), rfl⟩ rfl ((Dec.mk 3 nm acc zeroT zeroT 0 []).d) (by repeat (first | exact .refl _ | exact .nil | refine .agg ?_ | refine .cons ?_ ?_)) ([0]) ([rdO s (r6.fail (tokR s r6.p).2.1)]) rfl rfl rfl ?_ ?_
        · repeat (first | exact boz | refine boc ?_)
        · rw [declR_bad e6 (by unfold arityB; rintro ⟨b1, b2, b3, b4⟩; have hz : byteAt (tokR s r6.p).1 (Int.toNat 0) = byteAt (tokR s r6.p).1 0 := rfl; rcases h21 with (((h | h) | h) | h) | h; exact b1 (tokR_empty h); exact b1 h; omega; omega; omega)]; exact ⟨rfl, rfl⟩
      case h2 =>
        rintro ⟨a, r7⟩ hcut
        try dsimp only at hcut
        refine kp [6, 2, 0] ?_; refine runs_seq ?_; obtain ⟨c1, c2⟩ := hcut
        have e10 := (arityR_le (s := s) (k := k) e7).2
        rw [c1] at e10
        simp only at e10
        have e11 := (termR_le (s := s) (s.size + 1) r7 e10).2
        obtain ⟨k1, n1, s1, l1, a1, hX⟩ := Trm.case (termR (s.size + 1) s r7).1; refine runs_region ?_; refine o1 (mv ?_)
        refine oc (op_callo ca42 rfl rfl rfl rfl (term_spec s hs (s.size + 1) r7 e10 (by omega)) [0] (boc .nil) rfl rfl rfl rfl (fir .nil) (fun s ob' hq => ?_) (fun s ob' hq => ?_))
        rotate_left
        · first | exact hq.elim | cases hq.1
        obtain ⟨hq1, rfl⟩ := hq; rw [hX] at hq1; cases hq1; refine ⟨_, _, _, _, _, rfl, rfl, rfl, rfl, rfl, ?_⟩; refine o1 (fdb ti67 ?_); refine oc (sto ti31 ?_); refine nx ?_; refine runs_seq ?_; refine runs_seq ?_
        generalize hr8 : (termR (s.size + 1) s r7).2 = r8 at e11 ⊢
        refine runs_region ?_; refine o1 (fdb ti67 ?_); refine o1 (ldb ti3 ?_); refine o1 (ieq ?_); refine nx ?_; refine kp [105, 6, 2, 0] ?_
        apply runs_cut_o (ι := Int × Int × ByteArray × List Lvl × List Trm × RS) (fun ⟨k2, n2, s2, l2, a2, r9⟩ => []) (fun ⟨k2, n2, s2, l2, a2, r9⟩ => [rdO s r9, .cells [.d (.v (.int .i64 0)), .d (.v (.string .empty)), .d (.v (.slice none 0 0)), .d (.v (.int .i64 0)), .d (.v (.int .i64 0)), .d (.v (.string .empty)), .d (.v (.slice none 0 0)), .d (.v (.slice none 0 0)), .d (.v (.int .i64 0)), .d (.v (.int .i64 0)), .d (.v (.string .empty)), .d (.v (.slice none 0 0)), .d (.v (.slice none 0 0)), .d (.v (.int .i64 0)), .d (.v (.slice none 0 0))] 67, .cells [.d (.v (.int .i64 k)), .d (.v (.string nm)), .own 3 1 (strs acc), .d (.v (.int .i64 k1)), .d (.v (.int .i64 n1)), .d (.v (.string s1)), .d (.sl 3 (lvls l1)), .d (.sl 5 (trms a1)), .d (.v (.int .i64 k2)), .d (.v (.int .i64 n2)), .d (.v (.string s2)), .d (.sl 3 (lvls l2)), .d (.sl 5 (trms a2)), .d (.v (.int .i64 a)), .d (.v (.slice none 0 0))] 67, .row 9 1]) [6, 2, 0] (fun ⟨k2, n2, s2, l2, a2, r9⟩ => valR s k r8 = (.mk k2 n2 s2 l2 a2, r9))
        case hk => exact rfl
        case h1 =>
          refine cdf (fun h27 => ?_) (fun h27 => ?_)
          · (try simp only [nrm, Int.reduceEq, Int.reduceNe, Int.reduceLT, Int.reduceLE] at h27)
            refine runs_skip ?_; refine seq_back ?_; refine back_c ((0, 0, .empty, [], [], r8)) rfl ?_ ([0, 1, 2, 3]) ?_
            · unfold valR; rw [if_neg (by omega)]; rfl
            · refine mo ?_ (sly (sly (sly slz)))
              repeat (first | exact boz | exact fiz | refine boc ?_ | refine bor ?_ | refine boe ?_ ?_ | refine fir ?_ | refine fni ?_)
          (try simp only [nrm, Int.reduceEq, Int.reduceNe, Int.reduceLT, Int.reduceLE] at h27); obtain ⟨k2, n2, s2, l2, a2, hX2⟩ := Trm.case (termR (s.size + 1) s r8).1; refine runs_region ?_; refine o1 (mv ?_)
          refine oc (op_callo ca42 rfl rfl rfl rfl (term_spec s hs (s.size + 1) r8 e11 (by omega)) [0] (boc .nil) rfl rfl rfl rfl (fir .nil) (fun s ob' hq => ?_) (fun s ob' hq => ?_))
          rotate_left
          · first | exact hq.elim | cases hq.1
          obtain ⟨hq1, rfl⟩ := hq; rw [hX2] at hq1; cases hq1; refine ⟨_, _, _, _, _, rfl, rfl, rfl, rfl, rfl, ?_⟩; refine o1 (fdb ti67 ?_); refine oc (sto ti31 ?_); refine ops_nil ?_; refine seq_back ?_
          refine back_c ((k2, n2, s2, l2, a2, (termR (s.size + 1) s r8).2)) rfl ?_ ([0, 1, 2, 3]) ?_
          · exact (by unfold valR; rw [if_pos (by omega)]; exact Prod.ext hX2 rfl)
          · refine mo ?_ (sly (sly (sly slz)))
            repeat (first | exact boz | refine boc ?_ | refine bor ?_)
        case h2 =>
          rintro ⟨k2, n2, s2, l2, a2, r9⟩ hcut
          try dsimp only at hcut
          refine kp [6, 2, 0] ?_; refine runs_seq ?_; refine runs_block ?_
          have e12 := (valR_le (s := s) (k := k) e11).2
          rw [hcut] at e12
          simp only at e12
          refine runs_nilrow 111 6 rfl ?_
          apply runs_loop_o (ι := Nat × List (ByteArray × Trm) × RS) (fun ⟨m, cs, r'⟩ => []) (fun ⟨m, cs, r'⟩ => [rdO s r', .cells [.d (.v (.int .i64 0)), .d (.v (.string .empty)), .d (.v (.slice none 0 0)), .d (.v (.int .i64 0)), .d (.v (.int .i64 0)), .d (.v (.string .empty)), .d (.v (.slice none 0 0)), .d (.v (.slice none 0 0)), .d (.v (.int .i64 0)), .d (.v (.int .i64 0)), .d (.v (.string .empty)), .d (.v (.slice none 0 0)), .d (.v (.slice none 0 0)), .d (.v (.int .i64 0)), .d (.v (.slice none 0 0))] 67, .cells [.d (.v (.int .i64 k)), .d (.v (.string nm)), .own 3 1 (strs acc), .d (.v (.int .i64 k1)), .d (.v (.int .i64 n1)), .d (.v (.string s1)), .d (.sl 3 (lvls l1)), .d (.sl 5 (trms a1)), .d (.v (.int .i64 k2)), .d (.v (.int .i64 n2)), .d (.v (.string s2)), .d (.sl 3 (lvls l2)), .d (.sl 5 (trms a2)), .d (.v (.int .i64 a)), .own 4 6 (ctrs cs)] 67, .row 9 1, .row 111 6]) [6, 2, 0] (fun ⟨m, cs, r'⟩ => r'.p ≤ s.size ∧ cs.length + m = s.size + 2 ∧ (r'.f = none → s.size - r'.p < m) ∧ consM k (s.size + 2) s r9 = (cs ++ (consM k m s r').1, (consM k m s r').2)) (fun ⟨m, cs, r'⟩ => m) ((s.size + 2, [], r9)) ([0, 1, 2, 3, 4])
          case hk => exact rfl
          case hI =>
            exact ⟨e12, by simp, fun _ => by omega, rfl⟩
          case hm =>
            refine mo ?_ (sly (sly (sly slz)))
            repeat (first | exact boz | exact fiz | refine boc ?_ | refine bor ?_ | refine bon ?_ | refine boe ?_ ?_ | refine fir ?_ | refine .cons (.nil rfl) ?_)
          case h =>
            rintro ⟨m, cs, r'⟩ hinv
            try dsimp only at hinv
            refine kp [6, 2, 0] ?_; refine runs_seq ?_; refine sr ?_; refine o1 (fdb ti67 ?_); refine o1 (ldb ti3 ?_); refine o1 (ieq ?_); refine o1 (mv ?_)
            apply ops_and (yt := 118) (d := 112) 6 rfl rfl rfl (.none rfl) rfl rfl
            case h1 =>
              intro hb7 hK
              have hc := hb7; (try simp only [nrm, Int.reduceEq, Int.reduceNe, Int.reduceLT, Int.reduceLE] at hc)
              refine gye ?_ (hbw := by exact hb7); refine o1 (mv ?_); refine gye ?_ (hbw := by exact hb7); refine o1 (ncb ?_); refine gye ?_ (hbw := by exact hb7); refine o1 (fdb ti71 ?_); refine gye ?_ (hbw := by exact hb7); refine o1 (fdb ti33 ?_)
              refine gye ?_ (hbw := by exact hb7); refine o1 (ldb ti3 ?_); refine gye ?_ (hbw := by exact hb7); refine o1 (ieq ?_); exact hK [_, _, _, _, _, _] rfl rfl
            case h2 =>
              intro hb7 hK; refine gno ?_ (hbw := by exact hb7); refine gno ?_ (hbw := by exact hb7); refine gno ?_ (hbw := by exact hb7); refine gno ?_ (hbw := by exact hb7); refine gno ?_ (hbw := by exact hb7); refine gno ?_ (hbw := by exact hb7)
              exact hK [_, _, _, _, _, _] rfl
            refine o1 (mv ?_)
            apply ops_and (yt := 123) (d := 120) 3 rfl rfl rfl (.none rfl) rfl rfl
            case h1 =>
              intro hb23 hK
              have hc := hb23; (try simp only [nrm, Int.reduceEq, Int.reduceNe, Int.reduceLT, Int.reduceLE] at hc)
              refine gye ?_ (hbw := by exact hb23); refine o1 (mv ?_); refine gye ?_ (hbw := by exact hb23); refine oc (ck ca87 rfl rfl (peek_spec s r' hs hinv.1) [0] rfl (boc .nil) (fir .nil) ?_); refine gye ?_ (hbw := by exact hb23); refine o1 (seq1 ?_)
              exact hK [_, _, _] rfl rfl
            case h2 =>
              intro hb23 hK; refine gno ?_ (hbw := by exact hb23); refine gno ?_ (hbw := by exact hb23); refine gno ?_ (hbw := by exact hb23); exact hK [_, _, _] rfl
            refine nx ?_; refine cdf (fun h29 => ?_) (fun h29 => ?_)
            · (try simp only [nrm, Int.reduceEq, Int.reduceNe, Int.reduceLT, Int.reduceLE] at h29)
              refine runs_exit ?_; refine seq_exit ?_; refine seq_exit ?_; refine inb_exit ?_; refine seq_normal ?_; refine runs_seq ?_; refine kp [6, 2, 0] ?_
              have e13 : consM k (s.size + 2) s r9 = (cs, r') := (by rw [hinv.2.2.2, cons_stop (by rintro ⟨h1, h2, h3⟩; rcases h29 with (h | h) | h; omega; exact h (fcode_none.2 h2); exact h h3), List.append_nil])
              refine runs_region ?_; refine o1 (mv ?_); refine oc (ck ca88 rfl rfl (take_spec s ⟨#[41]⟩ r' hs hinv.1) [0] rfl (boc .nil) (fir (fir .nil)) ?_); refine nx ?_; refine sr ?_; refine o1 (ldb ti67 ?_); refine oc (sto ti67 ?_); refine nx ?_
              refine runs_ret ?_; refine fin_ret ?_
              refine fin_odl ⟨_, _, rfl, (from_cell rfl rfl ti67 rfl rfl rfl rfl), rfl⟩ rfl ((Dec.mk k nm acc (.mk k1 n1 s1 l1 a1) (.mk k2 n2 s2 l2 a2) a cs).d) (by exact .refl _) ([0]) ([rdO s (takeR s ⟨#[41]⟩ r')]) rfl rfl rfl ?_ ?_
              · repeat (first | exact boz | refine boc ?_)
              · rw [declR_good e6 hk0 c2 c1 (Prod.ext hX hr8) hcut e13]; exact ⟨rfl, rfl⟩
            (try simp only [nrm, Int.reduceEq, Int.reduceNe, Int.reduceLT, Int.reduceLE] at h29); refine runs_skip ?_; refine seq_normal ?_; refine runs_block ?_; refine runs_seq ?_; refine kp [6, 2, 0] ?_
            have hm1 := hinv.2.2.1 (fcode_none.1 h29.1.2)
            have hln := ctrs_len cs
            have f1 := (takeR_le (s := s) (w := ⟨#[40]⟩) hinv.1).2
            have f2 := (takeR_le (s := s) (w := ctorW) f1).2
            have f3 := (nameR_le (s := s) f2).2
            have f4 := (termR_le (s := s) (s.size + 1) _ f3).2
            obtain ⟨k3, n3, s3, l3, a3, hX3⟩ := Trm.case (termR (s.size + 1) s (nameR s (takeR s ctorW (takeR s ⟨#[40]⟩ r'))).2).1
            have hlast : ctrs cs ++ [[.v (.string (nameR s (takeR s ctorW (takeR s ⟨#[40]⟩ r'))).1), .v (.int .i64 k3), .v (.int .i64 n3), .v (.string s3), .sl 3 (lvls l3), .sl 5 (trms a3)]] = ctrs (cs ++ [((nameR s (takeR s ctorW (takeR s ⟨#[40]⟩ r'))).1, .mk k3 n3 s3 l3 a3)]) := by rw [ctrs_app]; rfl
            refine runs_region ?_; refine o1 (mv ?_); refine oc (ck ca88 rfl rfl (take_spec s ⟨#[40]⟩ r' hs hinv.1) [0] rfl (boc .nil) (fir (fir .nil)) ?_); refine nx ?_; refine sr ?_; refine o1 (mv ?_)
            refine oc (ck ca88 rfl rfl (take_spec s ctorW (takeR s ⟨#[40]⟩ r') hs f1) [0] rfl (boc .nil) (fir (fir .nil)) ?_); refine nx ?_; refine kp [6, 2, 0] ?_; refine sr ?_; refine o1 (mv ?_)
            refine oc (ck ca86 rfl rfl (name_spec s (takeR s ctorW (takeR s ⟨#[40]⟩ r')) hs f2) [0] rfl (boc .nil) (fir .nil) ?_); refine o1 (bld ti111 ?_)
            refine oc (T := fun _ => False) (alc ti111 ?_ (hl := by simp only [List.length_cons, List.length_nil, Nat.reduceAdd]; rfl)); refine oc (sto ti111 ?_); refine nx ?_; refine sr ?_; refine o1 (mv ?_)
            refine oc (op_callo ca42 rfl rfl rfl rfl (term_spec s hs (s.size + 1) (nameR s (takeR s ctorW (takeR s ⟨#[40]⟩ r'))).2 f3 (by omega)) [0] (boc .nil) rfl rfl rfl rfl (fir .nil) (fun s ob' hq => ?_) (fun s ob' hq => ?_))
            rotate_left
            · first | exact hq.elim | cases hq.1
            obtain ⟨hq1, rfl⟩ := hq; rw [hX3] at hq1; cases hq1; refine ⟨_, _, _, _, _, rfl, rfl, rfl, rfl, rfl, ?_⟩; refine o1 (fdb ti111 ?_); refine oc (sto ti31 ?_); refine nx ?_; refine kp [10, 6, 2, 0] ?_; refine sr ?_; refine o1 (mv ?_)
            refine oc (ck ca88 rfl rfl (take_spec s ⟨#[41]⟩ (termR (s.size + 1) s (nameR s (takeR s ctorW (takeR s ⟨#[40]⟩ r'))).2).2 hs f4) [0] rfl (boc .nil) (fir (fir .nil)) ?_); refine nx ?_; refine runs_region ?_; refine o1 (fdb ti67 ?_)
            refine o1 (ldb ti65 ?_); refine o1 (ldb ti111 ?_)
            refine oc (T := fun _ => False) (op_lit sl65 [.tmp 139] ti111 rfl rfl rfl rfl rfl rfl rfl (by decide) (by decide) (by decide) (by simp only [List.length_cons, List.length_nil, Nat.reduceAdd]; rfl) rfl ?_)
            refine oc (op_append sl65 rfl rfl rfl rfl rfl rfl rfl (.inl rfl) (by decide) (by simp) (by first | decide | (simp only [maxLen, List.length_cons, List.length_nil, List.length_append, List.length_map]; omega) | omega) rfl rfl rfl ?_)
            refine o1 (fdb ti67 ?_); refine oc (sto ti65 ?_); refine ops_nil ?_; refine inb_normal ?_; refine seq_back ?_
            rw [hlast]; rw [show takeR s ⟨#[41]⟩ (termR (s.size + 1) s (nameR s (takeR s ctorW (takeR s ⟨#[40]⟩ r'))).2).2 = (ctorR s r').2 from rfl]
            refine back_c ((m - 1, cs ++ [((nameR s (takeR s ctorW (takeR s ⟨#[40]⟩ r'))).1, .mk k3 n3 s3 l3 a3)], (ctorR s r').2)) rfl ?_ ([0, 1, 2, 3, 4]) ?_
            · exact ⟨cons_step hinv (by omega) ⟨fcode_none.1 h29.1.2, h29.2⟩ (by rw [← hX3]; rfl), show m - 1 < m by omega⟩
            · refine mo ?_ (sly (sly (sly slz)))
              repeat (first | exact boz | refine boc ?_ | refine bor ?_)
end Go.Proofs.YtneaancanfpdhaaGreatDoor
namespace Go.Proofs.YtneaancanfpdhaaGreatDoor
open Go Go.Vd Go.RowKit
attribute [local irreducible] Runs OpsR OpR FloatR AnyR AnyO
variable {g gl : Nat → List D}

/-! faults stay -/
theorem fail_some {r : RS} {x a : Nat} (h : r.f = some a) : (r.fail x).f = some a := by obtain ⟨p, f⟩ := r; simp only at h; subst h; rfl
theorem next_some {s : ByteArray} {r : RS} {a : Nat} (h : r.f = some a) : (nextR s r).2.f = some a := by
  obtain ⟨p, f⟩ := r; simp only at h; subst h; unfold nextR; dsimp only; split <;> rfl
theorem name_some {s : ByteArray} {r : RS} {a : Nat} (h : r.f = some a) : (nameR s r).2.f = some a := by
  obtain ⟨p, f⟩ := r; simp only at h; subst h; unfold nameR; dsimp only; split <;> rfl
theorem term_some {s : ByteArray} {n : Nat} {r : RS} {a : Nat} (h : r.f = some a) : (termR n s r).2.f = some a := by
  obtain ⟨p, f⟩ := r; simp only at h; subst h; rw [termR_some]
theorem names_some {s : ByteArray} {n : Nat} {r : RS} {a : Nat} (h : r.f = some a) : (namesR n s r).2.f = some a := by
  rw [names_stop (by rintro ⟨e, _⟩; rw [h] at e; cases e)]; exact h
theorem ctors_some {s : ByteArray} {n : Nat} {r : RS} {a : Nat} (h : r.f = some a) : (ctorsR n s r).2.f = some a := by
  rw [ctors_stop (by rintro ⟨e, _⟩; rw [h] at e; cases e)]; exact h
theorem val_some {s : ByteArray} {k : Nat} {r : RS} {a : Nat} (h : r.f = some a) : (valR s k r).2.f = some a := by
  unfold valR; split
  · exact term_some h
  · exact h
theorem cons_some {s : ByteArray} {k : Nat} {r : RS} {a : Nat} (h : r.f = some a) : (consR s k r).2.f = some a := by
  unfold consR; split
  · exact ctors_some h
  · exact h
theorem arity_some {s : ByteArray} {k : Nat} {r : RS} {a : Nat} (h : r.f = some a) : (arityR s k r).2.f = some a := by
  unfold arityR; split
  · exact next_some h
  · exact h
theorem tail_some {s : ByteArray} {k : Nat} {nm : ByteArray} {ps : List ByteArray} {ar : Int} {r : RS} {a : Nat} (h : r.f = some a) : (declTail s k nm ps ar r).2.f = some a :=
  take_some (cons_some (val_some (term_some h)))
theorem decl_of_head {s : ByteArray} {r : RS} {a : Nat} (h : (declHead s r).2.2.2.f = some a) : (declR s r).2.f = some a := by
  unfold declR
  dsimp only
  split
  · exact h
  · split
    · exact fail_some h
    · exact tail_some (arity_some h)
theorem decl_take {s : ByteArray} {r : RS} {a : Nat} (h : (takeR s ⟨#[40]⟩ r).f = some a) : (declR s r).2.f = some a := by
  apply decl_of_head
  unfold declHead
  dsimp only
  split
  · exact fail_some h
  · exact take_some (names_some (take_some (name_some (next_some h))))
theorem decl_name {s : ByteArray} {r r1 : RS} {a : Nat} (h1 : takeR s ⟨#[40]⟩ r = r1) (hk : ¬ kindF (tokR s r1.p).1 = 0) (h : (nameR s (nextR s r1).2).2.f = some a) : (declR s r).2.f = some a := by
  apply decl_of_head
  unfold declHead
  dsimp only
  rw [h1, if_neg hk]
  exact take_some (names_some (take_some h))
theorem decl_open {s : ByteArray} {r r1 : RS} {a : Nat} (h1 : takeR s ⟨#[40]⟩ r = r1) (hk : ¬ kindF (tokR s r1.p).1 = 0) (h : (takeR s ⟨#[40]⟩ (nameR s (nextR s r1).2).2).f = some a) : (declR s r).2.f = some a := by
  apply decl_of_head
  unfold declHead
  dsimp only
  rw [h1, if_neg hk]
  exact take_some (names_some h)
theorem decl_names {s : ByteArray} {r r1 : RS} {a : Nat} (h1 : takeR s ⟨#[40]⟩ r = r1) (hk : ¬ kindF (tokR s r1.p).1 = 0) (h : (namesR (s.size + 2) s (takeR s ⟨#[40]⟩ (nameR s (nextR s r1).2).2)).2.f = some a) : (declR s r).2.f = some a := by
  apply decl_of_head
  unfold declHead
  dsimp only
  rw [h1, if_neg hk]
  exact take_some h
theorem decl_term {s : ByteArray} {r r6 r7 : RS} {k : Nat} {nm : ByteArray} {ps : List ByteArray} {ar : Int} {a : Nat} (h : declHead s r = (k, nm, ps, r6)) (h0 : ¬ k = 0) (hb : ¬ (k = 3 ∧ ¬ arityB (tokR s r6.p))) (ha : arityR s k r6 = (ar, r7)) (hf : (termR (s.size + 1) s r7).2.f = some a) : (declR s r).2.f = some a := by
  unfold declR
  dsimp only
  rw [h, if_neg h0, if_neg hb]
  simp only [ha]
  exact take_some (cons_some (val_some hf))
theorem decl_val {s : ByteArray} {r r6 r7 r8 : RS} {k : Nat} {nm : ByteArray} {ps : List ByteArray} {ar : Int} {t : Trm} {a : Nat} (h : declHead s r = (k, nm, ps, r6)) (h0 : ¬ k = 0) (hb : ¬ (k = 3 ∧ ¬ arityB (tokR s r6.p))) (ha : arityR s k r6 = (ar, r7)) (ht : termR (s.size + 1) s r7 = (t, r8)) (hf : (valR s k r8).2.f = some a) : (declR s r).2.f = some a := by
  unfold declR
  dsimp only
  rw [h, if_neg h0, if_neg hb]
  simp only [declTail, ha, ht]
  exact take_some (cons_some hf)
theorem decl_cons {s : ByteArray} {r r6 r7 r8 r9 : RS} {k : Nat} {nm : ByteArray} {ps : List ByteArray} {ar : Int} {t v : Trm} {a : Nat} (h : declHead s r = (k, nm, ps, r6)) (h0 : ¬ k = 0) (hb : ¬ (k = 3 ∧ ¬ arityB (tokR s r6.p))) (ha : arityR s k r6 = (ar, r7)) (ht : termR (s.size + 1) s r7 = (t, r8)) (hv : valR s k r8 = (v, r9)) (hf : (consR s k r9).2.f = some a) : (declR s r).2.f = some a := by
  unfold declR
  dsimp only
  rw [h, if_neg h0, if_neg hb]
  simp only [declTail, ha, ht, hv]
  exact take_some hf
theorem decl_close {s : ByteArray} {r r6 r7 r8 r9 r10 : RS} {k : Nat} {nm : ByteArray} {ps : List ByteArray} {ar : Int} {t v : Trm} {cs : List (ByteArray × Trm)} {a : Nat} (h : declHead s r = (k, nm, ps, r6)) (h0 : ¬ k = 0) (hb : ¬ (k = 3 ∧ ¬ arityB (tokR s r6.p))) (ha : arityR s k r6 = (ar, r7)) (ht : termR (s.size + 1) s r7 = (t, r8)) (hv : valR s k r8 = (v, r9)) (hc : consR s k r9 = (cs, r10)) (hf : (takeR s ⟨#[41]⟩ r10).f = some a) : (declR s r).2.f = some a := by
  rw [declR_good h h0 hb ha ht hv hc]; exact hf
/-- a fault inside a loop's round -/
theorem names_bad {s : ByteArray} {r0 r' : RS} {m a : Nat} {acc : List ByteArray} (h4 : namesR (s.size + 2) s r0 = (acc ++ (namesR m s r').1, (namesR m s r').2)) (hm : 0 < m) (h : r'.f = none ∧ ¬ peekR s r' = ⟨#[41]⟩) (hf : (nameR s r').2.f = some a) : (namesR (s.size + 2) s r0).2.f = some a := by
  rw [h4]
  obtain ⟨m, rfl⟩ : ∃ k, m = k + 1 := ⟨m - 1, by omega⟩
  simp only [namesR]
  rw [if_pos h]
  exact names_some hf
theorem ctors_bad {s : ByteArray} {r0 r' : RS} {m a : Nat} {acc : List (ByteArray × Trm)} (h4 : ctorsR (s.size + 2) s r0 = (acc ++ (ctorsR m s r').1, (ctorsR m s r').2)) (hm : 0 < m) (h : r'.f = none ∧ peekR s r' = ⟨#[40]⟩) (hf : (ctorR s r').2.f = some a) : (ctorsR (s.size + 2) s r0).2.f = some a := by
  rw [h4]
  obtain ⟨m, rfl⟩ : ∃ k, m = k + 1 := ⟨m - 1, by omega⟩
  simp only [ctorsR]
  rw [if_pos h]
  exact ctors_some hf
theorem peek_step40 {s : ByteArray} {q : Nat} : peekR s ⟨q, none⟩ = ⟨#[40]⟩ ↔ stepTok s q = ⟨#[40]⟩ := by
  rw [step_is (by decide) (by decide)]
  unfold peekR
  split
  · rename_i h
    constructor
    · intro e; exact absurd e (by decide)
    · intro e
      rcases h with h | h
      · rw [tokR_empty h] at e; exact absurd e (by decide)
      · exact absurd rfl h
  · exact Iff.rfl
theorem step_kindF {s : ByteArray} {p : Nat} : kindF (stepTok s p) = kindF (tokR s p).1 := by
  have h0 : kindF .empty = 0 ∧ kindF ⟨#[0]⟩ = 0 := by decide
  by_cases h : (tokR s p).1 = .empty
  · rw [h, h0.1]
    rcases step_emp h with h3 | h3 <;> rw [h3]
    · exact h0.1
    · exact h0.2
  · rw [(step_tok h).1]
theorem kindF_ne {s : ByteArray} {p : Nat} (h : ¬ kindF (tokR s p).1 = 0) : (tokR s p).1 ≠ .empty := by
  intro e; rw [e] at h; exact h (by decide)

/-! what file.read does, by what the reference's reader reads -/
def DrQ (s : ByteArray) (r : Dec × RS) (out : Out) (ob' : List Ob) : Prop :=
  (r.2.f = none → out = .ret (.d r.1.d) ∧ ob' = [scA s r.2.p]) ∧ (∀ a, r.2.f = some a → out = .pan (.d (fltD 1 a)) ∧ ob' = [.dead])
theorem DrQ.ok {s : ByteArray} {r : Dec × RS} {out : Out} {ob' : List Ob} (hf : r.2.f = none) (h : out = .ret (.d r.1.d) ∧ ob' = [scA s r.2.p]) : DrQ s r out ob' :=
  ⟨fun _ => h, fun a e => by rw [hf] at e; cases e⟩
theorem DrQ.bad {s : ByteArray} {r : Dec × RS} {out : Out} {ob' : List Ob} {a : Nat} (hf : r.2.f = some a) (h : out = .pan (.d (fltD 1 a)) ∧ ob' = [.dead]) : DrQ s r out ob' :=
  ⟨fun e => (by rw [hf] at e; cases e), fun b e => by rw [hf] at e; cases e; exact h⟩
theorem DrQ.ret {s : ByteArray} {r : Dec × RS} {v : SV} {ob' : List Ob} (h : DrQ s r (.ret v) ob') : r.2.f = none ∧ v = .d r.1.d ∧ ob' = [scA s r.2.p] := by
  cases hf : r.2.f with
  | none =>
    obtain ⟨h1, h2⟩ := h.1 hf
    cases h1
    exact ⟨rfl, rfl, h2⟩
  | some a => obtain ⟨h1, _⟩ := h.2 a hf; cases h1
theorem DrQ.pan {s : ByteArray} {r : Dec × RS} {v : SV} {ob' : List Ob} (h : DrQ s r (.pan v) ob') : ∃ a, r.2.f = some a ∧ v = .d (fltD 1 a) ∧ ob' = [.dead] := by
  cases hf : r.2.f with
  | none => obtain ⟨h1, _⟩ := h.1 hf; cases h1
  | some a =>
    obtain ⟨h1, h2⟩ := h.2 a hf
    cases h1
    exact ⟨a, rfl, rfl, h2⟩

/-! the words of declarations -/
def kindsM : ByteArray → Option Int := updM (updM (updM (fun _ => none) ⟨#[97, 120, 105, 111, 109]⟩ 1) ⟨#[100, 101, 102]⟩ 2) ⟨#[105, 110, 100, 117, 99, 116, 105, 118, 101]⟩ 3
theorem kindsM_eq (w : ByteArray) : (kindsM w).getD 0 = (kindF w : Int) := by
  unfold kindsM kindF updM
  dsimp only
  by_cases h3 : w = ⟨#[105, 110, 100, 117, 99, 116, 105, 118, 101]⟩
  · subst h3; decide
  · by_cases h2 : w = ⟨#[100, 101, 102]⟩
    · subst h2; decide
    · by_cases h1 : w = ⟨#[97, 120, 105, 111, 109]⟩
      · subst h1; decide
      · simp [h1, h2, h3]
theorem kinds_spec : Tri Tryz.prog gl 109 [] [] fun out ob' => out = .ret (.map 0) ∧ ob' = [.mapI kindsM] := by
  refine triS_of_runs Tryz.func109 rfl Tryz.ntmps109 (rs := [.tmp 0]) rfl rfl rfl 0 rfl ?_
  refine sr ?_; refine o1 (asg ?_); refine nx ?_; refine sr ?_; refine oc (T := fun _ => False) (op_mapmake rfl rfl rfl (by simp only [List.length_cons, List.length_nil, Nat.reduceAdd]; rfl) rfl ?_)
  refine oc (op_insert mt128 rfl rfl rfl rfl rfl rfl rfl rfl ?_); refine oc (op_insert mt128 rfl rfl rfl rfl rfl rfl rfl rfl ?_); refine oc (op_insert mt128 rfl rfl rfl rfl rfl rfl rfl rfl ?_); refine o1 (mv ?_); refine o1 (asg ?_)
  refine nx ?_; refine runs_ret ?_; refine fin_ret ?_; refine fin_o ⟨_, _, rfl, rfl, rfl⟩ [0] (.map 0) ([.mapI kindsM]) rfl rfl rfl ?_ rfl ?_ ?_
  · repeat (first | exact boz | refine bom ?_)
  · exact .refl _
  · exact ⟨rfl, rfl⟩

/-! a number, or none -/
theorem numR_ge {t : ByteArray} (hd : allDig t) (h0 : ¬ byteAt t 0 = 48) (h3 : 3 ≤ t.size) (h5 : t.size ≤ 5) : 99 < numR t t.size := by
  have d0 := hd 0 (by omega)
  have d1 := hd 1 (by omega)
  have d2 := hd 2 (by omega)
  have key : t.size = 3 ∨ t.size = 4 ∨ t.size = 5 := by omega
  rcases key with h | h | h
  · rw [h]; simp only [numR]; omega
  · have d3 := hd 3 (by omega)
    rw [h]; simp only [numR]; omega
  · have d3 := hd 3 (by omega)
    have d4 := hd 4 (by omega)
    rw [h]; simp only [numR]; omega
theorem numR_le99 {t : ByteArray} (hd : allDig t) (h2 : t.size ≤ 2) : 0 ≤ numR t t.size ∧ numR t t.size ≤ 99 := by
  have key : t.size = 0 ∨ t.size = 1 ∨ t.size = 2 := by omega
  rcases key with h | h | h
  · rw [h]; simp [numR]
  · have d0 := hd 0 (by omega)
    rw [h]; simp only [numR]; omega
  · have d0 := hd 0 (by omega)
    have d1 := hd 1 (by omega)
    rw [h]; simp only [numR]; omega
theorem badNum_of {t : ByteArray} (h : t = .empty ∨ (¬ (48 ≤ byteAt t 0 ∧ byteAt t 0 ≤ 57) ∧ ¬ byteAt t 0 = 43 ∧ ¬ byteAt t 0 = 45)) : badNum t := by
  unfold badNum
  obtain ⟨⟨l⟩⟩ := t
  cases l with
  | nil => rfl
  | cons c r =>
    have hb : byteAt ⟨⟨c :: r⟩⟩ 0 = c.toNat := rfl
    rcases h with h | ⟨h1, h2, h3⟩
    · have := congrArg ByteArray.size h; simp [ByteArray.size] at this
    · rw [hb] at h1 h2 h3
      show Lib.atoiAll (c :: r) = _
      rw [Lib.atoiAll_plain c r (by omega) (by omega)]
      unfold Lib.parseMag
      rw [if_neg (by simp)]
      unfold Lib.parseUint10
      rw [if_neg (by omega)]
      rfl
/-- a token that begins with no digit begins with no sign -/
theorem tok_first {s : ByteArray} {p : Nat} (hp : p ≤ s.size) (h0 : (tokR s p).1 ≠ .empty) : ¬ byteAt (tokR s p).1 0 = 43 ∧ ¬ byteAt (tokR s p).1 0 = 45 := by
  have hle := spanB_le wsB s p hp
  revert h0
  unfold tokR
  dsimp only
  split
  · intro h0; exact absurd rfl h0
  · rename_i hn
    have hlt : spanB wsB s p < s.size := by omega
    split
    · rename_i hc
      intro _
      rw [byteAt_extract s (by omega) (by omega), Nat.add_zero]
      omega
    · split
      · rename_i hc hnm
        have h3 := spanB_le (nameB · false) s (spanB wsB s p + 1) (by omega)
        split
        · intro h0; exact absurd rfl h0
        · intro _
          rw [byteAt_extract s (by omega) (by omega), Nat.add_zero]
          unfold nameB at hnm
          simp at hnm
          omega
      · split
        · rename_i hd35
          have h3 := spanB_le digB s (spanB wsB s p + 1) (by omega)
          have hh : byteAt s (spanB wsB s p) = 35 ∨ (48 ≤ byteAt s (spanB wsB s p) ∧ byteAt s (spanB wsB s p) ≤ 57) := by simpa [digB] using hd35
          by_cases h35 : byteAt s (spanB wsB s p) = 35
          · simp only [if_pos h35]
            split
            · intro h0; exact absurd rfl h0
            · intro _
              rw [byteAt_extract s (by omega) (by omega), Nat.add_zero]
              omega
          · simp only [if_neg h35]
            split
            · intro h0; exact absurd rfl h0
            · intro _
              rw [byteAt_extract s (by omega) (by omega), Nat.add_zero]
              omega
        · intro h0; exact absurd rfl h0

/-- an error, or none -/
def errN (b : Bool) (t : ByteArray) (e : D) : D := cond b (numErrD t e) (.v .nilIface)
theorem fl_errN {P : Program} {GL : Nat → List D} {o : Oper} {σ : St} {K : SV → List Nat → Prop} {T T' : TypeId} {x : Operand} {b : Bool} {t : ByteArray} {e : D} (hp : isIfc P T = true) (ho : o.op = .binOp .neq T x (.const .nilIface) T') (hx : evO GL σ.sl x = some (.d (errN b t e))) (hK : K (.d (.v (.bool b))) []) : FloatR P GL o σ K := by
  cases b with
  | false => exact fl_ineq_nil hp ho hx hK
  | true => exact fl_ineq_d hp ho hx hK
theorem atoiAny_spec (s : ByteArray) (q : Nat) (hq : q ≤ s.size) (hs : s.size ≤ 1099511627776) (e : D) (hg : gl (laysC172_ren.g 15) = [e]) (he : ifcD e) : TriD Tryz.prog gl 103 [.v (.string (stepTok s q))]
    (fun d => ∃ (n : Int) (b : Bool), d = .tup [.v (.int .i64 n), errN b (stepTok s q) e] ∧ 0 ≤ n ∧ ((b = false ∧ n ≤ 99 ∧ arityB (tokR s q) ∧ n = numR (tokR s q).1 (tokR s q).1.size) ∨ ((b = true ∨ 99 < n) ∧ ¬ arityB (tokR s q)))) := by
  have hat := tokR_at (s := s) hq
  by_cases h0 : (tokR s q).1 = .empty
  · have hbad : badNum (stepTok s q) := by
      rcases step_emp h0 with h | h <;> rw [h]
      · exact badNum_of (.inl rfl)
      · exact badNum_of (.inr (by decide))
    have hsz : (stepTok s q).size ≤ 281474976710656 := by
      rcases step_emp h0 with h | h <;> rw [h] <;> decide
    exact (atoiBad_spec _ e hg he hsz hbad).mono fun o b ⟨h1, d, h2, h3⟩ => ⟨h1, d, h2, 0, true, h3, by decide, .inr ⟨.inl rfl, fun h => h.1 h0⟩⟩
  · rw [(step_tok h0).1]
    have hsz := size_pos h0
    by_cases hd : 48 ≤ byteAt (tokR s q).1 0 ∧ byteAt (tokR s q).1 0 ≤ 57
    · obtain ⟨h5, had, hz⟩ := tok_dig hq h0 hd
      have hnb := numR_bound had (tokR s q).1.size (Nat.le_refl _) h5
      refine (atoi_spec (tokR s q).1 hsz h5 had).mono fun o b ⟨h1, d, h2, h3⟩ => ⟨h1, d, h2, numR (tokR s q).1 (tokR s q).1.size, false, h3, hnb.1, ?_⟩
      by_cases h22 : (tokR s q).1.size ≤ 2
      · have h99 := numR_le99 had h22
        exact .inl ⟨rfl, h99.2, ⟨h0, hd.1, hd.2, h22⟩, rfl⟩
      · have hge := numR_ge had (hz (by omega)) (by omega) h5
        exact .inr ⟨.inr hge, fun h => h22 h.2.2.2⟩
    · have hf := tok_first hq h0
      have hbad : badNum (tokR s q).1 := badNum_of (.inr ⟨hd, hf.1, hf.2⟩)
      exact (atoiBad_spec _ e hg he (by omega) hbad).mono fun o b ⟨h1, d, h2, h3⟩ => ⟨h1, d, h2, 0, true, h3, by decide, .inr ⟨.inl rfl, fun h => hd ⟨h.2.1, h.2.2.1⟩⟩⟩
end Go.Proofs.YtneaancanfpdhaaGreatDoor
namespace Go.Proofs.YtneaancanfpdhaaGreatDoor
open Go Go.Vd Go.RowKit
attribute [local irreducible] Runs OpsR OpR FloatR AnyR AnyO
variable {g gl : Nat → List D}

theorem names_stepN {s : ByteArray} {r0 : RS} {q m : Nat} {acc : List ByteArray} (hinv : q ≤ s.size ∧ acc.length + m = s.size + 2 ∧ s.size - q < m ∧ namesR (s.size + 2) s r0 = (acc ++ (namesR m s ⟨q, none⟩).1, (namesR m s ⟨q, none⟩).2))
    (h : ¬ peekR s ⟨q, none⟩ = ⟨#[41]⟩) (hn : isNameB (tokR s q).1 = true) :
    stepAt s q ≤ s.size ∧ (acc ++ [(tokR s q).1]).length + (m - 1) = s.size + 2 ∧ s.size - stepAt s q < m - 1 ∧ namesR (s.size + 2) s r0 = (acc ++ [(tokR s q).1] ++ (namesR (m - 1) s ⟨stepAt s q, none⟩).1, (namesR (m - 1) s ⟨stepAt s q, none⟩).2) := by
  have := names_step (r' := ⟨q, none⟩) (x := (tokR s q).1) ⟨hinv.1, hinv.2.1, fun _ => hinv.2.2.1, hinv.2.2.2⟩ ⟨rfl, h⟩ (by rw [name_yes hn])
  rw [name_yes hn] at this
  exact ⟨this.1, this.2.1, this.2.2.1 rfl, this.2.2.2⟩
theorem ctors_stepN {s : ByteArray} {r0 : RS} {q qb m : Nat} {acc : List (ByteArray × Trm)} {x : ByteArray × Trm} (hinv : q ≤ s.size ∧ acc.length + m = s.size + 2 ∧ s.size - q < m ∧ ctorsR (s.size + 2) s r0 = (acc ++ (ctorsR m s ⟨q, none⟩).1, (ctorsR m s ⟨q, none⟩).2))
    (h : peekR s ⟨q, none⟩ = ⟨#[40]⟩) (hX : ctorR s ⟨q, none⟩ = (x, ⟨qb, none⟩)) :
    qb ≤ s.size ∧ (acc ++ [x]).length + (m - 1) = s.size + 2 ∧ s.size - qb < m - 1 ∧ ctorsR (s.size + 2) s r0 = (acc ++ [x] ++ (ctorsR (m - 1) s ⟨qb, none⟩).1, (ctorsR (m - 1) s ⟨qb, none⟩).2) := by
  have := ctors_step (r' := ⟨q, none⟩) (x := x) ⟨hinv.1, hinv.2.1, fun _ => hinv.2.2.1, hinv.2.2.2⟩ ⟨rfl, h⟩ (by rw [hX])
  rw [hX] at this
  exact ⟨this.1, this.2.1, this.2.2.1 rfl, this.2.2.2⟩
theorem ctorR_eq {s : ByteArray} {q q1 q2 q3 q4 : Nat} {nm : ByteArray} {t : Trm} (h1 : takeR s ⟨#[40]⟩ ⟨q, none⟩ = ⟨q1, none⟩) (h2 : takeR s ctorW ⟨q1, none⟩ = ⟨q2, none⟩) (h3 : nameR s ⟨q2, none⟩ = (nm, ⟨q3, none⟩)) (h4 : termR (s.size + 1) s ⟨q3, none⟩ = (t, ⟨q4, none⟩)) : ctorR s ⟨q, none⟩ = ((nm, t), takeR s ⟨#[41]⟩ ⟨q4, none⟩) := by
  unfold ctorR
  simp only [h1, h2, h3, h4]

theorem fread_spec (s : ByteArray) (hs : s.size ≤ 1099511627776) (e : D) (hg : (glT g) (laysC172_ren.g 15) = [e]) (he : ifcD e) (p : Nat) (hp : p ≤ s.size) :
    Tri Tryz.prog (glT g) 77 [scA s p] [.blk 0 0] (DrQ s (declR s ⟨p, none⟩)) := by
  have hsl := stepAt_le hp
  unfold scA scO
  refine triS_of_runs Tryz.func77 rfl Tryz.ntmps77 (rs := [.cell 2 67]) rfl rfl rfl 1 rfl ?_
  refine sr ?_; refine oc (T := fun _ => False) (alc ti67 ?_ (hl := by simp only [List.length_cons, List.length_nil, Nat.reduceAdd]; rfl)); refine nx ?_; refine sr ?_; refine o1 (mv ?_)
  refine oc (op_callo ca105 rfl rfl rfl rfl (stake_spec s hs (stepAt s p) hsl.2 (stepTok s p) ⟨#[40]⟩ (tokR s p).2.1) [0] (boc .nil) rfl rfl rfl rfl (fir (fir .nil)) (fun s ob' hq => ?_) (fun s ob' hq => ?_))
  rotate_left
  · rcases hq with ⟨_, hq1, _⟩ | ⟨htk, hq1, rfl⟩
    · cases hq1
    cases hq1; refine ⟨_, _, _, _, _, rfl, rfl, rfl, rfl, rfl, ?_⟩; refine leave_d ([0]) ([.dead]) rfl rfl rfl (by repeat (first | exact boz | refine bod ?_)) ?_
    exact DrQ.bad (decl_take (takeR_no (fun e => htk ((step_is (by decide) (by decide)).2 e)))) ⟨rfl, rfl⟩
  rcases hq with ⟨htk, hq1, rfl⟩ | ⟨_, hq1, _⟩
  rotate_left
  · cases hq1
  cases hq1
  have c1 : takeR s ⟨#[40]⟩ ⟨p, none⟩ = ⟨stepAt s p, none⟩ := takeR_yes (by decide) ((step_is (by decide) (by decide)).1 htk)
  have e1 := hsl.2
  generalize hq1' : stepAt s p = q1 at c1 e1 ⊢
  unfold scA scO
  refine ⟨_, _, _, _, _, rfl, rfl, rfl, rfl, rfl, ?_⟩; refine nx ?_; refine runs_seq ?_; refine kp [2, 0] ?_
  apply runs_cut_o (ι := Unit) (fun _ => [(3, .blk 2 0)]) (fun _ => [scA s q1, .cells [.d (.v (.int .i64 0)), .d (.v (.string .empty)), .d (.v (.slice none 0 0)), .d (.v (.int .i64 0)), .d (.v (.int .i64 0)), .d (.v (.string .empty)), .d (.v (.slice none 0 0)), .d (.v (.slice none 0 0)), .d (.v (.int .i64 0)), .d (.v (.int .i64 0)), .d (.v (.string .empty)), .d (.v (.slice none 0 0)), .d (.v (.slice none 0 0)), .d (.v (.int .i64 0)), .d (.v (.slice none 0 0))] 67, .cells [.d (.v (.int .i64 ((kindsM (stepTok s q1)).getD 0))), .d (.v (.string .empty)), .d (.v (.slice none 0 0)), .d (.v (.int .i64 0)), .d (.v (.int .i64 0)), .d (.v (.string .empty)), .d (.v (.slice none 0 0)), .d (.v (.slice none 0 0)), .d (.v (.int .i64 0)), .d (.v (.int .i64 0)), .d (.v (.string .empty)), .d (.v (.slice none 0 0)), .d (.v (.slice none 0 0)), .d (.v (.int .i64 0)), .d (.v (.slice none 0 0))] 67]) [2, 0] (fun _ => True)
  case hk => exact rfl
  case h1 =>
    refine a_start ?_ (hm := by exact mixed); refine A1 1 rfl (mv ⟨_, rfl, ?_⟩); refine A1 2 rfl (ncb ⟨_, rfl, ?_⟩); refine A1 3 rfl (fdb ti105 ⟨_, rfl, ?_⟩); refine A1 4 rfl (ldb ti9 ⟨_, rfl, ?_⟩)
    refine any_many (rs := [0, 7]) (by kernel_rfl) rfl ⟨?_, ?_, trivial⟩
    · skip
      refine A4 0 rfl (ck ca109 rfl rfl (kinds_spec) [] rfl .nil .nil ?_); refine any_many (rs := [5, 7]) (by kernel_rfl) rfl ⟨?_, ?_, trivial⟩
      · skip
        refine A4 5 rfl (op_lookup1 mt128 rfl rfl rfl rfl rfl rfl ?_); refine A1 6 rfl (bld ti67 ⟨_, rfl, ?_⟩); refine A2 (T := fun _ => False) 7 rfl (alc ti67 ?_ (hl := by simp only [List.length_cons, List.length_nil, Nat.reduceAdd]; rfl))
        refine A2 8 rfl (sto ti67 ?_); refine a_end ?_; refine seq_back ?_; refine back_c (()) rfl ?_ ([0, 1, 3]) ?_
        · trivial
        · refine mo ?_ (sly (sly (sly slz)))
          repeat (first | exact boz | refine boc ?_)
      · skip
        refine A4 (T := fun _ => False) 7 rfl (alc ti67 ?_ (hl := by simp only [List.length_cons, List.length_nil, Nat.reduceAdd]; rfl)); refine A2 5 rfl (op_lookup1 mt128 rfl rfl rfl rfl rfl rfl ?_); refine A1 6 rfl (bld ti67 ⟨_, rfl, ?_⟩)
        refine A2 8 rfl (sto ti67 ?_); refine a_end ?_; refine seq_back ?_; refine back_c (()) rfl ?_ ([0, 1, 3]) ?_
        · trivial
        · refine mo ?_ (sly (sly (sly slz)))
          repeat (first | exact boz | refine boc ?_)
    · skip
      refine A4 (T := fun _ => False) 7 rfl (alc ti67 ?_ (hl := by simp only [List.length_cons, List.length_nil, Nat.reduceAdd]; rfl)); refine A2 0 rfl (ck ca109 rfl rfl (kinds_spec) [] rfl .nil .nil ?_)
      refine A2 5 rfl (op_lookup1 mt128 rfl rfl rfl rfl rfl rfl ?_); refine A1 6 rfl (bld ti67 ⟨_, rfl, ?_⟩); refine A2 8 rfl (sto ti67 ?_); refine a_end ?_; refine seq_back ?_; refine back_c (()) rfl ?_ ([0, 1, 2]) ?_
      · trivial
      · refine mo ?_ (sly (sly (sly slz)))
        repeat (first | exact boz | refine boc ?_)
  case h2 =>
    rintro _ hcut
    try dsimp only at hcut
    refine kp [3, 2, 0] ?_; refine runs_seq ?_; refine runs_seq ?_
    rw [kindsM_eq, step_kindF]
    have hkl := kindF_le (tokR s q1).1
    generalize hk : kindF (tokR s q1).1 = k at hkl ⊢
    refine runs_region ?_; refine o1 (fdb ti67 ?_); refine o1 (ldb ti3 ?_); refine o1 (ieq ?_); refine nx ?_; refine cd (fun h3 => ?_) (fun h3 => ?_)
    · (try simp only [nrm, Int.reduceEq, Int.reduceNe, Int.reduceLT, Int.reduceLE] at h3)
      refine runs_region ?_; refine o1 (mv ?_); refine oc (op_callo ca104 rfl rfl rfl rfl (sfail_spec s (stepAt s q1) (stepTok s q1) (tokR s q1).2.1) [0] (boc .nil) rfl rfl rfl rfl (fir .nil) (fun s ob' hq => ?_) (fun s ob' hq => ?_))
      · cases hq.1
      obtain ⟨hq1, rfl⟩ := hq; cases hq1; refine ⟨_, _, _, _, _, rfl, rfl, rfl, rfl, rfl, ?_⟩; refine leave_d ([0]) ([.dead]) rfl rfl rfl (by repeat (first | exact boz | refine bod ?_)) ?_
      exact DrQ.bad (a := (tokR s q1).2.1) (by rw [declR_none c1 (by show kindF (tokR s q1).1 = 0; omega)]; rfl) ⟨rfl, rfl⟩
    (try simp only [nrm, Int.reduceEq, Int.reduceNe, Int.reduceLT, Int.reduceLE] at h3); refine runs_skip ?_; refine seq_normal ?_; refine runs_seq ?_
    have hk0 : ¬ k = 0 := (by omega)
    have hkk : ¬ kindF (tokR s (RS.mk q1 none).p).1 = 0 := (by show ¬ kindF (tokR s q1).1 = 0; omega)
    have c2 := nextR_eq (kindF_ne (s := s) (p := q1) hkk)
    have e2 := (stepAt_le e1).2
    refine runs_region ?_; refine o1 (mv ?_); refine oc (ck ca101 rfl rfl (step_spec s hs (stepAt s q1) e2 (stepTok s q1) (tokR s q1).2.1) [0] rfl (boc .nil) (fir .nil) ?_); refine nx ?_; refine runs_seq ?_; refine kp [3, 2, 0] ?_
    generalize hq2 : stepAt s q1 = q2 at c2 e2 ⊢
    have e3 := (stepAt_le e2).2
    refine runs_region ?_; refine o1 (mv ?_); refine oc (op_callo ca107 rfl rfl rfl rfl (sname_spec s hs (stepAt s q2) e3 (stepTok s q2) (tokR s q2).2.1) [0] (boc .nil) rfl rfl rfl rfl (fir .nil) (fun s ob' hq => ?_) (fun s ob' hq => ?_))
    rotate_left
    · rcases hq with ⟨_, hq1, _⟩ | ⟨hnm, hq1, rfl⟩
      · cases hq1
      cases hq1; refine ⟨_, _, _, _, _, rfl, rfl, rfl, rfl, rfl, ?_⟩; refine leave_d ([0]) ([.dead]) rfl rfl rfl (by repeat (first | exact boz | refine bod ?_)) ?_
      exact DrQ.bad (decl_name c1 hkk (by rw [c2]; exact name_no (by rw [← step_isName]; exact hnm))) ⟨rfl, rfl⟩
    rcases hq with ⟨hnm, hq1, rfl⟩ | ⟨_, hq1, _⟩
    rotate_left
    · cases hq1
    cases hq1
    have hnm2 : isNameB (tokR s q2).1 = true := (by rw [← step_isName]; exact hnm)
    have hnt : (tokR s q2).1 = stepTok s q2 := (step_tok (by intro e; rw [e] at hnm2; simp [isNameB] at hnm2)).1.symm
    have c3 : nameR s (nextR s ⟨q1, none⟩).2 = (stepTok s q2, ⟨stepAt s q2, none⟩) := (by rw [c2, name_yes hnm2, hnt])
    generalize stepTok s q2 = nm at c3 ⊢
    generalize stepAt s q2 = q3 at c3 e3 ⊢
    have e4 := (stepAt_le e3).2
    refine ⟨_, _, _, _, _, rfl, rfl, rfl, rfl, rfl, ?_⟩; refine o1 (fdb ti67 ?_); refine oc (sto ti9 ?_); refine nx ?_; refine sr ?_; refine o1 (mv ?_)
    refine oc (op_callo ca105 rfl rfl rfl rfl (stake_spec s hs (stepAt s q3) e4 (stepTok s q3) ⟨#[40]⟩ (tokR s q3).2.1) [0] (boc .nil) rfl rfl rfl rfl (fir (fir .nil)) (fun s ob' hq => ?_) (fun s ob' hq => ?_))
    rotate_left
    · rcases hq with ⟨_, hq1, _⟩ | ⟨htk, hq1, rfl⟩
      · cases hq1
      cases hq1; refine ⟨_, _, _, _, _, rfl, rfl, rfl, rfl, rfl, ?_⟩; refine leave_d ([0]) ([.dead]) rfl rfl rfl (by repeat (first | exact boz | refine bod ?_)) ?_
      exact DrQ.bad (decl_open c1 hkk (by rw [c3]; exact takeR_no (fun e => htk ((step_is (by decide) (by decide)).2 e)))) ⟨rfl, rfl⟩
    rcases hq with ⟨htk, hq1, rfl⟩ | ⟨_, hq1, _⟩
    rotate_left
    · cases hq1
    cases hq1
    have c4 : takeR s ⟨#[40]⟩ (nameR s (nextR s ⟨q1, none⟩).2).2 = ⟨stepAt s q3, none⟩ := (by rw [c3]; exact takeR_yes (by decide) ((step_is (by decide) (by decide)).1 htk))
    generalize stepAt s q3 = q4 at c4 e4 ⊢
    unfold scA scO
    refine ⟨_, _, _, _, _, rfl, rfl, rfl, rfl, rfl, ?_⟩; refine nx ?_; refine runs_seq ?_; refine runs_block ?_; refine kp [3, 2, 0] ?_; refine runs_nilrow 9 1 rfl ?_
    apply runs_loop_o (ι := Nat × List ByteArray × Nat) (fun ⟨m, acc, q⟩ => []) (fun ⟨m, acc, q⟩ => [scA s q, .cells [.d (.v (.int .i64 0)), .d (.v (.string .empty)), .d (.v (.slice none 0 0)), .d (.v (.int .i64 0)), .d (.v (.int .i64 0)), .d (.v (.string .empty)), .d (.v (.slice none 0 0)), .d (.v (.slice none 0 0)), .d (.v (.int .i64 0)), .d (.v (.int .i64 0)), .d (.v (.string .empty)), .d (.v (.slice none 0 0)), .d (.v (.slice none 0 0)), .d (.v (.int .i64 0)), .d (.v (.slice none 0 0))] 67, .cells [.d (.v (.int .i64 k)), .d (.v (.string nm)), .own 3 1 (strs acc), .d (.v (.int .i64 0)), .d (.v (.int .i64 0)), .d (.v (.string .empty)), .d (.v (.slice none 0 0)), .d (.v (.slice none 0 0)), .d (.v (.int .i64 0)), .d (.v (.int .i64 0)), .d (.v (.string .empty)), .d (.v (.slice none 0 0)), .d (.v (.slice none 0 0)), .d (.v (.int .i64 0)), .d (.v (.slice none 0 0))] 67, .row 9 1]) [3, 2, 0] (fun ⟨m, acc, q⟩ => q ≤ s.size ∧ acc.length + m = s.size + 2 ∧ s.size - q < m ∧ namesR (s.size + 2) s ⟨q4, none⟩ = (acc ++ (namesR m s ⟨q, none⟩).1, (namesR m s ⟨q, none⟩).2)) (fun ⟨m, acc, q⟩ => m) ((s.size + 2, [], q4)) ([0, 1, 2, 3])
    case hk => exact rfl
    case hI =>
      exact ⟨e4, by simp, by omega, rfl⟩
    case hm =>
      refine mo ?_ (sly (sly (sly slz)))
      repeat (first | exact boz | exact fiz | refine boc ?_ | refine bon ?_ | refine boe ?_ ?_ | refine fir ?_ | refine .cons (.nil rfl) ?_)
    case h =>
      rintro ⟨m, acc, q⟩ hinv
      try dsimp only at hinv
      refine kp [3, 2, 0] ?_; refine runs_seq ?_; refine sr ?_; refine o1 (mv ?_); refine o1 (ncb ?_); refine o1 (fdb ti105 ?_); refine o1 (ldb ti9 ?_); refine o1 (sne ?_); refine nx ?_; refine cd (fun h8 => ?_) (fun h8 => ?_)
      · (try simp only [nrm, Int.reduceEq, Int.reduceNe, Int.reduceLT, Int.reduceLE] at h8)
        refine runs_skip ?_; refine seq_normal ?_; refine runs_block ?_; refine kp [3, 2, 0] ?_
        have hm1 := hinv.2.2.1
        have hpk : ¬ peekR s ⟨q, none⟩ = ⟨#[41]⟩ := fun e => h8 (peek_step.1 e)
        have hln := strs_len acc
        refine a_start ?_ (hm := by exact mixed); refine A1 0 rfl (fdb ti67 ⟨_, rfl, ?_⟩); refine A1 1 rfl (ldb ti42 ⟨_, rfl, ?_⟩); refine A1 2 rfl (mv ⟨_, rfl, ?_⟩)
        refine A2 3 rfl (op_callo ca107 rfl rfl rfl rfl (sname_spec s hs (stepAt s q) (stepAt_le hinv.1).2 (stepTok s q) (tokR s q).2.1) [0] (boc .nil) rfl rfl rfl rfl (fir .nil) (fun s ob' hq => ?_) (fun s ob' hq => ?_))
        rotate_left
        · rcases hq with ⟨_, hq1, _⟩ | ⟨hnm, hq1, rfl⟩
          · cases hq1
          cases hq1; refine ⟨_, _, _, _, _, rfl, rfl, rfl, rfl, rfl, ?_⟩; refine leave_d ([0]) ([.dead]) rfl rfl rfl (by repeat (first | exact boz | refine bod ?_)) ?_
          exact DrQ.bad (decl_names c1 hkk (by rw [c4]; exact names_bad hinv.2.2.2 (by omega) ⟨rfl, hpk⟩ (name_no (by rw [← step_isName]; exact hnm)))) ⟨rfl, rfl⟩
        rcases hq with ⟨hnm, hq1, rfl⟩ | ⟨_, hq1, _⟩
        rotate_left
        · cases hq1
        cases hq1
        have hnm2 : isNameB (tokR s q).1 = true := (by rw [← step_isName]; exact hnm)
        have hnt : (tokR s q).1 = stepTok s q := (step_tok (by intro e; rw [e] at hnm2; simp [isNameB] at hnm2)).1.symm
        refine ⟨_, _, _, _, _, rfl, rfl, rfl, rfl, rfl, ?_⟩
        refine A2 (T := fun _ => False) 4 rfl (op_lit sl42 [.tmp 35] ti9 rfl rfl rfl rfl rfl rfl rfl (by decide) (by decide) (by decide) (by simp only [List.length_cons, List.length_nil, Nat.reduceAdd]; rfl) rfl ?_)
        refine A2 5 rfl (op_append sl42 rfl rfl rfl rfl rfl rfl rfl (.inl rfl) (by decide) (by simp) (by first | decide | (simp only [maxLen, List.length_cons, List.length_nil, List.length_append, List.length_map]; omega) | omega) rfl rfl rfl ?_)
        refine A1 6 rfl (fdb ti67 ⟨_, rfl, ?_⟩); refine A2 7 rfl (sto ti42 ?_); refine a_end ?_; refine inb_normal ?_; refine seq_back ?_
        rw [strs_app, ← hnt]
        refine back_c ((m - 1, acc ++ [(tokR s q).1], stepAt s q)) rfl ?_ ([0, 1, 2, 3]) ?_
        · exact ⟨names_stepN hinv hpk hnm2, show m - 1 < m by omega⟩
        · refine mo ?_ (sly (sly (sly slz)))
          repeat (first | exact boz | refine boc ?_ | refine bor ?_)
      (try simp only [nrm, Int.reduceEq, Int.reduceNe, Int.reduceLT, Int.reduceLE] at h8); refine runs_exit ?_; refine seq_exit ?_; refine seq_exit ?_; refine inb_exit ?_; refine seq_normal ?_; refine runs_seq ?_; refine kp [3, 2, 0] ?_
      have e5 : namesR (s.size + 2) s (takeR s ⟨#[40]⟩ (nameR s (nextR s ⟨q1, none⟩).2).2) = (acc, ⟨q, none⟩) := (by rw [c4, hinv.2.2.2, names_stop (by rintro ⟨_, hb⟩; exact hb (peek_step.2 h8)), List.append_nil])
      have c5 := declHead_eq (k := k) (nm := nm) c1 hk hk0 (by rw [c3]) e5
      rw [takeR_yes (by decide) ((step_is (by decide) (by decide)).1 h8)] at c5
      have e6 := (stepAt_le hinv.1).2
      refine runs_region ?_; refine o1 (mv ?_); refine oc (ck ca101 rfl rfl (step_spec s hs (stepAt s q) e6 (stepTok s q) (tokR s q).2.1) [0] rfl (boc .nil) (fir .nil) ?_); refine nx ?_; refine runs_seq ?_; refine runs_seq ?_
      generalize stepAt s q = q6 at c5 e6 ⊢
      refine runs_region ?_; refine o1 (fdb ti67 ?_); refine o1 (ldb ti3 ?_); refine o1 (ieq ?_); refine nx ?_; refine kp [43, 3, 2, 0] ?_
      apply runs_cut_o (ι := Int × Nat) (fun ⟨a, q7⟩ => []) (fun ⟨a, q7⟩ => [scA s q7, .cells [.d (.v (.int .i64 0)), .d (.v (.string .empty)), .d (.v (.slice none 0 0)), .d (.v (.int .i64 0)), .d (.v (.int .i64 0)), .d (.v (.string .empty)), .d (.v (.slice none 0 0)), .d (.v (.slice none 0 0)), .d (.v (.int .i64 0)), .d (.v (.int .i64 0)), .d (.v (.string .empty)), .d (.v (.slice none 0 0)), .d (.v (.slice none 0 0)), .d (.v (.int .i64 0)), .d (.v (.slice none 0 0))] 67, .cells [.d (.v (.int .i64 k)), .d (.v (.string nm)), .own 3 1 (strs acc), .d (.v (.int .i64 0)), .d (.v (.int .i64 0)), .d (.v (.string .empty)), .d (.v (.slice none 0 0)), .d (.v (.slice none 0 0)), .d (.v (.int .i64 0)), .d (.v (.int .i64 0)), .d (.v (.string .empty)), .d (.v (.slice none 0 0)), .d (.v (.slice none 0 0)), .d (.v (.int .i64 a)), .d (.v (.slice none 0 0))] 67, .row 9 1]) [3, 2, 0] (fun ⟨a, q7⟩ => arityR s k ⟨q6, none⟩ = (a, ⟨q7, none⟩) ∧ ¬ (k = 3 ∧ ¬ arityB (tokR s (RS.mk q6 none).p)) ∧ q7 ≤ s.size)
      case hk => exact rfl
      case h1 =>
        refine cdf (fun h11 => ?_) (fun h11 => ?_)
        · (try simp only [nrm, Int.reduceEq, Int.reduceNe, Int.reduceLT, Int.reduceLE] at h11)
          refine runs_skip ?_; refine seq_back ?_; refine back_c ((0, q6)) rfl ?_ ([0, 1, 2, 3]) ?_
          · exact ⟨(by unfold arityR; rw [if_neg (by omega)]), fun h => (by omega), e6⟩
          · refine mo ?_ (sly (sly (sly slz)))
            repeat (first | exact boz | refine boc ?_ | refine bor ?_)
        (try simp only [nrm, Int.reduceEq, Int.reduceNe, Int.reduceLT, Int.reduceLE] at h11); refine sr ?_; refine o1 (mv ?_); refine o1 (ncb ?_); refine o1 (fdb ti105 ?_); refine o1 (ldb ti9 ?_)
        refine oc (T := fun _ => False) (op_call ca103 rfl rfl rfl rfl (atoiAny_spec s q6 e6 hs e hg he) (fir .nil) (fun d hd => ?_)); obtain ⟨n, b, rfl, hn0, hab⟩ := hd; refine o1 (mv ?_); refine o1 (ex2 ?_); refine o1 (ex2 ?_); refine o1 (asg ?_)
        refine o1 (asg ?_); refine nx ?_; refine runs_seq ?_; refine kp [5, 4, 3, 2, 0] ?_; refine sr ?_; refine o1 (mv ?_); refine o1 (fl_errN ii54 rfl rfl ?_); refine o1 (mv ?_)
        apply ops_or (yt := 56) (d := 54) 2 rfl rfl rfl (.none rfl) rfl rfl
        case h1 =>
          intro hb4 hK
          have hc := hb4; (try simp only [nrm, Int.reduceEq, Int.reduceNe, Int.reduceLT, Int.reduceLE] at hc)
          refine gye ?_ (hbw := by exact hb4); refine o1 (mv ?_); refine gye ?_ (hbw := by exact hb4); refine o1 (igt ?_); exact hK [_, _] rfl rfl
        case h2 =>
          intro hb4 hK; refine gno ?_ (hbw := by exact hb4); refine gno ?_ (hbw := by exact hb4); exact hK [_, _] rfl
        refine nx ?_; refine cd (fun h13 => ?_) (fun h13 => ?_)
        · (try simp only [nrm, Int.reduceEq, Int.reduceNe, Int.reduceLT, Int.reduceLE] at h13)
          refine kp [4, 3, 2, 0] ?_
          have hnb : ¬ arityB (tokR s (RS.mk q6 none).p) := (by rcases hab with ⟨x1, x2, _⟩ | ⟨_, x⟩; (exfalso; rcases h13 with h | h; (rw [x1] at h; cases h); omega); exact x)
          obtain rfl : k = 3 := (by omega); refine runs_region ?_; refine o1 (mv ?_)
          refine oc (op_callo ca104 rfl rfl rfl rfl (sfail_spec s (stepAt s q6) (stepTok s q6) (tokR s q6).2.1) [0] (boc .nil) rfl rfl rfl rfl (fir .nil) (fun s ob' hq => ?_) (fun s ob' hq => ?_))
          · cases hq.1
          obtain ⟨hq1, rfl⟩ := hq; cases hq1; refine ⟨_, _, _, _, _, rfl, rfl, rfl, rfl, rfl, ?_⟩; refine leave_d ([0]) ([.dead]) rfl rfl rfl (by repeat (first | exact boz | refine bod ?_)) ?_
          exact DrQ.bad (a := (tokR s q6).2.1) (by rw [declR_bad c5 hnb]; rfl) ⟨rfl, rfl⟩
        (try simp only [nrm, Int.reduceEq, Int.reduceNe, Int.reduceLT, Int.reduceLE] at h13); refine runs_skip ?_; refine seq_normal ?_; refine runs_seq ?_; refine kp [4, 3, 2, 0] ?_
        have hab2 : arityB (tokR s q6) ∧ n = numR (tokR s q6).1 (tokR s q6).1.size := (by rcases hab with ⟨_, _, x3, x4⟩ | ⟨x1, _⟩; exact ⟨x3, x4⟩; (exfalso; rcases x1 with h | h; (rw [h13.1] at h; cases h); omega))
        refine runs_region ?_; refine o1 (mv ?_); refine o1 (fdb ti67 ?_); refine oc (sto ti3 ?_); refine nx ?_; refine runs_region ?_; refine o1 (mv ?_)
        refine oc (ck ca101 rfl rfl (step_spec s hs (stepAt s q6) (stepAt_le e6).2 (stepTok s q6) (tokR s q6).2.1) [0] rfl (boc .nil) (fir .nil) ?_); refine ops_nil ?_; refine seq_back ?_; refine back_c ((n, stepAt s q6)) rfl ?_ ([0, 1, 2, 3]) ?_
        · exact ⟨(by unfold arityR; rw [if_pos (by omega), nextR_eq hab2.1.1, hab2.2]), fun h => h.2 hab2.1, (stepAt_le e6).2⟩
        · refine mo ?_ (sly (sly (sly slz)))
          repeat (first | exact boz | refine boc ?_ | refine bor ?_)
      case h2 =>
        rintro ⟨a, q7⟩ hcut
        try dsimp only at hcut
        refine kp [3, 2, 0] ?_; refine runs_seq ?_; obtain ⟨c6, c7, e7⟩ := hcut
        have hlv := sread_spec (g := g) s hs (s.size + 1) q7 e7 (by omega)
        have e8 := (termR_le (s := s) (s.size + 1) ⟨q7, none⟩ e7).2
        rcases hla : termR (s.size + 1) s ⟨q7, none⟩ with ⟨⟨k1, n1, s1, l1, a1⟩, ⟨q8, f8⟩⟩
        rw [hla] at hlv e8
        simp only at e8
        refine runs_region ?_; refine o1 (mv ?_); refine oc (op_callo ca73 rfl rfl rfl rfl (hlv) [0] (boc .nil) rfl rfl rfl rfl (fir .nil) (fun s ob' hq => ?_) (fun s ob' hq => ?_))
        rotate_left
        · obtain ⟨a', hfa, rfl, rfl⟩ := hq.pan
          refine ⟨_, _, _, _, _, rfl, rfl, rfl, rfl, rfl, ?_⟩; refine leave_d ([0]) ([.dead]) rfl rfl rfl (by repeat (first | exact boz | refine bod ?_)) ?_; exact DrQ.bad (decl_term c5 hk0 c7 c6 (by rw [hla]; exact hfa)) ⟨rfl, rfl⟩
        obtain ⟨hfa, rfl, rfl⟩ := hq.ret; simp only at hfa; subst hfa; refine ⟨_, _, _, _, _, rfl, rfl, rfl, rfl, rfl, ?_⟩; refine o1 (fdb ti67 ?_); refine oc (sto ti31 ?_); refine nx ?_; refine runs_seq ?_; refine runs_seq ?_
        refine runs_nilrow 111 6 rfl ?_; refine runs_region ?_; refine o1 (fdb ti67 ?_); refine o1 (ldb ti3 ?_); refine nx ?_; refine kp [68, 3, 2, 0] ?_
        apply runs_cut_o (ι := Int × Int × ByteArray × List Lvl × List Trm × List (ByteArray × Trm) × Nat) (fun ⟨k2, n2, s2, l2, a2, cs, q10⟩ => []) (fun ⟨k2, n2, s2, l2, a2, cs, q10⟩ => [scA s q10, .cells [.d (.v (.int .i64 0)), .d (.v (.string .empty)), .d (.v (.slice none 0 0)), .d (.v (.int .i64 0)), .d (.v (.int .i64 0)), .d (.v (.string .empty)), .d (.v (.slice none 0 0)), .d (.v (.slice none 0 0)), .d (.v (.int .i64 0)), .d (.v (.int .i64 0)), .d (.v (.string .empty)), .d (.v (.slice none 0 0)), .d (.v (.slice none 0 0)), .d (.v (.int .i64 0)), .d (.v (.slice none 0 0))] 67, .cells [.d (.v (.int .i64 k)), .d (.v (.string nm)), .own 3 1 (strs acc), .d (.v (.int .i64 k1)), .d (.v (.int .i64 n1)), .d (.v (.string s1)), .d (.sl 3 (lvls l1)), .d (.sl 5 (trms a1)), .d (.v (.int .i64 k2)), .d (.v (.int .i64 n2)), .d (.v (.string s2)), .d (.sl 3 (lvls l2)), .d (.sl 5 (trms a2)), .d (.v (.int .i64 a)), .own 4 6 (ctrs cs)] 67, .row 9 1, .row 111 6]) [3, 2, 0] (fun ⟨k2, n2, s2, l2, a2, cs, q10⟩ => ∃ r9, valR s k ⟨q8, none⟩ = (.mk k2 n2 s2 l2 a2, r9) ∧ consR s k r9 = (cs, ⟨q10, none⟩) ∧ q10 ≤ s.size)
        case hk => exact rfl
        case h1 =>
          refine runs_block ?_; refine sr ?_; refine o1 (ieq ?_); refine o1 (asg ?_); refine nx ?_; refine cd (fun h19 => ?_) (fun h19 => ?_)
          · (try simp only [nrm, Int.reduceEq, Int.reduceNe, Int.reduceLT, Int.reduceLE] at h19)
            have hlw := sread_spec (g := g) s hs (s.size + 1) q8 e8 (by omega)
            have e9 := (termR_le (s := s) (s.size + 1) ⟨q8, none⟩ e8).2
            rcases hlb : termR (s.size + 1) s ⟨q8, none⟩ with ⟨⟨k2, n2, s2, l2, a2⟩, ⟨q9, f9⟩⟩
            rw [hlb] at hlw e9
            simp only at e9
            refine runs_region ?_; refine o1 (mv ?_); refine oc (op_callo ca73 rfl rfl rfl rfl (hlw) [0] (boc .nil) rfl rfl rfl rfl (fir .nil) (fun s ob' hq => ?_) (fun s ob' hq => ?_))
            rotate_left
            · obtain ⟨a', hfb, rfl, rfl⟩ := hq.pan
              refine ⟨_, _, _, _, _, rfl, rfl, rfl, rfl, rfl, ?_⟩; refine leave_d ([0]) ([.dead]) rfl rfl rfl (by repeat (first | exact boz | refine bod ?_)) ?_
              exact DrQ.bad (decl_val c5 hk0 c7 c6 hla (by unfold valR; rw [if_pos (by omega), hlb]; exact hfb)) ⟨rfl, rfl⟩
            obtain ⟨hfb, rfl, rfl⟩ := hq.ret; simp only at hfb; subst hfb; refine ⟨_, _, _, _, _, rfl, rfl, rfl, rfl, rfl, ?_⟩; refine o1 (fdb ti67 ?_); refine oc (sto ti31 ?_); refine ops_nil ?_; refine inb_normal ?_; refine seq_back ?_
            refine back_c ((k2, n2, s2, l2, a2, [], q9)) rfl ?_ ([0, 1, 2, 3, 4]) ?_
            · exact ⟨⟨q9, none⟩, (by unfold valR; rw [if_pos (by omega), hlb]), (by unfold consR; rw [if_neg (by omega)]), e9⟩
            · refine mo ?_ (sly (sly (sly slz)))
              repeat (first | exact boz | exact fiz | refine boc ?_ | refine bor ?_ | refine bon ?_ | refine boe ?_ ?_ | refine fir ?_ | refine .cons (.nil rfl) ?_)
          (try simp only [nrm, Int.reduceEq, Int.reduceNe, Int.reduceLT, Int.reduceLE] at h19); refine sr ?_; refine o1 (ieq ?_); refine o1 (asg ?_); refine nx ?_; refine cdf (fun h21 => ?_) (fun h21 => ?_)
          · (try simp only [nrm, Int.reduceEq, Int.reduceNe, Int.reduceLT, Int.reduceLE] at h21)
            refine runs_skip ?_; refine inb_normal ?_; refine seq_back ?_; refine back_c ((0, 0, .empty, [], [], [], q8)) rfl ?_ ([0, 1, 2, 3, 4]) ?_
            · exact ⟨⟨q8, none⟩, (by unfold valR; rw [if_neg (by omega)]; rfl), (by unfold consR; rw [if_neg (by omega)]), e8⟩
            · refine mo ?_ (sly (sly (sly slz)))
              repeat (first | exact boz | exact fiz | refine boc ?_ | refine bor ?_ | refine bon ?_ | refine boe ?_ ?_ | refine fir ?_ | refine fni ?_ | refine .cons (.nil rfl) ?_)
          (try simp only [nrm, Int.reduceEq, Int.reduceNe, Int.reduceLT, Int.reduceLE] at h21); refine runs_block ?_; refine kp [3, 2, 0] ?_
          apply runs_loop_o (ι := Nat × List (ByteArray × Trm) × Nat) (fun ⟨m, cs, q⟩ => []) (fun ⟨m, cs, q⟩ => [scA s q, .cells [.d (.v (.int .i64 0)), .d (.v (.string .empty)), .d (.v (.slice none 0 0)), .d (.v (.int .i64 0)), .d (.v (.int .i64 0)), .d (.v (.string .empty)), .d (.v (.slice none 0 0)), .d (.v (.slice none 0 0)), .d (.v (.int .i64 0)), .d (.v (.int .i64 0)), .d (.v (.string .empty)), .d (.v (.slice none 0 0)), .d (.v (.slice none 0 0)), .d (.v (.int .i64 0)), .d (.v (.slice none 0 0))] 67, .cells [.d (.v (.int .i64 k)), .d (.v (.string nm)), .own 3 1 (strs acc), .d (.v (.int .i64 k1)), .d (.v (.int .i64 n1)), .d (.v (.string s1)), .d (.sl 3 (lvls l1)), .d (.sl 5 (trms a1)), .d (.v (.int .i64 0)), .d (.v (.int .i64 0)), .d (.v (.string .empty)), .d (.v (.slice none 0 0)), .d (.v (.slice none 0 0)), .d (.v (.int .i64 a)), .own 4 6 (ctrs cs)] 67, .row 9 1, .row 111 6]) [3, 2, 0] (fun ⟨m, cs, q⟩ => q ≤ s.size ∧ cs.length + m = s.size + 2 ∧ s.size - q < m ∧ ctorsR (s.size + 2) s ⟨q8, none⟩ = (cs ++ (ctorsR m s ⟨q, none⟩).1, (ctorsR m s ⟨q, none⟩).2)) (fun ⟨m, cs, q⟩ => m) ((s.size + 2, [], q8)) ([0, 1, 2, 3, 4])
          case hk => exact rfl
          case hI =>
            exact ⟨e8, by simp, by omega, rfl⟩
          case hm =>
            refine mo ?_ (sly (sly (sly slz)))
            repeat (first | exact boz | exact fiz | refine boc ?_ | refine bor ?_ | refine bon ?_ | refine boe ?_ ?_ | refine fir ?_ | refine .cons (.nil rfl) ?_)
          case h =>
            rintro ⟨m, cs, q⟩ hinv
            try dsimp only at hinv
            refine kp [3, 2, 0] ?_; refine runs_seq ?_; refine sr ?_; refine o1 (mv ?_); refine o1 (ncb ?_); refine o1 (fdb ti105 ?_); refine o1 (ldb ti9 ?_); refine o1 (seq1 ?_); refine nx ?_; refine cdf (fun h22 => ?_) (fun h22 => ?_)
            · (try simp only [nrm, Int.reduceEq, Int.reduceNe, Int.reduceLT, Int.reduceLE] at h22)
              refine runs_exit ?_; refine seq_exit ?_; refine seq_exit ?_; refine inb_exit ?_; refine inb_normal ?_; refine seq_back ?_; refine back_c ((0, 0, .empty, [], [], cs, q)) rfl ?_ ([0, 1, 2, 3, 4]) ?_
              · exact ⟨⟨q8, none⟩, (by unfold valR; rw [if_neg (by omega)]; rfl), (by unfold consR; rw [if_pos (by omega), hinv.2.2.2, ctors_stop (by rintro ⟨_, hb⟩; exact h22 (peek_step40.1 hb)), List.append_nil]), hinv.1⟩
              · refine mo ?_ (sly (sly (sly slz)))
                repeat (first | exact boz | exact fiz | refine boc ?_ | refine bor ?_ | refine boe ?_ ?_ | refine fir ?_ | refine fni ?_)
            (try simp only [nrm, Int.reduceEq, Int.reduceNe, Int.reduceLT, Int.reduceLE] at h22); refine runs_skip ?_; refine seq_normal ?_; refine runs_block ?_; refine runs_seq ?_; refine kp [3, 2, 0] ?_
            have hm1 := hinv.2.2.1
            have hpk : peekR s ⟨q, none⟩ = ⟨#[40]⟩ := peek_step40.2 h22
            have t1 : takeR s ⟨#[40]⟩ ⟨q, none⟩ = ⟨stepAt s q, none⟩ := takeR_yes (by decide) ((step_is (by decide) (by decide)).1 h22)
            have v1 : valR s k ⟨q8, none⟩ = (zeroT, ⟨q8, none⟩) := (by unfold valR; rw [if_neg (by omega)])
            have f1 := (stepAt_le hinv.1).2
            have hcf : ∀ x : Nat, (ctorR s ⟨q, none⟩).2.f = some x → (declR s ⟨p, none⟩).2.f = some x := fun x hx => decl_cons c5 hk0 c7 c6 hla v1 (by unfold consR; rw [if_pos (by omega)]; exact ctors_bad hinv.2.2.2 (by omega) ⟨rfl, hpk⟩ hx)
            refine runs_region ?_; refine o1 (mv ?_); refine oc (ck ca101 rfl rfl (step_spec s hs (stepAt s q) f1 (stepTok s q) (tokR s q).2.1) [0] rfl (boc .nil) (fir .nil) ?_); refine nx ?_; refine runs_seq ?_
            generalize stepAt s q = d1 at t1 f1 ⊢
            have f2 := (stepAt_le f1).2
            refine runs_region ?_; refine o1 (mv ?_)
            refine oc (op_callo ca105 rfl rfl rfl rfl (stake_spec s hs (stepAt s d1) f2 (stepTok s d1) ctorW (tokR s d1).2.1) [0] (boc .nil) rfl rfl rfl rfl (fir (fir .nil)) (fun s ob' hq => ?_) (fun s ob' hq => ?_))
            rotate_left
            · rcases hq with ⟨_, hq1, _⟩ | ⟨htk, hq1, rfl⟩
              · cases hq1
              cases hq1; refine ⟨_, _, _, _, _, rfl, rfl, rfl, rfl, rfl, ?_⟩; refine leave_d ([0]) ([.dead]) rfl rfl rfl (by repeat (first | exact boz | refine bod ?_)) ?_
              exact DrQ.bad (hcf _ (take_some (term_some (name_some (by rw [t1]; exact takeR_no (fun e => htk ((step_is (by decide) (by decide)).2 e))))))) ⟨rfl, rfl⟩
            rcases hq with ⟨htk, hq1, rfl⟩ | ⟨_, hq1, _⟩
            rotate_left
            · cases hq1
            cases hq1
            have t2 : takeR s ctorW ⟨d1, none⟩ = ⟨stepAt s d1, none⟩ := takeR_yes (by decide) ((step_is (by decide) (by decide)).1 htk)
            generalize stepAt s d1 = d2 at t2 f2 ⊢
            have f3 := (stepAt_le f2).2
            have hlnc := ctrs_len cs
            refine ⟨_, _, _, _, _, rfl, rfl, rfl, rfl, rfl, ?_⟩; refine nx ?_; refine runs_seq ?_; refine kp [3, 2, 0] ?_; refine a_start ?_ (hm := by exact mixed); refine A1 0 rfl (fdb ti67 ⟨_, rfl, ?_⟩); refine A1 1 rfl (ldb ti65 ⟨_, rfl, ?_⟩)
            refine A1 2 rfl (mv ⟨_, rfl, ?_⟩); refine A1 4 rfl (mv ⟨_, rfl, ?_⟩)
            refine A2 3 rfl (op_callo ca107 rfl rfl rfl rfl (sname_spec s hs (stepAt s d2) f3 (stepTok s d2) (tokR s d2).2.1) [0] (boc .nil) rfl rfl rfl rfl (fir .nil) (fun s ob' hq => ?_) (fun s ob' hq => ?_))
            rotate_left
            · rcases hq with ⟨_, hq1, _⟩ | ⟨hnm, hq1, rfl⟩
              · cases hq1
              cases hq1; refine ⟨_, _, _, _, _, rfl, rfl, rfl, rfl, rfl, ?_⟩; refine leave_d ([0]) ([.dead]) rfl rfl rfl (by repeat (first | exact boz | refine bod ?_)) ?_
              exact DrQ.bad (hcf _ (take_some (term_some (by rw [t1, t2]; exact name_no (by rw [← step_isName]; exact hnm))))) ⟨rfl, rfl⟩
            rcases hq with ⟨hnm, hq1, rfl⟩ | ⟨_, hq1, _⟩
            rotate_left
            · cases hq1
            cases hq1
            have hnm2 : isNameB (tokR s d2).1 = true := (by rw [← step_isName]; exact hnm)
            have hnt : (tokR s d2).1 = stepTok s d2 := (step_tok (by intro e; rw [e] at hnm2; simp [isNameB] at hnm2)).1.symm
            have t3 : nameR s ⟨d2, none⟩ = (stepTok s d2, ⟨stepAt s d2, none⟩) := (by rw [name_yes hnm2, hnt])
            generalize stepTok s d2 = nm3 at t3 ⊢
            generalize stepAt s d2 = d3 at t3 f3 ⊢
            have hlx := sread_spec (g := g) s hs (s.size + 1) d3 f3 (by omega)
            have f4 := (termR_le (s := s) (s.size + 1) ⟨d3, none⟩ f3).2
            rcases hlc : termR (s.size + 1) s ⟨d3, none⟩ with ⟨⟨k3, n3, s3, l3, a3⟩, ⟨d4, fd⟩⟩
            rw [hlc] at hlx f4
            simp only at f4
            refine ⟨_, _, _, _, _, rfl, rfl, rfl, rfl, rfl, ?_⟩; refine A2 5 rfl (op_callo ca73 rfl rfl rfl rfl (hlx) [0] (boc .nil) rfl rfl rfl rfl (fir .nil) (fun s ob' hq => ?_) (fun s ob' hq => ?_))
            rotate_left
            · obtain ⟨a', hfc, rfl, rfl⟩ := hq.pan
              refine ⟨_, _, _, _, _, rfl, rfl, rfl, rfl, rfl, ?_⟩; refine leave_d ([0]) ([.dead]) rfl rfl rfl (by repeat (first | exact boz | refine bod ?_)) ?_; exact DrQ.bad (hcf _ (take_some (by rw [t1, t2, t3, hlc]; exact hfc))) ⟨rfl, rfl⟩
            obtain ⟨hfc, rfl, rfl⟩ := hq.ret; simp only at hfc; subst hfc; have f5 := (stepAt_le f4).2; refine ⟨_, _, _, _, _, rfl, rfl, rfl, rfl, rfl, ?_⟩; refine A1 6 rfl (bld ti111 ⟨_, rfl, ?_⟩)
            refine A2 (T := fun _ => False) 7 rfl (op_lit sl65 [.tmp 91] ti111 rfl rfl rfl rfl rfl rfl rfl (by decide) (by decide) (by decide) (by simp only [List.length_cons, List.length_nil, Nat.reduceAdd]; rfl) rfl ?_)
            refine A2 8 rfl (op_append sl65 rfl rfl rfl rfl rfl rfl rfl (.inl rfl) (by decide) (by simp) (by first | decide | (simp only [maxLen, List.length_cons, List.length_nil, List.length_append, List.length_map]; omega) | omega) rfl rfl rfl ?_)
            refine A1 9 rfl (fdb ti67 ⟨_, rfl, ?_⟩); refine A2 10 rfl (sto ti65 ?_); refine a_end ?_; refine seq_normal ?_; refine kp [3, 2, 0] ?_; refine runs_region ?_; refine o1 (mv ?_)
            refine oc (op_callo ca105 rfl rfl rfl rfl (stake_spec s hs (stepAt s d4) f5 (stepTok s d4) ⟨#[41]⟩ (tokR s d4).2.1) [0] (boc .nil) rfl rfl rfl rfl (fir (fir .nil)) (fun s ob' hq => ?_) (fun s ob' hq => ?_))
            rotate_left
            · rcases hq with ⟨_, hq1, _⟩ | ⟨htk, hq1, rfl⟩
              · cases hq1
              cases hq1; refine ⟨_, _, _, _, _, rfl, rfl, rfl, rfl, rfl, ?_⟩; refine leave_d ([0]) ([.dead]) rfl rfl rfl (by repeat (first | exact boz | refine bod ?_)) ?_
              exact DrQ.bad (hcf _ (by rw [ctorR_eq t1 t2 t3 hlc]; exact takeR_no (fun e => htk ((step_is (by decide) (by decide)).2 e)))) ⟨rfl, rfl⟩
            rcases hq with ⟨htk, hq1, rfl⟩ | ⟨_, hq1, _⟩
            rotate_left
            · cases hq1
            cases hq1
            have t5 : takeR s ⟨#[41]⟩ ⟨d4, none⟩ = ⟨stepAt s d4, none⟩ := takeR_yes (by decide) ((step_is (by decide) (by decide)).1 htk)
            have hlast : ctrs cs ++ [[.v (.string nm3), .v (.int .i64 k3), .v (.int .i64 n3), .v (.string s3), .sl 3 (lvls l3), .sl 5 (trms a3)]] = ctrs (cs ++ [(nm3, .mk k3 n3 s3 l3 a3)]) := (by rw [ctrs_app]; rfl)
            refine ⟨_, _, _, _, _, rfl, rfl, rfl, rfl, rfl, ?_⟩; refine ops_nil ?_; refine inb_normal ?_; refine seq_back ?_
            rw [hlast]
            refine back_c ((m - 1, cs ++ [(nm3, .mk k3 n3 s3 l3 a3)], stepAt s d4)) rfl ?_ ([0, 1, 2, 3, 4]) ?_
            · exact ⟨ctors_stepN hinv hpk (by rw [ctorR_eq t1 t2 t3 hlc, t5]), show m - 1 < m by omega⟩
            · refine mo ?_ (sly (sly (sly slz)))
              repeat (first | exact boz | refine boc ?_ | refine bor ?_)
        case h2 =>
          rintro ⟨k2, n2, s2, l2, a2, cs, q10⟩ hcut
          try dsimp only at hcut
          refine kp [3, 2, 0] ?_; refine runs_seq ?_; obtain ⟨r9, v1, v2, e10⟩ := hcut
          have e11 := (stepAt_le e10).2
          refine runs_region ?_; refine o1 (mv ?_)
          refine oc (op_callo ca105 rfl rfl rfl rfl (stake_spec s hs (stepAt s q10) e11 (stepTok s q10) ⟨#[41]⟩ (tokR s q10).2.1) [0] (boc .nil) rfl rfl rfl rfl (fir (fir .nil)) (fun s ob' hq => ?_) (fun s ob' hq => ?_))
          rotate_left
          · rcases hq with ⟨_, hq1, _⟩ | ⟨htk, hq1, rfl⟩
            · cases hq1
            cases hq1; refine ⟨_, _, _, _, _, rfl, rfl, rfl, rfl, rfl, ?_⟩; refine leave_d ([0]) ([.dead]) rfl rfl rfl (by repeat (first | exact boz | refine bod ?_)) ?_
            exact DrQ.bad (decl_close c5 hk0 c7 c6 hla v1 v2 (takeR_no (fun e => htk ((step_is (by decide) (by decide)).2 e)))) ⟨rfl, rfl⟩
          rcases hq with ⟨htk, hq1, rfl⟩ | ⟨_, hq1, _⟩
          rotate_left
          · cases hq1
          cases hq1
          have c8 : takeR s ⟨#[41]⟩ ⟨q10, none⟩ = ⟨stepAt s q10, none⟩ := takeR_yes (by decide) ((step_is (by decide) (by decide)).1 htk)
          refine ⟨_, _, _, _, _, rfl, rfl, rfl, rfl, rfl, ?_⟩; refine nx ?_; refine sr ?_; refine o1 (ldb ti67 ?_); refine oc (sto ti67 ?_); refine nx ?_; refine runs_ret ?_; refine fin_ret ?_
          refine fin_odl ⟨_, _, rfl, (from_cell rfl rfl ti67 rfl rfl rfl rfl), rfl⟩ rfl ((Dec.mk k nm acc (.mk k1 n1 s1 l1 a1) (.mk k2 n2 s2 l2 a2) a cs).d) (by exact .refl _) ([0]) ([scA s (stepAt s q10)]) rfl rfl rfl ?_ ?_
          · repeat (first | exact boz | refine boc ?_)
          · rw [declR_good c5 hk0 c7 c6 hla v1 v2, c8]; exact DrQ.ok rfl ⟨rfl, rfl⟩
end Go.Proofs.YtneaancanfpdhaaGreatDoor
namespace Go.Proofs.YtneaancanfpdhaaGreatDoor
open Go Go.Vd Go.RowKit
attribute [local irreducible] Runs OpsR OpR FloatR AnyR AnyO
variable {g gl : Nat → List D}

theorem parseAny_good {s : ByteArray} {acc : List Dec} {r : RS} (h : fileR (s.size + 2) s ⟨0, none⟩ = (acc, r)) (hf : r.f = none) : parseAny s = (acc, 0, 0) := by
  unfold parseAny; rw [h]; simp only [hf]
theorem parseAny_bad {s : ByteArray} {acc : List Dec} {r : RS} {a : Nat} (h : fileR (s.size + 2) s ⟨0, none⟩ = (acc, r)) (hf : r.f = some a) : parseAny s = ([], 1, (a : Int)) := by
  unfold parseAny; rw [h]; simp only [hf]
theorem fcode_bad {s : ByteArray} {acc : List Dec} {r : RS} (h : fileR (s.size + 2) s ⟨0, none⟩ = (acc, r)) (hf : ¬ fcode r.f = 0) : parseAny s = ([], fcode r.f, fat r.f) := by
  cases hr : r.f with
  | none => rw [hr] at hf; exact absurd rfl hf
  | some a => rw [parseAny_bad h hr]; rfl

theorem parseAny_spec (s : ByteArray) (hs0 : s.size ≤ 268435456) : TriD Tryz.prog (glT g) 78 [.v (.string s)] (· = .tup [.sl 15 (decs (parseAny s).1), .agg [.v (.int .i64 (parseAny s).2.1), .v (.int .i64 (parseAny s).2.2)]]) := by
  have hs : s.size ≤ 1099511627776 := by omega
  refine triD_of_runs Tryz.func78 rfl Tryz.ntmps78 (rs := [.tmp 2, .cell 3 33]) rfl rfl rfl ?_
  refine sr ?_; refine o1 (asg ?_); refine oc (T := fun _ => False) (alc ti33 ?_ (hl := by simp only [List.length_cons, List.length_nil, Nat.reduceAdd]; rfl)); refine nx ?_; refine sr ?_; refine o1 (mv ?_); refine o1 (bld ti71 ?_)
  refine oc (T := fun _ => False) (bx ti71 ?_ (hl := by simp only [List.length_cons, List.length_nil, Nat.reduceAdd]; rfl)); refine o1 (asg ?_); refine nx ?_; refine kp [4, 3] ?_; refine sr ?_; refine o1 (asg ?_); refine nx ?_
  refine runs_seq ?_; refine runs_block ?_; refine runs_nilrow 67 15 rfl ?_
  apply runs_loop_o (ι := Nat × List Dec × RS) (fun ⟨m, acc, r'⟩ => [(5, .own 2 15 (decs acc))]) (fun ⟨m, acc, r'⟩ => [.cells [.d (.v (.int .i64 0)), .d (.v (.int .i64 0))] 33, rdO s r', .row 67 15]) [4, 3] (fun ⟨m, acc, r'⟩ => r'.p ≤ s.size ∧ acc.length + m = s.size + 2 ∧ (r'.f = none → s.size - r'.p < m) ∧ fileR (s.size + 2) s ⟨0, none⟩ = (acc ++ (fileR m s r').1, (fileR m s r').2)) (fun ⟨m, acc, r'⟩ => m) ((s.size + 2, [], ⟨0, none⟩)) ([0, 1, 2])
  case hk => exact rfl
  case hI =>
    exact ⟨Nat.zero_le _, by simp, fun _ => (show s.size - 0 < s.size + 2 by omega), rfl⟩
  case hm =>
    refine mo ?_ (slx rfl (by exact Fit.nil rfl) (sly (sly slz)))
    repeat (first | exact boz | refine boc ?_ | refine bon ?_)
  case h =>
    rintro ⟨m, acc, r'⟩ hinv
    try dsimp only at hinv
    refine kp [5, 4, 3] ?_; refine runs_seq ?_; refine sr ?_; refine o1 (mv ?_); refine o1 (ncb ?_); refine o1 (fdb ti71 ?_); refine o1 (fdb ti33 ?_); refine o1 (ldb ti3 ?_); refine o1 (ieq ?_); refine nx ?_
    refine cdf (fun h3 => ?_) (fun h3 => ?_)
    · (try simp only [nrm, Int.reduceEq, Int.reduceNe, Int.reduceLT, Int.reduceLE] at h3)
      refine runs_exit ?_; refine seq_exit ?_; refine seq_exit ?_; refine inb_exit ?_; refine seq_normal ?_; refine runs_seq ?_; refine kp [4, 3] ?_; refine a_start ?_ (hm := by exact mixed); refine A1 0 rfl (mv ⟨_, rfl, ?_⟩)
      refine A1 1 rfl (ncb ⟨_, rfl, ?_⟩); refine A1 2 rfl (fdb ti71 ⟨_, rfl, ?_⟩); refine A1 3 rfl (ldb ti33 ⟨_, rfl, ?_⟩); refine A1 4 rfl (asg ⟨_, rfl, ?_⟩); refine A2 5 rfl (sto ti33 ?_); refine a_end ?_; refine seq_normal ?_
      refine runs_ret ?_; refine fin_ret ?_
      refine fin_dl ⟨_, _, rfl, rfl, ⟨_, _, rfl, (from_cell rfl rfl ti33 rfl rfl rfl rfl), rfl⟩⟩ rfl (.tup [.sl 15 (decs []), .agg [.v (.int .i64 (fcode r'.f)), .v (.int .i64 (fat r'.f))]]) (by repeat (first | exact .refl _ | exact .nil | refine .tup ?_ | refine .cons ?_ ?_)) ?_
      rw [fcode_bad (acc := acc) (r := r') (by rw [hinv.2.2.2, file_stop (by rintro ⟨ha, _⟩; exact h3 (fcode_none.2 ha)), List.append_nil]) h3]
    (try simp only [nrm, Int.reduceEq, Int.reduceNe, Int.reduceLT, Int.reduceLE] at h3); refine runs_skip ?_; refine seq_normal ?_; refine runs_block ?_; refine kp [5, 4, 3] ?_; refine sr ?_; refine o1 (mv ?_)
    refine oc (ck ca82 rfl rfl (token_spec s r'.p (fcode r'.f) (fat r'.f) hs hinv.1) [1] rfl (boc .nil) (fir .nil) ?_); refine o1 (mv ?_); refine o1 (ex2 ?_); refine o1 (ex2 ?_); refine o1 (ex2 ?_); refine o1 (asg ?_); refine o1 (asg ?_)
    refine o1 (asg ?_); refine nx ?_; refine runs_seq ?_; refine kp [8, 6, 5, 4, 3] ?_; refine sr ?_; refine o1 (mv ?_); refine o1 (mv ?_)
    apply ops_and (yt := 28) (d := 26) 2 rfl rfl rfl (.none rfl) rfl rfl
    case h1 =>
      intro hb3 hK
      have hc := hb3; (try simp only [nrm, Int.reduceEq, Int.reduceNe, Int.reduceLT, Int.reduceLE] at hc)
      refine gye ?_ (hbw := by exact hb3); refine o1 (mv ?_); refine gye ?_ (hbw := by exact hb3); refine o1 (seq1 ?_); exact hK [_, _] rfl rfl
    case h2 =>
      intro hb3 hK; refine gno ?_ (hbw := by exact hb3); refine gno ?_ (hbw := by exact hb3); exact hK [_, _] rfl
    refine nx ?_; refine cd (fun h5 => ?_) (fun h5 => ?_)
    · (try simp only [nrm, Int.reduceEq, Int.reduceNe, Int.reduceLT, Int.reduceLE] at h5)
      refine kp [5, 3] ?_; refine sr ?_; refine o1 (mv ?_); refine o1 (bld ti33 ?_); refine o1 (asg ?_); refine oc (sto ti33 ?_); refine nx ?_; refine runs_ret ?_; refine seq_ret ?_; refine inb_ret ?_; refine seq_ret ?_; refine inb_ret ?_
      refine seq_ret ?_; refine fin_ret ?_; refine fin_dl ⟨_, _, rfl, rfl, ⟨_, _, rfl, (from_cell rfl rfl ti33 rfl rfl rfl rfl), rfl⟩⟩ rfl (.tup [.sl 15 (decs acc), .agg [.v (.int .i64 0), .v (.int .i64 0)]]) (by exact .refl _) ?_
      rw [parseAny_good (acc := acc) (r := r') (by rw [hinv.2.2.2, file_stop (by rintro ⟨_, hb⟩; exact hb h5), List.append_nil]) (fcode_none.1 h3)]
    (try simp only [nrm, Int.reduceEq, Int.reduceNe, Int.reduceLT, Int.reduceLE] at h5); refine runs_skip ?_; refine seq_normal ?_; refine runs_seq ?_; refine kp [5, 4, 3] ?_
    have hne : ¬ atEnd s r' := (by intro h; rcases h5 with h' | h'; (rw [h.1] at h'; cases h'); exact h' h.2)
    have hm1 := hinv.2.2.1 (fcode_none.1 h3)
    have hln := decs_len acc
    obtain ⟨k, nm, ps, k1, n1, s1, l1, a1, k2, n2, s2, l2, a2, a, cs, hX⟩ := Dec.case (declR s r').1
    have hlast : decs acc ++ [[.v (.int .i64 k), .v (.string nm), .sl 1 (strs ps), .v (.int .i64 k1), .v (.int .i64 n1), .v (.string s1), .sl 3 (lvls l1), .sl 5 (trms a1), .v (.int .i64 k2), .v (.int .i64 n2), .v (.string s2), .sl 3 (lvls l2), .sl 5 (trms a2), .v (.int .i64 a), .sl 6 (ctrs cs)]] = decs (acc ++ [Dec.mk k nm ps (.mk k1 n1 s1 l1 a1) (.mk k2 n2 s2 l2 a2) a cs]) := (by rw [decs_app]; rfl)
    refine runs_region ?_; refine o1 (mv ?_); refine oc (op_callo ca110 rfl rfl rfl rfl (decl_spec s hs r' hinv.1) [1] (boc .nil) rfl rfl rfl rfl (fir .nil) (fun s ob' hq => ?_) (fun s ob' hq => ?_))
    rotate_left
    · first | exact hq.elim | cases hq.1
    obtain ⟨hq1, rfl⟩ := hq; rw [hX] at hq1; cases hq1; refine ⟨_, _, _, _, _, rfl, rfl, rfl, rfl, rfl, ?_⟩; refine oc (T := fun _ => False) (alc ti67 ?_ (hl := by simp only [List.length_cons, List.length_nil, Nat.reduceAdd]; rfl))
    refine oc (sto ti67 ?_); refine nx ?_; refine runs_region ?_; refine o1 (mv ?_); refine o1 (ldb ti67 ?_)
    refine oc (T := fun _ => False) (op_lit sl58 [.tmp 35] ti67 rfl rfl rfl rfl rfl rfl rfl (by decide) (by decide) (by decide) (by simp only [List.length_cons, List.length_nil, Nat.reduceAdd]; rfl) rfl ?_)
    refine oc (op_append sl58 rfl rfl rfl rfl rfl rfl rfl (.inl rfl) (by decide) (by simp) (by first | decide | (simp only [maxLen, List.length_cons, List.length_nil, List.length_append, List.length_map]; omega) | omega) rfl rfl rfl ?_)
    refine o1 (asg ?_); refine ops_nil ?_; refine inb_normal ?_; refine seq_back ?_
    rw [hlast]
    refine back_c ((m - 1, acc ++ [Dec.mk k nm ps (.mk k1 n1 s1 l1 a1) (.mk k2 n2 s2 l2 a2) a cs], (declR s r').2)) rfl ?_ ([0, 1, 2]) ?_
    · exact ⟨file_step hinv ⟨fcode_none.1 h3, hne⟩ hX, show m - 1 < m by omega⟩
    · refine mo ?_ (sly (sly (sly slz)))
      repeat (first | exact boz | refine boc ?_ | refine bor ?_)

theorem parseFile_spec (s : ByteArray) : TriD Tryz.prog (glT g) 36 [.v (.string s)] (· = .tup [.sl 15 (decs (parseF s).1), .agg [.v (.int .i64 (parseF s).2.1), .v (.int .i64 (parseF s).2.2)]]) := by
  refine triD_of_runs Tryz.func36 rfl Tryz.ntmps36 (rs := [.tmp 2, .cell 3 33]) rfl rfl rfl ?_
  refine sr ?_; refine o1 (asg ?_); refine oc (T := fun _ => False) (alc ti33 ?_ (hl := by simp only [List.length_cons, List.length_nil, Nat.reduceAdd]; rfl)); refine nx ?_; refine runs_seq ?_; refine sr ?_; refine o1 (mv ?_)
  refine o1 (le3 ut9 ?_); refine o1 (igt ?_); refine nx ?_; refine cd (fun h1 => ?_) (fun h1 => ?_)
  · (try simp only [nrm, Int.reduceEq, Int.reduceNe, Int.reduceLT, Int.reduceLE] at h1)
    refine kp [3] ?_; refine sr ?_; refine o1 (bld ti33 ?_); refine o1 (asg ?_); refine oc (sto ti33 ?_); refine nx ?_; refine runs_ret ?_; refine seq_ret ?_; refine fin_ret ?_
    refine fin_dl ⟨_, _, rfl, rfl, ⟨_, _, rfl, (from_cell rfl rfl ti33 rfl rfl rfl rfl), rfl⟩⟩ rfl (.tup [.sl 15 (decs []), .agg [.v (.int .i64 2), .v (.int .i64 0)]]) (by repeat (first | exact .refl _ | exact .nil | refine .tup ?_ | refine .cons ?_ ?_)) ?_
    unfold parseF; rw [if_pos (by omega)]
  (try simp only [nrm, Int.reduceEq, Int.reduceNe, Int.reduceLT, Int.reduceLE] at h1); refine runs_skip ?_; refine seq_normal ?_; refine kp [3, 0] ?_; refine sr ?_; refine o1 (mv ?_)
  refine oc (cv ca78 rfl rfl (parseAny_spec s (by omega)) (fir .nil) ?_); refine o1 (ex2 ?_); refine o1 (ex2 ?_); refine o1 (asg ?_); refine oc (sto ti33 ?_); refine nx ?_; refine runs_ret ?_; refine fin_ret ?_
  refine fin_dl ⟨_, _, rfl, rfl, ⟨_, _, rfl, (from_cell rfl rfl ti33 rfl rfl rfl rfl), rfl⟩⟩ rfl (.tup [.sl 15 (decs (parseAny s).1), .agg [.v (.int .i64 (parseAny s).2.1), .v (.int .i64 (parseAny s).2.2)]]) (by exact .refl _) ?_
  unfold parseF; rw [if_neg (by omega)]
end Go.Proofs.YtneaancanfpdhaaGreatDoor
namespace Go.Proofs.YtneaancanfpdhaaGreatDoor
open Go Go.Vd Go.RowKit
attribute [local irreducible] Runs OpsR OpR FloatR AnyR AnyO
variable {g gl : Nat → List D}

theorem fclos_nil (x : D) : TriDf Tryz.prog gl 76 [.cells [.d (.v .nilIface)] 54, .cells [.d x] 58] [.blk 0 0, .blk 1 0] .ret (fun U' ob' => U' = .ret ∧ ob' = [.cells [.d (.v .nilIface)] 54, .cells [.d x] 58]) := by
  refine triDf_of_runs (Q0 := fun out ob' => out = .ret (.d (.tup [])) ∧ ob' = [.cells [.d (.v .nilIface)] 54, .cells [.d x] 58]) Tryz.func76 rfl Tryz.ntmps76 (rs := []) rfl rfl rfl 2 rfl ?_ ?_
  · rintro out ob' ⟨rfl, rfl⟩; exact ⟨⟨_, rfl⟩, rfl, rfl⟩
  refine sr ?_; refine o1 (ldb ti54 ?_); refine o1 (f_ineq_nil ii54 ?_); refine nx ?_; refine cd (fun h0 => ?_) (fun h0 => ?_)
  · simp only [nrm, Int.reduceEq, Int.reduceNe, Int.reduceLT, Int.reduceLE] at h0
  (try simp only [nrm, Int.reduceEq, Int.reduceNe, Int.reduceLT, Int.reduceLE] at h0); refine runs_skip ?_; refine fin_normal ?_; refine fin_od (l := []) rfl rfl ([0, 1]) ([.cells [.d (.v .nilIface)] 54, .cells [.d x] 58]) rfl rfl rfl ?_ ?_
  · repeat (first | exact boz | refine boc ?_)
  · exact ⟨rfl, rfl⟩
theorem fclos_err (x : D) (c a : Int) : TriDf Tryz.prog gl 76 [.cells [.d (fltD c a)] 54, .cells [.d x] 58] [.blk 0 0, .blk 1 0] .ret (fun U' ob' => U' = .ret ∧ ob' = [.cells [.d (fltD c a)] 54, .cells [.d (.v (.slice none 0 0))] 58]) := by
  refine triDf_of_runs (Q0 := fun out ob' => out = .ret (.d (.tup [])) ∧ ob' = [.cells [.d (fltD c a)] 54, .cells [.d (.v (.slice none 0 0))] 58]) Tryz.func76 rfl Tryz.ntmps76 (rs := []) rfl rfl rfl 2 rfl ?_ ?_
  · rintro out ob' ⟨rfl, rfl⟩; exact ⟨⟨_, rfl⟩, rfl, rfl⟩
  unfold fltD
  refine sr ?_; refine o1 (ldb ti54 ?_); refine o1 (f_ineq_d ii54 ?_); refine nx ?_; refine cdf (fun h0 => ?_) (fun h0 => ?_)
  · simp only [nrm, Int.reduceEq, Int.reduceNe, Int.reduceLT, Int.reduceLE] at h0
  (try simp only [nrm, Int.reduceEq, Int.reduceNe, Int.reduceLT, Int.reduceLE] at h0); refine runs_region ?_; refine oc (sto ti58 ?_); refine ops_nil ?_; refine fin_normal ?_
  refine fin_od (l := []) rfl rfl ([0, 1]) ([.cells [.d (fltD c a)] 54, .cells [.d (.v (.slice none 0 0))] 58]) rfl rfl rfl ?_ ?_
  · repeat (first | exact boz | refine boc ?_)
  · exact ⟨rfl, rfl⟩

theorem parseF_long {s : ByteArray} (h : s.size > 200000) : parseF s = ([], 2, 0) := by unfold parseF; rw [if_pos h]
theorem parseF_any {s : ByteArray} (h : ¬ s.size > 200000) : parseF s = parseAny s := by unfold parseF; rw [if_neg h]
theorem file_stepN {s : ByteArray} {r0 : RS} {q qb m : Nat} {acc : List Dec} {x : Dec} (hinv : q ≤ s.size ∧ acc.length + m = s.size + 2 ∧ s.size - q < m ∧ fileR (s.size + 2) s r0 = (acc ++ (fileR m s ⟨q, none⟩).1, (fileR m s ⟨q, none⟩).2))
    (h : ¬ atEnd s ⟨q, none⟩) (hX : declR s ⟨q, none⟩ = (x, ⟨qb, none⟩)) :
    qb ≤ s.size ∧ (acc ++ [x]).length + (m - 1) = s.size + 2 ∧ s.size - qb < m - 1 ∧ fileR (s.size + 2) s r0 = (acc ++ [x] ++ (fileR (m - 1) s ⟨qb, none⟩).1, (fileR (m - 1) s ⟨qb, none⟩).2) := by
  have := file_step (r' := ⟨q, none⟩) (x := x) ⟨hinv.1, hinv.2.1, fun _ => hinv.2.2.1, hinv.2.2.2⟩ ⟨rfl, h⟩ (by rw [hX])
  rw [hX] at this
  exact ⟨this.1, this.2.1, this.2.2.1 rfl, this.2.2.2⟩
theorem file_bad {s : ByteArray} {r0 r' : RS} {m a : Nat} {acc : List Dec} (h4 : fileR (s.size + 2) s r0 = (acc ++ (fileR m s r').1, (fileR m s r').2)) (hm : 0 < m) (h : r'.f = none ∧ ¬ atEnd s r') (hf : (declR s r').2.f = some a) : (fileR (s.size + 2) s r0).2.f = some a := by
  rw [h4]
  obtain ⟨m, rfl⟩ : ∃ k, m = k + 1 := ⟨m - 1, by omega⟩
  simp only [fileR]
  rw [if_pos h]
  rw [file_stop (by rintro ⟨e, _⟩; rw [hf] at e; cases e)]
  exact hf
theorem parseAny_fault {s : ByteArray} {a : Nat} (hf : (fileR (s.size + 2) s ⟨0, none⟩).2.f = some a) : parseAny s = ([], 1, (a : Int)) :=
  parseAny_bad (acc := (fileR (s.size + 2) s ⟨0, none⟩).1) (r := (fileR (s.size + 2) s ⟨0, none⟩).2) rfl hf
theorem atEnd_step {s : ByteArray} {q : Nat} : atEnd s ⟨q, none⟩ ↔ stepTok s q = .empty := by
  unfold atEnd stepTok
  constructor
  · rintro ⟨h1, h2⟩
    rw [if_pos h1]; exact h2
  · intro h
    split at h
    · rename_i h1; exact ⟨h1, h⟩
    · exact absurd h (by decide)

theorem fparse_spec (s : ByteArray) (e : D) (hg : (glT g) (laysC172_ren.g 15) = [e]) (he : ifcD e) : TriD Tryz.prog (glT g) 35 [.v (.string s)] (· = .tup [.sl 15 (decs (parseF s).1), errD (parseF s).2.1 (parseF s).2.2]) := by
  refine triS_of_runsD Tryz.func35 rfl Tryz.ntmps35 (rs := [.cell 2 58, .cell 3 54]) rfl rfl rfl 0 rfl ?_
  refine sr ?_; refine oc (T := fun _ => False) (alc ti58 ?_ (hl := by simp only [List.length_cons, List.length_nil, Nat.reduceAdd]; rfl))
  refine oc (T := fun _ => False) (alc ti54 ?_ (hl := by simp only [List.length_cons, List.length_nil, Nat.reduceAdd]; rfl)); refine nx ?_; refine runs_seq ?_; refine sr ?_; refine o1 (mv ?_); refine o1 (le3 ut9 ?_); refine o1 (igt ?_)
  refine nx ?_; refine cd (fun h1 => ?_) (fun h1 => ?_)
  · (try simp only [nrm, Int.reduceEq, Int.reduceNe, Int.reduceLT, Int.reduceLE] at h1)
    refine kp [3, 2] ?_; refine sr ?_; refine o1 (bld ti33 ?_); refine oc (T := fun _ => False) (bx ti33 ?_ (hl := by simp only [List.length_cons, List.length_nil, Nat.reduceAdd]; rfl)); refine o1 (f_iface ?_)
    refine ops_freeze 2 rfl rfl rfl rfl rfl rfl ?_; refine oc (sto ti58 ?_); refine oc (sto ti54 ?_); refine nx ?_; refine runs_ret ?_; refine seq_ret ?_; refine fin_ret ?_
    refine fin_dl ⟨_, _, rfl, (from_cell rfl rfl ti58 rfl rfl rfl rfl), ⟨_, _, rfl, (from_cell rfl rfl ti54 rfl rfl rfl rfl), rfl⟩⟩ rfl (.tup [.sl 15 (decs []), fltD 2 0]) (by repeat (first | exact .refl _ | exact .nil | refine .tup ?_ | refine .cons ?_ ?_)) ?_
    rw [parseF_long (by omega)]; rfl
  (try simp only [nrm, Int.reduceEq, Int.reduceNe, Int.reduceLT, Int.reduceLE] at h1); refine runs_skip ?_; refine seq_normal ?_; refine rd_start ?_; refine rd_defer_c ca76 rfl rfl rfl rfl rfl rfl rfl rfl rfl ?_
  refine rd_defer_f ca71 rfl rfl rfl rfl rfl ?_; refine rd_go 2 rfl ?_; refine runs_seq ?_
  have hs : s.size ≤ 1099511627776 := by omega
  refine runs_region ?_; refine o1 (mv ?_); refine oc (op_callo ca72 rfl rfl rfl rfl (new_spec s hs) [] .nil rfl rfl rfl rfl (fir .nil) (fun s ob' hq => ?_) (fun s ob' hq => ?_))
  rotate_left
  · first | exact hq.elim | cases hq.1
  obtain ⟨hq1, rfl⟩ := hq; cases hq1; refine ⟨_, _, _, _, _, rfl, rfl, rfl, rfl, rfl, ?_⟩; refine o1 (asg ?_); refine nx ?_; refine runs_seq ?_; refine runs_block ?_; refine kp [4, 3, 2] ?_; refine runs_nilrow 67 15 rfl ?_
  apply runs_loop_o (ι := Nat × List Dec × Nat) (fun ⟨m, acc, q⟩ => []) (fun ⟨m, acc, q⟩ => [.cells [.own 3 15 (decs acc)] 58, .cells [.d (.v .nilIface)] 54, scA s q, .row 67 15]) [4, 3, 2] (fun ⟨m, acc, q⟩ => q ≤ s.size ∧ acc.length + m = s.size + 2 ∧ s.size - q < m ∧ fileR (s.size + 2) s ⟨0, none⟩ = (acc ++ (fileR m s ⟨q, none⟩).1, (fileR m s ⟨q, none⟩).2)) (fun ⟨m, acc, q⟩ => m) ((s.size + 2, [], 0)) ([0, 1, 2, 3])
  case hk => exact rfl
  case hI =>
    exact ⟨Nat.zero_le _, by simp, by omega, rfl⟩
  case hm =>
    refine mo ?_ (sly (sly (sly slz)))
    repeat (first | exact boz | exact fiz | refine boc ?_ | refine bon ?_ | refine boe ?_ ?_ | refine .cons (.nil rfl) ?_)
  case h =>
    rintro ⟨m, acc, q⟩ hinv
    try dsimp only at hinv
    refine kp [4, 3, 2] ?_; refine runs_seq ?_; refine sr ?_; refine o1 (mv ?_); refine o1 (ncb ?_); refine o1 (fdb ti105 ?_); refine o1 (ldb ti9 ?_); refine o1 (sne ?_); refine nx ?_; refine cdf (fun h6 => ?_) (fun h6 => ?_)
    · (try simp only [nrm, Int.reduceEq, Int.reduceNe, Int.reduceLT, Int.reduceLE] at h6)
      refine runs_exit ?_; refine seq_exit ?_; refine seq_exit ?_; refine inb_exit ?_; refine seq_normal ?_; refine kp [3, 2] ?_; refine sr ?_; refine o1 (ldb ti58 ?_); refine oc (sto ti58 ?_); refine oc (sto ti54 ?_); refine nx ?_
      refine runs_ret ?_; refine finT_ret ?_; refine lv_call (catch_ret _) [1] (.cons rfl (.cells rfl (FitL.rfl _)) .nil) rfl rfl rfl rfl (.cons (.refl _) .nil) (fun U' ob' hq => ?_); obtain ⟨rfl, rfl⟩ := hq
      refine ⟨_, _, _, _, rfl, rfl, rfl, rfl, ?_⟩
      refine lv_call (fclos_nil _) [1, 0] (.cons rfl (.cells rfl (FitL.rfl _)) (.cons rfl (.cells rfl (.cons (.toD rfl) .nil)) .nil)) rfl rfl rfl rfl (.cons (.refl _) (.cons (.refl _) .nil)) (fun U' ob' hq => ?_); obtain ⟨rfl, rfl⟩ := hq
      refine ⟨_, _, _, _, rfl, rfl, rfl, rfl, ?_⟩; refine lv_end rfl ?_
      refine fin_dl ⟨_, _, rfl, (from_cell rfl rfl ti58 rfl rfl rfl rfl), ⟨_, _, rfl, (from_cell rfl rfl ti54 rfl rfl rfl rfl), rfl⟩⟩ rfl (.tup [.sl 15 (decs acc), .v .nilIface]) (by exact .refl _) ?_
      rw [parseF_any (by omega), parseAny_good (acc := acc) (r := ⟨q, none⟩) (by rw [hinv.2.2.2, file_stop (by rintro ⟨_, hb⟩; exact hb (atEnd_step.2 h6)), List.append_nil]) rfl]; rfl
    (try simp only [nrm, Int.reduceEq, Int.reduceNe, Int.reduceLT, Int.reduceLE] at h6); refine runs_skip ?_; refine seq_normal ?_; refine runs_block ?_; refine kp [4, 3, 2] ?_
    have hne : ¬ atEnd s ⟨q, none⟩ := fun h => h6 (atEnd_step.1 h)
    have hm1 := hinv.2.2.1
    have hln := decs_len acc
    have hlv := fread_spec (g := g) s hs e hg he q hinv.1
    rcases hla : declR s ⟨q, none⟩ with ⟨x, ⟨qb, fb⟩⟩
    rw [hla] at hlv
    obtain ⟨k, nm, ps, k1, n1, s1, l1, a1, k2, n2, s2, l2, a2, a, cs, rfl⟩ := Dec.case x
    have hlast : decs acc ++ [[.v (.int .i64 k), .v (.string nm), .sl 1 (strs ps), .v (.int .i64 k1), .v (.int .i64 n1), .v (.string s1), .sl 3 (lvls l1), .sl 5 (trms a1), .v (.int .i64 k2), .v (.int .i64 n2), .v (.string s2), .sl 3 (lvls l2), .sl 5 (trms a2), .v (.int .i64 a), .sl 6 (ctrs cs)]] = decs (acc ++ [Dec.mk k nm ps (.mk k1 n1 s1 l1 a1) (.mk k2 n2 s2 l2 a2) a cs]) := (by rw [decs_app]; rfl)
    refine a_start ?_ (hm := by exact mixed); refine A1 0 rfl (ldb ti58 ⟨_, rfl, ?_⟩); refine A1 1 rfl (mv ⟨_, rfl, ?_⟩)
    refine A2 2 rfl (op_callo ca77 rfl rfl rfl rfl (hlv) [2] (boc .nil) rfl rfl rfl rfl (fir .nil) (fun s ob' hq => ?_) (fun s ob' hq => ?_))
    rotate_left
    · obtain ⟨a', hfa, rfl, rfl⟩ := hq.pan
      refine ⟨_, _, _, _, _, rfl, rfl, rfl, rfl, rfl, ?_⟩
      simp only at hfa; subst hfa
      refine ⟨_, rfl, fun n => ?_⟩; refine lv_call (catch_pan _ 1 a') [1] (.cons rfl (.cells rfl (FitL.rfl _)) .nil) rfl rfl rfl rfl (.cons (.refl _) .nil) (fun U' ob' hq => ?_); obtain ⟨rfl, rfl⟩ := hq; refine ⟨_, _, _, _, rfl, rfl, rfl, rfl, ?_⟩
      refine lv_call (fclos_err _ 1 a') [1, 0] (.cons rfl (.cells rfl (FitL.rfl _)) (.cons rfl (.cells rfl (.cons (.toD rfl) .nil)) .nil)) rfl rfl rfl rfl (.cons (.refl _) (.cons (.refl _) .nil)) (fun U' ob' hq => ?_); obtain ⟨rfl, rfl⟩ := hq
      refine ⟨_, _, _, _, rfl, rfl, rfl, rfl, ?_⟩; refine lv_end rfl ?_
      refine fin_dl ⟨_, _, rfl, (from_cell rfl rfl ti58 rfl rfl rfl rfl), ⟨_, _, rfl, (from_cell rfl rfl ti54 rfl rfl rfl rfl), rfl⟩⟩ rfl (.tup [.sl 15 (decs []), fltD 1 a']) (.tup (.cons .nil (.cons (.refl _) .nil))) ?_
      rw [parseF_any (by omega), parseAny_fault (file_bad hinv.2.2.2 (by omega) ⟨rfl, hne⟩ (by rw [hla]))]; rfl
    obtain ⟨hfa, rfl, rfl⟩ := hq.ret
    simp only at hfa; subst hfa
    refine ⟨_, _, _, _, _, rfl, rfl, rfl, rfl, rfl, ?_⟩
    refine A2 (T := fun _ => False) 3 rfl (op_lit sl58 [.tmp 21] ti67 rfl rfl rfl rfl rfl rfl rfl (by decide) (by decide) (by decide) (by simp only [List.length_cons, List.length_nil, Nat.reduceAdd]; rfl) rfl ?_)
    refine A2 4 rfl (op_append sl58 rfl rfl rfl rfl rfl rfl rfl (.inl rfl) (by decide) (by simp) (by first | decide | (simp only [maxLen, List.length_cons, List.length_nil, List.length_append, List.length_map]; omega) | omega) rfl rfl rfl ?_)
    refine A2 5 rfl (sto ti58 ?_); refine a_end ?_; refine inb_normal ?_; refine seq_back ?_
    rw [hlast]
    refine back_c ((m - 1, acc ++ [Dec.mk k nm ps (.mk k1 n1 s1 l1 a1) (.mk k2 n2 s2 l2 a2) a cs], qb)) rfl ?_ ([0, 1, 2, 3]) ?_
    · exact ⟨file_stepN hinv hne hla, show m - 1 < m by omega⟩
    · refine mo ?_ (sly (sly (sly slz)))
      repeat (first | exact boz | refine boc ?_ | refine bor ?_)
end Go.Proofs.YtneaancanfpdhaaGreatDoor
namespace Go.Proofs.YtneaancanfpdhaaGreatDoor
open Go Go.Vd Go.RowKit
attribute [local irreducible] Runs OpsR OpR FloatR AnyR AnyO
variable {g gl : Nat → List D}

mutual
theorem size_wtL : ∀ l : Lvl, l.size ≤ wtL l
  | .mk k s args => by have := sizes_wtL args; simp only [Lvl.size, wtL]; omega
theorem sizes_wtL : ∀ l : List Lvl, sizes l ≤ wtLs l
  | [] => by simp [sizes]
  | l :: r => by have := size_wtL l; have := sizes_wtL r; simp only [sizes, wtLs]; omega
end
mutual
theorem size_wtT : ∀ t : Trm, t.size ≤ wtT t
  | .mk k n s ls args => by have := sizes_wtT args; have := sizes_wtL ls; simp only [Trm.size, wtT]; omega
theorem sizes_wtT : ∀ l : List Trm, sizesT l ≤ wtTs l
  | [] => by simp [sizesT]
  | l :: r => by have := size_wtT l; have := sizes_wtT r; simp only [sizesT, wtTs]; omega
end
theorem zero_ok : okT zeroT := ⟨by decide, by decide, by decide, by decide, fun l hl => (by cases hl), trivial⟩
theorem zero_wt : wtT zeroT = 20 := rfl

theorem names_size {s : ByteArray} : ∀ (n : Nat) {r : RS}, r.p ≤ s.size → wtS (namesR n s r).1 + 2 * r.p ≤ 1 + 2 * (namesR n s r).2.p := by
  intro n
  induction n with
  | zero => intro r hp; simp only [namesR, wtS]; omega
  | succ n ih =>
    intro r hp
    simp only [namesR]
    split
    · rename_i hc
      have h1 := nameR_le (s := s) hp
      have h2 := nameR_size (s := s) hp
      have h3 := ih h1.2
      simp only [wtS]
      cases hf : (nameR s r).2.f with
      | none =>
        have h4 := name_prog hp hf
        omega
      | some a =>
        rw [names_stop (by rintro ⟨e, _⟩; rw [hf] at e; cases e)]
        simp only [wtS]
        omega
    · simp only [wtS]; omega
theorem ctor_size {s : ByteArray} {r : RS} (hp : r.p ≤ s.size) : okT (ctorR s r).1.2 ∧ (ctorR s r).1.1.size + wtT (ctorR s r).1.2 + 100 * (takeR s ⟨#[40]⟩ r).p ≤ 20 + 100 * (ctorR s r).2.p := by
  have h1 := takeR_le (s := s) (w := ⟨#[40]⟩) hp
  have h2 := takeR_le (s := s) (w := ctorW) h1.2
  have h3 := nameR_le (s := s) h2.2
  have h4 := nameR_size (s := s) h2.2
  have h5 := term_ok (s := s) (s.size + 1) _ h3.2
  have h6 := termR_le (s := s) (s.size + 1) _ h3.2
  have h7 := takeR_le (s := s) (w := ⟨#[41]⟩) h6.2
  unfold ctorR
  refine ⟨h5.1, ?_⟩
  simp only
  omega
theorem ctors_ok {s : ByteArray} : ∀ (n : Nat) {r : RS}, r.p ≤ s.size → (∀ c ∈ (ctorsR n s r).1, okT c.2) ∧ wtC (ctorsR n s r).1 + 100 * r.p ≤ 30 + 100 * (ctorsR n s r).2.p := by
  intro n
  induction n with
  | zero => intro r hp; exact ⟨fun c hc => by simp [ctorsR] at hc, by simp only [ctorsR, wtC]; omega⟩
  | succ n ih =>
    intro r hp
    simp only [ctorsR]
    split
    · rename_i hc
      have h1 := ctorR_le (s := s) hp
      have h2 := ctor_size (s := s) hp
      have h3 := ih h1.2
      refine ⟨fun c hc => ?_, ?_⟩
      · rcases List.mem_cons.1 hc with rfl | hc
        · exact h2.1
        · exact h3.1 c hc
      · simp only [wtC]
        have h5 := takeR_le (s := s) (w := ⟨#[40]⟩) hp
        cases hf : (ctorR s r).2.f with
        | none =>
          have h4 := take_prog (s := s) (w := ⟨#[40]⟩) (r := r) (by decide) hp (take_f (name_f (term_f (take_f hf))))
          omega
        | some a =>
          rw [ctors_stop (by rintro ⟨e, _⟩; rw [hf] at e; cases e)]
          simp only [wtC]
          omega
    · exact ⟨fun c hc => by simp at hc, by simp only [wtC]; omega⟩
theorem head_good {s : ByteArray} {r : RS} (hp : r.p ≤ s.size) (hf : (declHead s r).2.2.2.f = none) :
    (declHead s r).1 ≤ 3 ∧ ¬ (declHead s r).1 = 0 ∧ (declHead s r).2.1.size + wtS (declHead s r).2.2.1 + 100 * r.p + 199 ≤ 100 * (declHead s r).2.2.2.p := by
  have h1 := takeR_le (s := s) (w := ⟨#[40]⟩) hp
  have h2 := nextR_le (s := s) h1.2
  have h3 := nameR_le (s := s) h2.2
  have h4 := takeR_le (s := s) (w := ⟨#[40]⟩) h3.2
  have h5 := namesR_le (s := s) (s.size + 2) h4.2
  have h6 := takeR_le (s := s) (w := ⟨#[41]⟩) h5.2
  have h7 := nameR_size (s := s) h2.2
  have h8 := names_size (s := s) (s.size + 2) h4.2
  unfold declHead at hf ⊢
  dsimp only at hf ⊢
  split at hf
  · exact absurd hf (fail_f _ _)
  · rename_i hk
    rw [if_neg hk]
    have g1 := name_f (take_f (names_f (take_f hf)))
    have g2 := next_f g1
    have p1 := take_prog (s := s) (w := ⟨#[40]⟩) (r := r) (by decide) hp g2
    have p2 := take_prog (s := s) (w := ⟨#[40]⟩) (r := (nameR s (nextR s (takeR s ⟨#[40]⟩ r)).2).2) (by decide) h3.2 (names_f (take_f hf))
    have p3 := take_prog (s := s) (w := ⟨#[41]⟩) (r := (namesR (s.size + 2) s (takeR s ⟨#[40]⟩ (nameR s (nextR s (takeR s ⟨#[40]⟩ r)).2).2)).2) (by decide) h5.2 hf
    refine ⟨kindF_le _, hk, ?_⟩
    simp only
    omega
theorem decl_good {s : ByteArray} {r : RS} (hp : r.p ≤ s.size) (hf : (declR s r).2.f = none) : okD (declR s r).1 ∧ 1 + wtD (declR s r).1 + 100 * r.p ≤ 100 * (declR s r).2.p := by
  have hh := declHead_le (s := s) hp
  unfold declR at hf ⊢
  dsimp only at hf ⊢
  split at hf
  · rename_i hk
    exact absurd (head_good hp hf).2.1 (fun h => h hk)
  · rename_i hk
    rw [if_neg hk]
    split at hf
    · exact absurd hf (fail_f _ _)
    · rename_i hb
      rw [if_neg hb]
      have ha := arityR_le (s := s) (k := (declHead s r).1) hh.2
      have hg := head_good hp (arity_f (tail_f hf))
      generalize hk1 : (declHead s r).1 = k at *
      generalize hn1 : (declHead s r).2.1 = nm at *
      generalize hp1 : (declHead s r).2.2.1 = ps at *
      generalize hr1 : (declHead s r).2.2.2 = r6 at *
      have har : 0 ≤ (arityR s k r6).1 ∧ (arityR s k r6).1 ≤ 99 := by
        unfold arityR
        split
        · rename_i hk3
          have hab : arityB (tokR s r6.p) := Classical.byContradiction fun h => hb ⟨hk3, h⟩
          obtain ⟨_, had, _⟩ := tok_dig hh.2 hab.1 ⟨hab.2.1, hab.2.2.1⟩
          exact numR_le99 had hab.2.2.2
        · simp
      generalize (arityR s k r6).1 = a at *
      generalize (arityR s k r6).2 = r7 at *
      have t1 := term_ok (s := s) (s.size + 1) r7 ha.2
      have t2 := termR_le (s := s) (s.size + 1) r7 ha.2
      have v2 := valR_le (s := s) (k := k) t2.2
      have v1 : okT (valR s k (termR (s.size + 1) s r7).2).1 ∧ wtT (valR s k (termR (s.size + 1) s r7).2).1 + 100 * (termR (s.size + 1) s r7).2.p ≤ 20 + 100 * (valR s k (termR (s.size + 1) s r7).2).2.p := by
        unfold valR
        split
        · exact term_ok (s := s) (s.size + 1) _ t2.2
        · exact ⟨zero_ok, by simp only [zero_wt]; omega⟩
      have c2 := consR_le (s := s) (k := k) v2.2
      have c1 : (∀ c ∈ (consR s k (valR s k (termR (s.size + 1) s r7).2).2).1, okT c.2) ∧ wtC (consR s k (valR s k (termR (s.size + 1) s r7).2).2).1 + 100 * (valR s k (termR (s.size + 1) s r7).2).2.p ≤ 30 + 100 * (consR s k (valR s k (termR (s.size + 1) s r7).2).2).2.p := by
        unfold consR
        split
        · exact ctors_ok (s := s) (s.size + 2) v2.2
        · exact ⟨fun c hc => by simp at hc, by simp only [wtC]; omega⟩
      have c3 := takeR_le (s := s) (w := ⟨#[41]⟩) c2.2
      unfold declTail
      refine ⟨⟨by omega, har.1, har.2, t1.1, v1.1, c1.1⟩, ?_⟩
      simp only [wtD]
      omega
theorem file_ok {s : ByteArray} : ∀ (n : Nat) {r : RS}, r.p ≤ s.size → (fileR n s r).2.f = none → okF (fileR n s r).1 ∧ wtF (fileR n s r).1 + 100 * r.p ≤ 100 * (fileR n s r).2.p ∧ (fileR n s r).2.p ≤ s.size := by
  intro n
  induction n with
  | zero => intro r hp _; exact ⟨fun d hd => by simp [fileR] at hd, by simp only [fileR, wtF]; omega, hp⟩
  | succ n ih =>
    intro r hp hf
    simp only [fileR] at hf ⊢
    split at hf
    · rename_i hc
      rw [if_pos hc]
      simp only at hf ⊢
      have hd : (declR s r).2.f = none := by
        cases hx : (declR s r).2.f with
        | none => rfl
        | some a =>
          rw [file_stop (by rintro ⟨e, _⟩; rw [hx] at e; cases e)] at hf
          rw [hx] at hf; cases hf
      have h1 := decl_good hp hd
      have h2 := declR_le (s := s) hp
      have h3 := ih h2.2 hf
      refine ⟨fun d hd => ?_, ?_, h3.2.2⟩
      · rcases List.mem_cons.1 hd with rfl | hd
        · exact h1.1
        · exact h3.1 d hd
      · simp only [wtF]; omega
    · rename_i hc
      rw [if_neg hc]
      exact ⟨fun d hd => by simp at hd, by simp only [wtF]; omega, hp⟩
theorem parseF_ok (s : ByteArray) : okF (parseF s).1 ∧ wtF (parseF s).1 ≤ 20000000 := by
  have h0 : okF [] ∧ wtF [] ≤ 20000000 := ⟨fun d hd => by simp at hd, by decide⟩
  unfold parseF
  split
  · exact h0
  · rename_i hs
    unfold parseAny
    split
    · rename_i hf
      obtain ⟨h1, h2, h3⟩ := file_ok (s := s) (s.size + 2) (r := ⟨0, none⟩) (Nat.zero_le _) hf
      exact ⟨h1, by simp only at h2 ⊢; omega⟩
    · exact h0

theorem filed_spec (hgl : glT g 2 = errTyD) (hg3 : g 3 = wordsD) (hg7 : g (laysM246_ren.g 17) = p10D) (e : D) (hge : (glT g) (laysC172_ren.g 15) = [e]) (he : ifcD e) (s : ByteArray) : TriD Tryz.prog (glT g) 8 [.v (.string s)] (· = .v (.bool true)) := by
  have q1 := fparse_spec (g := g) s e hge he
  have q2 := parseFile_spec (g := g) s
  have q3 := faulty_spec (gl := glT g) hgl (parseF s).2.1 (parseF s).2.2
  obtain ⟨hok, hwt⟩ := parseF_ok s
  generalize errD (parseF s).2.1 (parseF s).2.2 = ed at q1 q3
  generalize (parseF s).2.1 = c at q1 q2 q3
  generalize (parseF s).2.2 = a at q1 q2 q3
  generalize (parseF s).1 = ds at q1 q2 hok hwt
  have q4 := printAll_spec hg3 hg7 ds hok (by omega)
  have q5 := printFile_spec (g := g) ds hok (by omega)
  have hld := decs_len ds
  have hlf := wtF_len ds
  refine triD_of_runs Tryz.func8 rfl Tryz.ntmps8 (rs := [.tmp 2]) rfl rfl rfl ?_
  refine sr ?_; refine o1 (asg ?_); refine nx ?_; refine sr ?_; refine o1 (mv ?_); refine oc (cv ca35 rfl rfl (q1) (fir .nil) ?_); refine o1 (mv ?_); refine o1 (ex2 ?_); refine o1 (ex2 ?_); refine o1 (asg ?_); refine o1 (asg ?_); refine nx ?_
  refine kp [4, 3, 0] ?_; refine sr ?_; refine o1 (mv ?_); refine oc (cv ca36 rfl rfl (q2) (fir .nil) ?_); refine o1 (mv ?_); refine o1 (ex2 ?_); refine o1 (ex2 ?_)
  refine oc (T := fun _ => False) (alc ti33 ?_ (hl := by simp only [List.length_cons, List.length_nil, Nat.reduceAdd]; rfl)); refine o1 (asg ?_); refine oc (sto ti33 ?_); refine nx ?_; refine kp [5, 6, 4, 3] ?_; refine sr ?_; refine o1 (mv ?_)
  refine o1 (ldb ti33 ?_); refine oc (cv ca34 rfl rfl (q3) (fir (fid .nil)) ?_); refine o1 (asg ?_); refine nx ?_; refine runs_seq ?_; refine kp [7, 5, 3] ?_; refine sr ?_; refine o1 (mv ?_); refine o1 (f_not ?_); refine o1 (mv ?_)
  apply ops_or (yt := 32) (d := 27) 5 rfl rfl rfl (.none rfl) rfl rfl
  case h1 =>
    intro hb4 hK
    have hc := hb4; (try simp only [nrm, Int.reduceEq, Int.reduceNe, Int.reduceLT, Int.reduceLE] at hc)
    refine gye ?_ (hbw := by exact hb4); refine o1 (mv ?_); refine gye ?_ (hbw := by exact hb4); refine o1 (le1 us58 ?_); refine gye ?_ (hbw := by exact hb4); refine o1 (mv ?_); refine gye ?_ (hbw := by exact hb4); refine o1 (le1 us58 ?_)
    refine gye ?_ (hbw := by exact hb4); refine o1 (ine ?_); exact hK [_, _, _, _, _] rfl rfl
  case h2 =>
    intro hb4 hK; refine gno ?_ (hbw := by exact hb4); refine gno ?_ (hbw := by exact hb4); refine gno ?_ (hbw := by exact hb4); refine gno ?_ (hbw := by exact hb4); refine gno ?_ (hbw := by exact hb4); exact hK [_, _, _, _, _] rfl
  refine nx ?_; refine cd (fun h4 => ?_) (fun h4 => ?_)
  · simp only [nrm, Int.reduceEq, Int.reduceNe, Int.reduceLT, Int.reduceLE] at h4
  (try simp only [nrm, Int.reduceEq, Int.reduceNe, Int.reduceLT, Int.reduceLE] at h4); refine runs_skip ?_; refine seq_normal ?_; refine kp [5, 3] ?_; refine sr ?_; refine o1 (mv ?_); refine oc (cv ca37 rfl rfl (q4) (fir .nil) ?_)
  refine o1 (asg ?_); refine nx ?_; refine runs_seq ?_; refine sr ?_; refine o1 (mv ?_); refine o1 (mv ?_); refine oc (cv ca38 rfl rfl (q5) (fir .nil) ?_); refine o1 (sne ?_); refine nx ?_; refine cd (fun h7 => ?_) (fun h7 => ?_)
  · simp only [nrm, Int.reduceEq, Int.reduceNe, Int.reduceLT, Int.reduceLE] at h7
  (try simp only [nrm, Int.reduceEq, Int.reduceNe, Int.reduceLT, Int.reduceLE] at h7); refine runs_skip ?_; refine seq_normal ?_; refine runs_seq ?_; refine kp [5, 3] ?_; refine sr ?_; refine o1 (asg ?_); refine nx ?_; refine runs_block ?_
  apply runs_loop_c (ι := Nat) (fun i => [(9, int i)]) [5, 3] (fun i => i ≤ ds.length) (fun i => ds.length - i) (0)
  case hk => exact rfl
  case hI =>
    exact Nat.zero_le _
  case hm =>
    refine mo ?_ (sly (sly (sly slz)))
    repeat (first | exact boz | refine boc ?_)
  case h =>
    rintro i hinv
    try dsimp only at hinv
    refine kp [9, 5, 3] ?_; refine runs_seq ?_; refine sr ?_; refine o1 (mv ?_); refine o1 (mv ?_); refine o1 (le1 us58 ?_); refine o1 (ilt ?_); refine nx ?_; refine cdf (fun h10 => ?_) (fun h10 => ?_)
    · (try simp only [nrm, Int.reduceEq, Int.reduceNe, Int.reduceLT, Int.reduceLE] at h10)
      refine runs_exit ?_; refine seq_exit ?_; refine seq_exit ?_; refine inb_exit ?_; refine seq_normal ?_; refine kp [] ?_; refine sr ?_; refine o1 (asg ?_); refine nx ?_; refine runs_ret ?_; refine fin_ret ?_; refine fin_d1 rfl rfl ?_
      rfl
    (try simp only [nrm, Int.reduceEq, Int.reduceNe, Int.reduceLT, Int.reduceLE] at h10); refine runs_skip ?_; refine seq_normal ?_; refine runs_seq ?_; refine runs_block ?_; refine runs_seq ?_; refine kp [9, 5, 3] ?_
    obtain ⟨k, nm, ps, k1, n1, s1, l1, a1, k2, n2, s2, l2, a2, a', cs, hget⟩ := dec_get (show i < ds.length by omega)
    have hod := hok _ (List.mem_of_getElem? hget)
    have hwd := wtF_get hget
    have z1 := size_wtT (.mk k1 n1 s1 l1 a1)
    have z2 := size_wtT (.mk k2 n2 s2 l2 a2)
    have z3 := wtS_len ps
    have z4 := wtC_len cs
    have hwd2 := hwd
    simp only [wtD] at hwd2
    have z5 : ∀ c ∈ cs, c.2.size ≤ 1099511627776 := fun c hc => (by obtain ⟨j, hj⟩ := List.getElem?_of_mem hc; have y1 := wtC_get hj; have y2 := size_wtT c.2; omega)
    have q6 := fprint_spec hg3 hg7 k nm ps k1 n1 s1 l1 a1 k2 n2 s2 l2 a2 a' cs hod (by omega)
    have q7 := sameDecl_spec (gl := glT g) k nm ps k1 n1 s1 l1 a1 k2 n2 s2 l2 a2 a' cs (by omega) (by omega) z5 (by omega) (by omega)
    have q8 := printDecl_spec (g := g) k nm ps k1 n1 s1 l1 a1 k2 n2 s2 l2 a2 a' cs hod (by omega)
    refine runs_region ?_; refine o1 (mv ?_); refine o1 (mv ?_); refine o1 (ixs us58 te58 ?_ (he := by exact (dec_at hget))); refine o1 (ldc ti67 ?_); refine oc (cv ca39 rfl rfl (q6) (fid .nil) ?_); refine o1 (asg ?_); refine nx ?_
    refine runs_seq ?_; refine kp [10, 9, 5, 3] ?_; refine a_start ?_ (hm := by exact mixed); refine A1 0 rfl (mv ⟨_, rfl, ?_⟩); refine A1 1 rfl (mv ⟨_, rfl, ?_⟩); refine A1 2 rfl (ixs us58 te58 ⟨_, rfl, ?_⟩ (he := by exact (dec_at hget)))
    refine A1 3 rfl (ldc ti67 ⟨_, rfl, ?_⟩); refine A1 4 rfl (mv ⟨_, rfl, ?_⟩); refine A1 5 rfl (mv ⟨_, rfl, ?_⟩); refine A1 6 rfl (ixs us58 te58 ⟨_, rfl, ?_⟩ (he := by exact (dec_at hget))); refine A1 7 rfl (ldc ti67 ⟨_, rfl, ?_⟩)
    refine A2 8 rfl (cv ca40 rfl rfl (q7) (fid (fid .nil)) ?_); refine A1 9 rfl (asg ⟨_, rfl, ?_⟩); refine a_end ?_; refine seq_normal ?_; refine kp [11, 10, 9, 5, 3] ?_; refine sr ?_; refine o1 (mv ?_); refine o1 (f_not ?_); refine o1 (mv ?_)
    apply ops_or (yt := 69) (d := 62) 7 rfl rfl rfl (.none rfl) rfl rfl
    case h1 =>
      intro hb4 hK
      have hc := hb4; (try simp only [nrm, Int.reduceEq, Int.reduceNe, Int.reduceLT, Int.reduceLE] at hc)
      refine gye ?_ (hbw := by exact hb4); refine o1 (mv ?_); refine gye ?_ (hbw := by exact hb4); refine o1 (mv ?_); refine gye ?_ (hbw := by exact hb4); refine o1 (mv ?_); refine gye ?_ (hbw := by exact hb4)
      refine o1 (ixs us58 te58 ?_ (he := by exact (dec_at hget))); refine gye ?_ (hbw := by exact hb4); refine o1 (ldc ti67 ?_); refine gye ?_ (hbw := by exact hb4); refine oc (cv ca41 rfl rfl (q8) (fid .nil) ?_)
      refine gye ?_ (hbw := by exact hb4); refine o1 (sne ?_); exact hK [_, _, _, _, _, _, _] rfl rfl
    case h2 =>
      intro hb4 hK; refine gno ?_ (hbw := by exact hb4); refine gno ?_ (hbw := by exact hb4); refine gno ?_ (hbw := by exact hb4); refine gno ?_ (hbw := by exact hb4); refine gno ?_ (hbw := by exact hb4); refine gno ?_ (hbw := by exact hb4)
      refine gno ?_ (hbw := by exact hb4); exact hK [_, _, _, _, _, _, _] rfl
    refine nx ?_; refine cd (fun h14 => ?_) (fun h14 => ?_)
    · simp only [nrm, Int.reduceEq, Int.reduceNe, Int.reduceLT, Int.reduceLE] at h14
    (try simp only [nrm, Int.reduceEq, Int.reduceNe, Int.reduceLT, Int.reduceLE] at h14); refine runs_skip ?_; refine inb_normal ?_; refine seq_normal ?_; refine kp [9, 5, 3] ?_; refine runs_region ?_; refine o1 (mv ?_); refine o1 (iad ?_)
    refine o1 (asg ?_); refine ops_nil ?_; refine seq_back ?_; refine back_i (i + 1) rfl ?_ ?_
    · exact ⟨by omega, by omega⟩
    · refine mo ?_ (sly (sly (sly slz)))
      repeat (first | exact boz | refine boc ?_)

theorem files_spec (hgl : glT g 2 = errTyD) (hg3 : g 3 = wordsD) (hg7 : g (laysM246_ren.g 17) = p10D) (e : D) (hge : (glT g) (laysC172_ren.g 15) = [e]) (he : ifcD e) (l : List Step) : TriD Tryz.prog (glT g) 5 [.sl 6 (steps l)] (· = .v (.bool true)) := by
  have hlen := steps_len l
  refine triD_of_runs Tryz.func5 rfl Tryz.ntmps5 (rs := [.tmp 2]) rfl rfl rfl ?_
  refine sr ?_; refine o1 (asg ?_); refine nx ?_; refine runs_seq ?_; refine sr ?_; refine o1 (asg ?_); refine nx ?_; refine runs_block ?_; refine kp [3, 0] ?_
  apply runs_loop_c (ι := Nat) (fun i => [(3, int i)]) [0] (fun i => i ≤ l.length ∧ i ≤ 1152921504606846976) (fun i => l.length - i) (0)
  case hk => exact rfl
  case hI =>
    exact ⟨Nat.zero_le _, by omega⟩
  case hm =>
    refine mo ?_ (sly (sly slz)); exact boz
  case h =>
    rintro i hinv
    try dsimp only at hinv
    refine kp [3, 0] ?_; refine runs_seq ?_; refine sr ?_; refine o1 (mv ?_); refine o1 (mv ?_); refine o1 (le1 us22 ?_); refine o1 (ilt ?_); refine o1 (mv ?_)
    apply ops_and (yt := 11) (d := 9) 2 rfl rfl rfl (.none rfl) rfl rfl
    case h1 =>
      intro hb9 hK
      have hc := hb9; (try simp only [nrm, Int.reduceEq, Int.reduceNe, Int.reduceLT, Int.reduceLE] at hc)
      refine gye ?_ (hbw := by exact hb9); refine o1 (mv ?_); refine gye ?_ (hbw := by exact hb9); refine o1 (ilt ?_); exact hK [_, _] rfl rfl
    case h2 =>
      intro hb9 hK; refine gno ?_ (hbw := by exact hb9); refine gno ?_ (hbw := by exact hb9); exact hK [_, _] rfl
    refine nx ?_; refine cdf (fun h2 => ?_) (fun h2 => ?_)
    · (try simp only [nrm, Int.reduceEq, Int.reduceNe, Int.reduceLT, Int.reduceLE] at h2)
      refine runs_exit ?_; refine seq_exit ?_; refine seq_exit ?_; refine inb_exit ?_; refine seq_normal ?_; refine kp [] ?_; refine sr ?_; refine o1 (asg ?_); refine nx ?_; refine runs_ret ?_; refine fin_ret ?_; refine fin_d1 rfl rfl ?_
      rfl
    (try simp only [nrm, Int.reduceEq, Int.reduceNe, Int.reduceLT, Int.reduceLE] at h2); refine runs_skip ?_; refine seq_normal ?_; refine runs_seq ?_; refine runs_block ?_; refine runs_seq ?_; refine kp [3, 0] ?_
    have hin : i < l.length := by omega
    refine runs_region ?_; refine o1 (mv ?_); refine o1 (mv ?_); refine o1 (ixs us22 te22 ?_ (he := by exact (step_at hin))); refine o1 (fdc ti25 ?_); refine o1 (ldc ti9 ?_)
    refine oc (cv ca8 rfl rfl (filed_spec hgl hg3 hg7 e hge he l[i].s) (fir .nil) ?_); refine o1 (asg ?_); refine nx ?_; refine kp [4, 3, 0] ?_; refine sr ?_; refine o1 (mv ?_); refine o1 (f_not ?_); refine nx ?_
    refine cd (fun h5 => ?_) (fun h5 => ?_)
    · simp only [nrm, Int.reduceEq, Int.reduceNe, Int.reduceLT, Int.reduceLE] at h5
    (try simp only [nrm, Int.reduceEq, Int.reduceNe, Int.reduceLT, Int.reduceLE] at h5); refine runs_skip ?_; refine inb_normal ?_; refine seq_normal ?_; refine runs_region ?_; refine o1 (mv ?_); refine o1 (iad ?_); refine o1 (asg ?_)
    refine ops_nil ?_; refine seq_back ?_; refine back_i (i + 1) rfl ?_ ?_
    · exact ⟨⟨by omega, by omega⟩, by omega⟩
    · refine mo ?_ (sly (sly slz))
      exact boz
end Go.Proofs.YtneaancanfpdhaaGreatDoor
namespace Go.Proofs.YtneaancanfpdhaaGreatDoor
open Go Go.Vd Go.RowKit Go.ChangeShapes Go.WideShapes

theorem own : ownKnob Tryz.prog.godebug = none := by kernel_rfl
def glP (es : Value) : Nat → List D := glT fun
  | 2 => errTyD
  | 3 => wordsD
  | 4 => [.v es]
  | 7 => p10D
  | _ => []
theorem globP_of {w : World} {es : Value} (h0 : DenC (memW w) 0 0 [strsD wordsT]) (h1 : DenC (memW w) 1 0 (wordsT.map fun s => .v (.string s))) (h2 : DenC (memW w) 2 0 errTyD) (h3 : DenC (memW w) 3 0 wordsD) (h4 : DenC (memW w) 4 0 [.v es]) (h7 : DenC (memW w) 7 0 p10D) : ∀ b, DenC (memW w) b 0 (glP es b)
  | 0 => h0
  | 1 => h1
  | 2 => h2
  | 3 => h3
  | 4 => h4
  | 5 => trivial
  | 6 => trivial
  | 7 => h7
  | _ + 8 => trivial
theorem e_et : Tryz.prog.globalNamed "errors.errorType" = some 2 := by kernel_rfl
theorem e_rt : (Tryz.prog.cutTypes.find? (·.1 == "internal/reflectlite.rtype")).map (·.2) = some 164 := by kernel_rfl
theorem e_oneRow : ((List.range 238).filter fun t => Tryz.prog.rowNamed t [101, 114, 114, 111, 114]) = [54] := by kernel_rfl
theorem e_size : Tryz.prog.types.size = 238 := by kernel_rfl

def litS (s : ByteArray) : DataW Unit := .lit (.string s.data.toList)
theorem str_lit {W : World} {n : Nat} {v : Value} {x : DataW Unit × List MemPlace} {s : ByteArray} {sp : Nat → Bool} {hd : Bool} (h : DataW.trod (fun _ => ()) Tryz.prog W 0 sp hd n 9 [v] = some x) (hx : x.1 = litS s) : v = .string s := by
  obtain ⟨s', h1, h2, _⟩ := DataW.trod_string ut9 h
  simp only [List.cons.injEq, and_true] at h1
  subst h1 h2
  simp only [litS, DataW.lit.injEq, Lit.string.injEq] at hx
  congr 1
  exact ByteArray.ext (Array.ext' hx)
theorem nth_lit {elems : List (DataW Unit × List MemPlace)} (h : elems.map (·.1) = wordsT.map litS) {i : Nat} (hi : i < wordsT.length) : ∃ x, elems[i]? = some x ∧ x.1 = litS wordsT[i] := by
  have hl := congrArg List.length h
  simp only [List.length_map] at hl
  have h1 := congrArg (fun l => l[i]?) h
  simp only [List.getElem?_map] at h1
  rw [List.getElem?_eq_getElem (show i < elems.length by omega), List.getElem?_eq_getElem hi] at h1
  exact ⟨elems[i], List.getElem?_eq_getElem (by omega), Option.some.inj h1⟩

theorem rwords_of {W : World} {cs : Array Value} {fuel : Nat} {p : List MemPlace} (hv : Tryz.prog.globalNamed "provekernel/provekernelref.words" = some 0) (hw : W.var? Tryz.prog "provekernel/provekernelref.words" = some cs)
    (hd : DataW.trod (fun _ => ()) Tryz.prog W 0 (fun _ => true) false fuel 42 cs.toList = some (Rows.laid_provekernel_provekernelref_words, p)) : DenC (memW W) 0 0 [strsD wordsT] := by
  have hcell := fun i => World.var?_cell hv hw i
  have hu := us42
  have he : (tiOf Tryz.prog 42).elem = 9 := by rw [ti42]
  rw [he] at hu
  have c9 : Tryz.prog.cellsOf 9 = 1 := by kernel_rfl
  have hwl : wordsT.length = 7 := rfl
  rcases DataW.trod_slice hu hd with ⟨_, h1⟩ | ⟨a, len, cap, elems, rest, n, _, hcs, ex, _, h2, _, h3, h4, _⟩
  · exact absurd (congrArg Prod.fst h1) (by intro h; cases h)
  · have ex1 : (DataW.slice (wordsT.map litS) [] : DataW Unit) = .slice (elems.map (·.1)) (rest.map (·.1)) := congrArg Prod.fst ex
    have ex2 := (DataW.slice.inj ex1).1.symm
    have hel : elems.length = 7 := by have := congrArg List.length ex2; simpa [hwl] using this
    have key : ∀ i : Nat, (hi : i < wordsT.length) → W.cell? (a.add (i * 1)) = some (.string wordsT[i]) := fun i hi => by
      obtain ⟨x, hx1, hx2⟩ := nth_lit ex2 hi
      have := h4 i (by omega)
      rw [c9, hx1] at this
      obtain ⟨us, hus, hst⟩ := Option.bind_eq_some_iff.1 this
      obtain ⟨_, hlen, hc⟩ := World.cells?_some hus
      match us, hlen with
      | [u], _ =>
        have := hc 0 (by decide)
        rw [str_lit hst hx2] at this
        simpa [Addr.add] using this
    have hsp : a.spot = none := by
      have := key 0 (by decide)
      have e : a.add (0 * 1) = a := by simp [Addr.add]
      rw [e] at this
      exact World.cell?_spot this
    obtain ⟨ab, ao, asp⟩ := a
    simp only at hsp; subst hsp
    have hc0 := hcell 0
    obtain ⟨l⟩ := cs
    simp only at hcs
    subst hcs
    refine ⟨⟨_, memW_of (hcell 0) rfl, some ⟨ab, ao, none⟩, cap, ?_, ?_, fun _ => ⟨ab, ao, rfl, denR_of (fun s => [.v (.string s)]) fun i x hx => ⟨rfl, ?_⟩⟩⟩, trivial⟩
    · rw [strs_len, hwl, ← h3, hel]; rfl
    · rw [strs_len]; omega
    · obtain ⟨hi, rfl⟩ := List.getElem?_eq_some_iff.1 hx
      have := key i hi
      rw [addr_add] at this
      exact ⟨⟨_, memW_of this rfl, rfl⟩, trivial⟩

set_option maxRecDepth 100000 in
theorem twords_of {W : World} {cs : Array Value} {fuel : Nat} {p : List MemPlace} (hv : Tryz.prog.globalNamed "provekernel/term.words" = some 1) (hw : W.var? Tryz.prog "provekernel/term.words" = some cs)
    (hd : DataW.trod (fun _ => ()) Tryz.prog W 0 (fun _ => true) false fuel 121 cs.toList = some (Rows.laid_provekernel_term_words, p)) : DenC (memW W) 1 0 (wordsT.map fun s => .v (.string s)) := by
  have hcell := fun i => World.var?_cell hv hw i
  have c9 : Tryz.prog.cellsOf 9 = 1 := by kernel_rfl
  have c86 : Tryz.prog.cellsOf 121 = 7 := by kernel_rfl
  have hwl : wordsT.length = 7 := rfl
  obtain ⟨xs, m, _, ex, hcl, hl, hel⟩ := DataW.trod_array ua121 hd
  have ex1 : (DataW.agg (wordsT.map litS) : DataW Unit) = .agg (xs.map (·.1)) := congrArg Prod.fst ex
  have ex2 := (DataW.agg.inj ex1).symm
  obtain ⟨l⟩ := cs
  rw [c86] at hcl
  rw [c9] at hel
  have key : ∀ i : Nat, (hi : i < wordsT.length) → l[i]? = some (.string wordsT[i]) := fun i hi => by
    obtain ⟨x, hx1, hx2⟩ := nth_lit ex2 hi
    have := hel i (by omega)
    rw [hx1] at this
    have hil : i < l.length := by have : l.length = 7 := hcl; omega
    have e : (List.take 1 (List.drop (i * 1) l)) = [l[i]] := by rw [Nat.mul_one, List.drop_eq_getElem_cons hil]; rfl
    rw [show (({ toList := l } : Array Value).toList.drop (i * 1)).take 1 = [l[i]] from e] at this
    rw [List.getElem?_eq_getElem hil, str_lit this hx2]
  have hc : ∀ (i : Nat) v, l[i]? = some v → v.oneCell' = true → memW W 1 i = some v := fun i v h h1 => memW_of (by
    have := hcell i
    simpa [h] using this) h1
  exact ⟨⟨_, hc 0 _ (key 0 (by decide)) rfl, rfl⟩, ⟨_, hc 1 _ (key 1 (by decide)) rfl, rfl⟩, ⟨_, hc 2 _ (key 2 (by decide)) rfl, rfl⟩, ⟨_, hc 3 _ (key 3 (by decide)) rfl, rfl⟩, ⟨_, hc 4 _ (key 4 (by decide)) rfl, rfl⟩, ⟨_, hc 5 _ (key 5 (by decide)) rfl, rfl⟩, ⟨_, hc 6 _ (key 6 (by decide)) rfl, rfl⟩, trivial⟩

set_option maxRecDepth 100000 in
theorem lwords_of {W : World} {cs : Array Value} {fuel : Nat} {p : List MemPlace} (hv : Tryz.prog.globalNamed "provekernel/level.words" = some 3) (hw : W.var? Tryz.prog "provekernel/level.words" = some cs)
    (hd : DataW.trod (fun _ => ()) Tryz.prog W 0 (fun _ => true) false fuel 155 cs.toList = some (Rows.laid_provekernel_level_words, p)) : DenC (memW W) 3 0 wordsD := by
  have hcell := fun i => World.var?_cell hv hw i
  have c9 : Tryz.prog.cellsOf 9 = 1 := by kernel_rfl
  have c86 : Tryz.prog.cellsOf 155 = 4 := by kernel_rfl
  obtain ⟨xs, m, _, ex, hcl, hl, hel⟩ := DataW.trod_array ua155 hd
  have ex1 : (DataW.agg ([⟨#[]⟩, ⟨#[115]⟩, ⟨#[109, 97, 120]⟩, ⟨#[105, 109, 97, 120]⟩].map litS) : DataW Unit) = .agg (xs.map (·.1)) := congrArg Prod.fst ex
  have ex2 := (DataW.agg.inj ex1).symm
  obtain ⟨l⟩ := cs
  rw [c86] at hcl
  rw [c9] at hel
  have key : ∀ (i : Nat) (s : ByteArray), ([⟨#[]⟩, ⟨#[115]⟩, ⟨#[109, 97, 120]⟩, ⟨#[105, 109, 97, 120]⟩] : List ByteArray)[i]? = some s → l[i]? = some (.string s) := fun i s hi => by
    have h1 := congrArg (fun l => l[i]?) ex2
    simp only [List.getElem?_map, hi, Option.map_some] at h1
    obtain ⟨x, hx1, hx2⟩ := Option.map_eq_some_iff.1 h1
    have hi4 : i < 4 := (List.getElem?_eq_some_iff.1 hi).1
    have := hel i hi4
    rw [hx1] at this
    have hil : i < l.length := by have : l.length = 4 := hcl; omega
    have e : (List.take 1 (List.drop (i * 1) l)) = [l[i]] := by rw [Nat.mul_one, List.drop_eq_getElem_cons hil]; rfl
    rw [show (({ toList := l } : Array Value).toList.drop (i * 1)).take 1 = [l[i]] from e] at this
    rw [List.getElem?_eq_getElem hil, str_lit this hx2]
  have hc : ∀ (i : Nat) v, l[i]? = some v → v.oneCell' = true → memW W 3 i = some v := fun i v h h1 => memW_of (by
    have := hcell i
    simpa [h] using this) h1
  exact ⟨⟨_, hc 0 _ (key 0 _ rfl) rfl, rfl⟩, ⟨_, hc 1 _ (key 1 _ rfl) rfl, rfl⟩, ⟨_, hc 2 _ (key 2 _ rfl) rfl, rfl⟩, ⟨_, hc 3 _ (key 3 _ rfl) rfl, rfl⟩, trivial⟩
theorem int_lit {W : World} {n : Nat} {v : Value} {x : DataW Unit × List MemPlace} {z : Int} {sp : Nat → Bool} {hd : Bool} (h : DataW.trod (fun _ => ()) Tryz.prog W 0 sp hd n 179 [v] = some x) (hx : x.1 = .lit (.int .u64 z)) : v = .int .u64 z := by
  obtain ⟨s', h1, h2, _⟩ := DataW.trod_int ui179 h
  simp only [List.cons.injEq, and_true] at h1
  subst h1 h2
  simp only [DataW.lit.injEq, Lit.int.injEq] at hx
  rw [hx.2]
theorem den_map {m : Mem} {b : Nat} {α : Type} (f : α → D) : ∀ {l : List α} {off : Nat}, (∀ (i : Nat) x, l[i]? = some x → ∃ v, m b (off + i) = some v ∧ (f x).Den m v) → DenC m b off (l.map f)
  | [], _, _ => trivial
  | x :: r, off, h => ⟨by simpa using h 0 x rfl, den_map f fun i y hy => by
      have := h (i + 1) y (by simpa using hy)
      rwa [show off + (i + 1) = off + 1 + i by omega] at this⟩
set_option maxRecDepth 100000 in
theorem p10_of {W : World} {cs : Array Value} {fuel : Nat} {p : List MemPlace} (hv : Tryz.prog.globalNamed "internal/strconv.uint64pow10" = some 7) (hw : W.var? Tryz.prog "internal/strconv.uint64pow10" = some cs)
    (hd : DataW.trod (fun _ => ()) Tryz.prog W 0 (fun _ => true) false fuel 197 cs.toList = some (Rows.laid_internal_strconv_uint64pow10, p)) : DenC (memW W) 7 0 p10D := by
  have hcell := fun i => World.var?_cell hv hw i
  have c9 : Tryz.prog.cellsOf 179 = 1 := by kernel_rfl
  have c86 : Tryz.prog.cellsOf 197 = 20 := by kernel_rfl
  obtain ⟨xs, m, _, ex, hcl, hl, hel⟩ := DataW.trod_array ua197 hd
  have ex1 : (DataW.agg (Lib.pow10Tab.map fun z => DataW.lit (.int .u64 z)) : DataW Unit) = .agg (xs.map (·.1)) := congrArg Prod.fst ex
  have ex2 := (DataW.agg.inj ex1).symm
  obtain ⟨l⟩ := cs
  rw [c86] at hcl
  rw [c9] at hel
  have key : ∀ (i : Nat) (z : Int), Lib.pow10Tab[i]? = some z → l[i]? = some (.int .u64 z) := fun i z hi => by
    have h1 := congrArg (fun l => l[i]?) ex2
    simp only [List.getElem?_map, hi, Option.map_some] at h1
    obtain ⟨x, hx1, hx2⟩ := Option.map_eq_some_iff.1 h1
    have hi4 : i < 20 := by have := (List.getElem?_eq_some_iff.1 hi).1; rwa [Lib.pow10Tab_length] at this
    have := hel i hi4
    rw [hx1] at this
    have hil : i < l.length := by have : l.length = 20 := hcl; omega
    have e : (List.take 1 (List.drop (i * 1) l)) = [l[i]] := by rw [Nat.mul_one, List.drop_eq_getElem_cons hil]; rfl
    rw [show (({ toList := l } : Array Value).toList.drop (i * 1)).take 1 = [l[i]] from e] at this
    rw [List.getElem?_eq_getElem hil, int_lit this hx2]
  have hc : ∀ (i : Nat) v, l[i]? = some v → v.oneCell' = true → memW W 7 i = some v := fun i v h h1 => memW_of (by
    have := hcell i
    simpa [h] using this) h1
  exact den_map _ fun i z hz => ⟨_, by rw [Nat.zero_add]; exact hc i _ (key i z hz) rfl, rfl⟩
theorem es_of {W : World} {cs : Array Value} {fuel : Nat} {p : List MemPlace} (hv : Tryz.prog.globalNamed "strconv.ErrSyntax" = some 4) (hw : W.var? Tryz.prog "strconv.ErrSyntax" = some cs)
    (hd : DataW.trod (fun _ => ()) Tryz.prog W 0 (fun _ => true) false fuel 54 cs.toList = some (Rows.laid_strconv_ErrSyntax, p)) : ∃ u v, DenC (memW W) 4 0 [.v (.iface u v)] := by
  have hu : ∃ ms, Tryz.prog.underlying 54 = some (.interface ms) := ⟨_, Tryz.underlying54⟩
  obtain ⟨ms, hu⟩ := hu
  obtain ⟨_, u, v, hcs, _, _⟩ := iface_of_trod hu hd
  obtain ⟨l⟩ := cs
  simp only at hcs
  subst hcs
  exact ⟨u, v, ⟨⟨_, memW_of (World.var?_cell hv hw 0) rfl, rfl⟩, trivial⟩⟩

theorem errTy_of {W : World} (e5 : W.var? Tryz.prog "errors.errorType" = some #[.iface 164 (.agg #[typeHandle Tryz.prog 54])]) : DenC (memW W) 2 0 errTyD := by
  have hh : typeHandle Tryz.prog 54 = .pointer (some ⟨10, 54, none⟩) := by kernel_rfl
  rw [hh] at e5
  exact ⟨⟨_, memW_of (World.var?_cell e_et e5 0) rfl, rfl⟩, trivial⟩

theorem glob_of_laid {W : World} (h : laidMetH Tryz.prog Rows.filesRow.laid W) : ∃ u v, ∀ b, DenC (memW W) b 0 (glP (.iface u v) b) := by
  have h' : laidMet Tryz.prog [("math/bits.deBruijn32tab", Rows.laid_math_bits_deBruijn32tab), ("math/bits.deBruijn64tab", Rows.laid_math_bits_deBruijn64tab), ("internal/strconv.uint64pow10", Rows.laid_internal_strconv_uint64pow10), ("provekernel/provekernelref.words", Rows.laid_provekernel_provekernelref_words), ("strconv.ErrRange", Rows.laid_strconv_ErrRange), ("strconv.ErrSyntax", Rows.laid_strconv_ErrSyntax), ("provekernel/level.words", Rows.laid_provekernel_level_words), ("provekernel/term.words", Rows.laid_provekernel_term_words)] W ∧ handlesMet Tryz.prog [("errors.errorType", Rows.laid_errors_errorType)] W := h
  obtain ⟨⟨ps, hL, _, _⟩, hH⟩ := h'
  obtain ⟨_, _, _, _, _, _, _, _, _, _, hL, _⟩ := hL
  obtain ⟨_, _, _, _, _, _, _, _, _, _, hL, _⟩ := hL
  obtain ⟨g3, t3, cs3, fu3, p3, q3, hg3, ht3, hv3, hd3, hL, _⟩ := hL
  obtain ⟨g4, t4, cs4, fu4, p4, q4, hg4, ht4, hv4, hd4, hL, _⟩ := hL
  obtain ⟨_, _, _, _, _, _, _, _, _, _, hL, _⟩ := hL
  obtain ⟨g6, t6, cs6, fu6, p6, q6, hg6, ht6, hv6, hd6, hL, _⟩ := hL
  obtain ⟨g5, t5, cs5, fu5, p5, q5, hg5, ht5, hv5, hd5, hL, _⟩ := hL
  obtain ⟨g7, t7, cs7, fu7, p7, q7, hg7, ht7, hv7, hd7, _, _⟩ := hL
  have n3 : Tryz.prog.globalNamed "internal/strconv.uint64pow10" = some 7 := by kernel_rfl
  have n4 : Tryz.prog.globalNamed "provekernel/provekernelref.words" = some 0 := by kernel_rfl
  have n5 : Tryz.prog.globalNamed "provekernel/level.words" = some 3 := by kernel_rfl
  have n6 : Tryz.prog.globalNamed "strconv.ErrSyntax" = some 4 := by kernel_rfl
  have n7 : Tryz.prog.globalNamed "provekernel/term.words" = some 1 := by kernel_rfl
  obtain rfl := Option.some.inj (n3.symm.trans hg3)
  obtain rfl := Option.some.inj (n4.symm.trans hg4)
  obtain rfl := Option.some.inj (n5.symm.trans hg5)
  obtain rfl := Option.some.inj (n6.symm.trans hg6)
  obtain rfl := Option.some.inj (n7.symm.trans hg7)
  obtain rfl := Option.some.inj ((show (Tryz.prog.globals[7]?).map (·.type) = some 197 by kernel_rfl).symm.trans ht3)
  obtain rfl := Option.some.inj ((show (Tryz.prog.globals[0]?).map (·.type) = some 42 by kernel_rfl).symm.trans ht4)
  obtain rfl := Option.some.inj ((show (Tryz.prog.globals[3]?).map (·.type) = some 155 by kernel_rfl).symm.trans ht5)
  obtain rfl := Option.some.inj ((show (Tryz.prog.globals[4]?).map (·.type) = some 54 by kernel_rfl).symm.trans ht6)
  obtain rfl := Option.some.inj ((show (Tryz.prog.globals[1]?).map (·.type) = some 121 by kernel_rfl).symm.trans ht7)
  obtain ⟨name, u, ty, e1, e2, e3, e4, e5⟩ := hH _ (List.mem_singleton.2 rfl)
  have en : name = [101, 114, 114, 111, 114] := (Option.some.inj e1).symm
  subst en
  obtain rfl := Option.some.inj (e_rt.symm.trans e2)
  have hm : ty ∈ (List.range 238).filter fun t => Tryz.prog.rowNamed t [101, 114, 114, 111, 114] := List.mem_filter.2 ⟨List.mem_range.2 (by rw [← e_size]; exact e3), e4⟩
  rw [e_oneRow] at hm
  obtain rfl := List.mem_singleton.1 hm
  obtain ⟨eu, ev, hes⟩ := es_of n6 hv6 hd6
  exact ⟨eu, ev, globP_of (rwords_of n4 hv4 hd4) (twords_of n7 hv7 hd7) (errTy_of e5) (lwords_of n5 hv5 hd5) hes (p10_of n3 hv3 hd3)⟩

theorem door_met (os : Os) (args : Array Value) : laidMetH Tryz.prog Rows.filesRow.laid ((World.doorLaid Tryz.prog 400 os).forCall (fun _ _ => 0) ⟨#[], args, []⟩).memory :=
  laidMetH_of_parts3 (fuel := 8) (laidMet_of_run' 8 (by kernel_rfl) (by kernel_rfl)) (by kernel_rfl) (by kernel_rfl)

set_option maxRecDepth 100000 in
theorem files_lifted (os : Os) (started : os.Started) (H : Type) (enc : TypeId × Value → H) :
    ReturnsInHanded {} Tryz.checked os 5 .any (fun w args => (Rows.filesSpec.pre enc Tryz.prog Tryz.f5 [] false w args ∧ laidMetH Tryz.prog Rows.filesRow.laid w) ∧ sizedMet enc Tryz.prog Tryz.f5 (OpenSpec.ofChange Rows.filesSpec) false w args)
      (Rows.filesSpec.post enc Tryz.prog Tryz.f5 false true false false) := by
  refine returnsInHanded_of_change_and (C := Tryz.checked) (X := fun w _ => laidMetH Tryz.prog Rows.filesRow.laid w) (fun _ _ _ hh h => h.of_heap hh) own started (by kernel_rfl) Tryz.func5
    (ChangeSpec.witness_shaped (enc := enc) (C := Tryz.checked) (os := os) (X := fun w _ => laidMetH Tryz.prog Rows.filesRow.laid w) false (World.doorLaid Tryz.prog 400 os) #[.slice none 0 0] 8 rfl (World.shaped_of_RefB (by kernel_rfl) (by kernel_rfl)) (by kernel_rfl) (by kernel_rfl) (by kernel_rfl) (door_met os _)) ?_
  intro W base args ds gs before hval0 hW _ _ hL _
  have hval : ∀ (j : Nat) t v, Tryz.f5.params[j]? = some t → args[j]? = some v → Value.okWide Tryz.prog W .any base t v := hval0
  have hW' := hW
  obtain ⟨p, q, hA0, hV, rfl, hfz, hnd⟩ := hW
  have hA : DataW.TrodAll enc Tryz.prog W 0 (fun _ => true) true Tryz.f5.params.toList args.toList ds p := hA0
  rw [Tryz.params5] at hA hval
  obtain ⟨v0, d0, rfl, rfl, h0⟩ := trodAll_one hA
  obtain ⟨rfl, rfl⟩ := trodVars_none hV
  obtain ⟨a, len, cap, rfl⟩ := okWide_slice us22 (hval 0 22 v0 rfl rfl)
  have h0' := h0
  obtain ⟨fuel, hf⟩ := h0
  obtain ⟨l, hl, hk⟩ := script_of_trod hf rfl
  obtain ⟨eu, ev, hglob⟩ := glob_of_laid hL
  have hcalls := calls_of_triD (w := W) (files_spec (g := _) rfl rfl rfl (.v (.iface eu ev)) rfl (fun m v h => .inr ⟨eu, ev, h⟩) l) hglob (vs := [.slice a len cap]) ⟨_, [], rfl, hl, rfl⟩
  simp only [List.append_nil] at hW'
  refine hcalls.mono fun e W' ⟨v, d, m, he, hv, hd, hb⟩ => ?_
  subst hd
  simp only [D.Den] at hv
  subst hv
  have hlt : ∀ x ∈ p, x.block < W.heap.size := DataW.TrodAll.lt hA
  refine ⟨_, he, [d0], [], p, [], p, [], hW', trodAll_mk1 (shut_bool ub4 _), ?_, rfl, hb.frame _, fun h => by cases h⟩
  exact trodAll_mk1 (hb.trod (by kernel_rfl) (by kernel_rfl) (of_decide_eq_true (by kernel_rfl)) h0' hlt)

theorem files_holds : Rows.FilesSaid :=
  OpenClaim.holds_of_wide 5 Tryz.f5 rfl rfl rfl rfl rfl rfl rfl ⟨rfl, rfl, rfl, rfl, rfl⟩ rfl rfl rfl rfl rfl (by kernel_rfl) Tryz.func5 (by kernel_rfl)
    (of_decide_eq_true (by kernel_rfl)) (by unfold Func.isWrapper; first | (rw [if_pos (by decide +kernel)]; kernel_rfl) | (rw [if_neg (by decide +kernel)]; exact ⟨rfl, rfl⟩))
    (fun os started H enc _ => files_lifted os started H enc)
theorem files_card_holds : Rows.FilesCardSaid :=
  Claim7.holds_tied_plain_at .later [] [.data, .data, .data, .handle, .data, .sentinel, .sentinel, .data, .widerDeep] true (true, "4b87d088401218a495192ad6640b326a3c358b6f959a5cc64254f0f310b3a94d") true
    files_holds (fun _ h => by cases h) (by kernel_rfl) (fun _ h => by cases h) files_row_tie rfl ⟨rfl, rfl⟩ (by kernel_rfl) rfl
    (fun f fn hf hfn => by
      obtain rfl : f = 5 := Option.some.inj ((show Tryz.prog.funcNamed "provekernel/provekernellaw.Files" = some 5 by kernel_rfl).symm.trans hf) |>.symm
      obtain rfl : fn = Tryz.f5 := (Option.some.inj (Tryz.func5.symm.trans hfn)).symm
      exact ⟨by kernel_rfl, fun j t ht => by
        rw [Tryz.params5] at ht
        have hm : t ∈ [22] := by simpa using Array.mem_of_getElem? ht
        have hall : ([22].all fun u => !Tryz.prog.wantsStandIn u) = true := by kernel_rfl
        exact (show Tryz.prog.wantsStandIn t = false by simpa using List.all_eq_true.1 hall t hm)⟩)
    (by kernel_rfl)
#print axioms files_card_holds
end Go.Proofs.YtneaancanfpdhaaGreatDoor
