/-
  What is proved here: contracts of the reference's reader: term, ParseTerm.
-/
import Derived.Test.YtneaancanfpdhaaGreatDoorYT1
set_option linter.unusedSimpArgs false
set_option linter.unusedVariables false
namespace Go.Proofs.YtneaancanfpdhaaGreatDoor
open Go Go.Vd Go.RowKit
attribute [local irreducible] Runs OpsR OpR FloatR AnyR

/-- the package's variables, the first two of them the words -/
def glT (g : Nat → List D) : Nat → List D
  | 0 => [strsD wordsT]
  | 1 => wordsT.map fun s => .v (.string s)
  | n + 2 => g (n + 2)
variable {g : Nat → List D}
theorem size_pos {s : ByteArray} (h : s ≠ .empty) : 0 < s.size := by
  rcases Nat.eq_zero_or_pos s.size with h1 | h1
  · exact absurd (ByteArray.size_eq_zero_iff.1 h1) h
  · exact h1

theorem fcode_n : fcode none = 0 := rfl
theorem fcode_none {f : Option Nat} : fcode f = 0 ↔ f = none := by cases f <;> simp [fcode]
theorem levels_stop {s : ByteArray} {r : RS} {m : Nat} (h : ¬ (fcode r.f = 0 ∧ ¬ peekR s r = ⟨#[41]⟩)) : levelsR m s r = ([], r) := by
  cases m with
  | zero => rfl
  | succ m => simp only [levelsR]; rw [if_neg (by rw [fcode_none] at h; exact h)]
theorem level_prog {s : ByteArray} {n : Nat} {r : RS} (hp : r.p ≤ s.size) (h1 : r.f = none) (h2 : (levelR (n + 1) s r).2.f = none) : r.p < (levelR (n + 1) s r).2.p := by
  obtain ⟨p, f⟩ := r
  simp only at h1 hp
  subst h1
  have hf : ∀ (q : RS) (x : Nat), (q.fail x).f ≠ none := by rintro ⟨a, f⟩ x; cases f <;> simp [RS.fail]
  have hat := tokR_at (s := s) hp
  have hnx : (tokR s p).1 ≠ .empty → p < (nextR s ⟨p, none⟩).2.p := fun h => by rw [nextR_ok h]; have := size_pos h; simp only; omega
  have hn1 := nextR_le (s := s) (r := ⟨p, none⟩) hp
  have hn2 := nextR_le (s := s) (r := (nextR s ⟨p, none⟩).2) hn1.2
  have hl1 := levelR_le (s := s) n (r := (nextR s (nextR s ⟨p, none⟩).2).2) hn2.2
  have hl2 := levelR_le (s := s) n (r := (levelR n s (nextR s (nextR s ⟨p, none⟩).2).2).2) hl1.2
  have ht1 := takeR_le (s := s) (w := ⟨#[41]⟩) hl1.2
  have ht2 := takeR_le (s := s) (w := ⟨#[41]⟩) hl2.2
  by_cases c0 : (tokR s p).1 = ⟨#[48]⟩
  · rw [levelR_zero c0]; exact hnx (by rw [c0]; decide)
  cases c1 : isNameB (tokR s p).1 with
  | true =>
    rw [levelR_name c0 c1]
    exact hnx (by intro e; rw [e] at c1; simp [isNameB] at c1)
  | false =>
    by_cases c2 : (tokR s p).1 = ⟨#[40]⟩
    · have h3 := hnx (by rw [c2]; decide)
      by_cases c3 : kindR (tokR s (nextR s ⟨p, none⟩).2.p).1 = 0
      · rw [levelR_kind c0 c1 c2 c3] at h2; exact absurd h2 (hf _ _)
      · by_cases c4 : kindR (tokR s (nextR s ⟨p, none⟩).2.p).1 = 1
        · rw [levelR_one c0 c1 c2 c4]; simp only at h3 ⊢; omega
        · rw [levelR_two c0 c1 c2 c3 c4]; simp only at h3 ⊢; omega
    · rw [levelR_else c0 c1 c2] at h2; exact absurd h2 (hf _ _)
theorem levels_step {s : ByteArray} {r0 r' : RS} {m : Nat} {acc : List Lvl} {x : Lvl} (hinv : r'.p ≤ s.size ∧ acc.length + m = s.size + 2 ∧ (r'.f = none → s.size - r'.p < m) ∧ levelsR (s.size + 2) s r0 = (acc ++ (levelsR m s r').1, (levelsR m s r').2))
    (h : fcode r'.f = 0 ∧ ¬ peekR s r' = ⟨#[41]⟩) (hX : (levelR (s.size + 1) s r').1 = x) :
    (levelR (s.size + 1) s r').2.p ≤ s.size ∧ (acc ++ [x]).length + (m - 1) = s.size + 2 ∧ ((levelR (s.size + 1) s r').2.f = none → s.size - (levelR (s.size + 1) s r').2.p < m - 1) ∧
      levelsR (s.size + 2) s r0 = (acc ++ [x] ++ (levelsR (m - 1) s (levelR (s.size + 1) s r').2).1, (levelsR (m - 1) s (levelR (s.size + 1) s r').2).2) := by
  rw [fcode_none] at h
  obtain ⟨h1, h2, h3, h4⟩ := hinv
  have hm := h3 h.1
  obtain ⟨m, rfl⟩ : ∃ k, m = k + 1 := ⟨m - 1, by omega⟩
  have hle := levelR_le (s := s) (s.size + 1) h1
  refine ⟨hle.2, by simp; omega, fun hf => by have := level_prog h1 h.1 hf; omega, ?_⟩
  rw [h4]
  simp only [levelsR]
  rw [if_pos h, ← hX]
  simp
theorem partsOf_le (k : Nat) : partsOf k ≤ 3 := by unfold partsOf; split; omega; split <;> omega

theorem term_spec (s : ByteArray) (hs : s.size ≤ 1099511627776) : ∀ (n : Nat) (r : RS), r.p ≤ s.size → s.size - r.p < n →
    Tri Tryz.prog (glT g) 42 [rdO s r] [.blk 0 0] fun out ob' => out = .ret (.d (termR n s r).1.d) ∧ ob' = [rdO s (termR n s r).2] := by
  intro n
  induction n with
  | zero => intro r _ h; omega
  | succ n ih =>
    intro r hp hn
    have hat := tokR_at (s := s) hp
    obtain ⟨p, f⟩ := r
    simp only at hat hp hn
    cases f with
    | some a =>
      refine triS_of_runs Tryz.func42 rfl Tryz.ntmps42 (rs := [.cell 2 31]) rfl rfl rfl 1 rfl ?_
      refine sr ?_; refine oc (T := fun _ => False) (alc ti31 ?_ (hl := by simp only [List.length_cons, List.length_nil, Nat.reduceAdd]; rfl)); refine nx ?_; refine sr ?_; refine o1 (mv ?_)
      refine oc (ck ca82 rfl rfl (token_spec s p (fcode (some a)) (fat (some a)) hs hp) [0] rfl (boc .nil) (fir .nil) ?_); refine o1 (mv ?_); refine o1 (ex2 ?_); refine o1 (ex2 ?_); refine o1 (ex2 ?_); refine o1 (asg ?_); refine o1 (asg ?_)
      refine o1 (asg ?_); refine nx ?_; refine runs_seq ?_; refine kp [5, 4, 3, 2, 0] ?_; refine sr ?_; refine o1 (mv ?_); refine o1 (ncb ?_); refine o1 (fdb ti71 ?_); refine o1 (fdb ti33 ?_); refine o1 (ldb ti3 ?_); refine o1 (ine ?_)
      refine nx ?_; refine cdf (fun h2 => ?_) (fun h2 => ?_)
      · simp only [nrm, Int.reduceEq, Int.reduceNe, Int.reduceLT, Int.reduceLE, fcode, fat] at h2
      (try simp only [nrm, Int.reduceEq, Int.reduceNe, Int.reduceLT, Int.reduceLE, fcode, fat] at h2); refine kp [2] ?_; refine sr ?_; refine o1 (bld ti31 ?_); refine oc (sto ti31 ?_); refine nx ?_; refine runs_ret ?_; refine seq_ret ?_
      refine fin_ret ?_; refine fin_odl ⟨_, _, rfl, (from_cell rfl rfl ti31 rfl rfl rfl rfl), rfl⟩ rfl (zeroT.d) (by repeat (first | exact .refl _ | exact .nil | refine .agg ?_ | refine .cons ?_ ?_)) ([0]) ([rdO s ⟨p, some a⟩]) rfl rfl rfl ?_ ?_
      · repeat (first | exact boz | refine boc ?_)
      · exact ⟨rfl, rfl⟩
    | none =>
      have hn1 := nextR_le (s := s) (r := ⟨p, none⟩) hp
      have hn2 := nextR_le (s := s) (r := (nextR s ⟨p, none⟩).2) hn1.2
      have hpos := size_pos (s := (tokR s p).1)
      have hash := tok_hash (s := s) hp
      have hwl : (strs wordsT).length = 7 := rfl
      have hwl2 : wordsT.length = 7 := rfl
      refine triS_of_runs Tryz.func42 rfl Tryz.ntmps42 (rs := [.cell 2 31]) rfl rfl rfl 1 rfl ?_
      refine sr ?_; refine oc (T := fun _ => False) (alc ti31 ?_ (hl := by simp only [List.length_cons, List.length_nil, Nat.reduceAdd]; rfl)); refine nx ?_; refine sr ?_; refine o1 (mv ?_)
      refine oc (ck ca82 rfl rfl (token_spec s p (fcode none) (fat none) hs hp) [0] rfl (boc .nil) (fir .nil) ?_); refine o1 (mv ?_); refine o1 (ex2 ?_); refine o1 (ex2 ?_); refine o1 (ex2 ?_); refine o1 (asg ?_); refine o1 (asg ?_)
      refine o1 (asg ?_); refine nx ?_; refine runs_seq ?_; refine kp [5, 4, 3, 2, 0] ?_; refine sr ?_; refine o1 (mv ?_); refine o1 (ncb ?_); refine o1 (fdb ti71 ?_); refine o1 (fdb ti33 ?_); refine o1 (ldb ti3 ?_); refine o1 (ine ?_)
      refine nx ?_; refine cd (fun h2 => ?_) (fun h2 => ?_)
      · simp only [nrm, Int.reduceEq, Int.reduceNe, Int.reduceLT, Int.reduceLE, fcode_n] at h2
      (try simp only [nrm, Int.reduceEq, Int.reduceNe, Int.reduceLT, Int.reduceLE, fcode_n] at h2); refine runs_skip ?_; refine seq_normal ?_; refine runs_seq ?_; refine kp [5, 4, 3, 2, 0] ?_; refine sr ?_; refine o1 (mv ?_); refine o1 (f_not ?_)
      refine o1 (mv ?_)
      apply ops_or (yt := 31) (d := 29) 2 rfl rfl rfl (.none rfl) rfl rfl
      case h1 =>
        intro hb4 hK
        have hc := hb4; (try simp only [nrm, Int.reduceEq, Int.reduceNe, Int.reduceLT, Int.reduceLE, fcode_n] at hc)
        refine gye ?_ (hbw := by exact hb4); refine o1 (mv ?_); refine gye ?_ (hbw := by exact hb4); refine o1 (seq1 ?_); exact hK [_, _] rfl rfl
      case h2 =>
        intro hb4 hK; refine gno ?_ (hbw := by exact hb4); refine gno ?_ (hbw := by exact hb4); exact hK [_, _] rfl
      refine o1 (mv ?_)
      apply ops_or (yt := 40) (d := 33) 7 rfl rfl rfl (.none rfl) rfl rfl
      case h1 =>
        intro hb12 hK
        have hc := hb12; (try simp only [nrm, Int.reduceEq, Int.reduceNe, Int.reduceLT, Int.reduceLE, fcode_n] at hc)
        refine gye ?_ (hbw := by exact hb12); refine o1 (mv ?_); refine gye ?_ (hbw := by exact hb12); refine o1 (byt ut9 ?_ (h01 := by have h1 := hpos hc.2; omega)); refine gye ?_ (hbw := by exact hb12); refine o1 (ine ?_)
        refine gye ?_ (hbw := by exact hb12); refine o1 (mv ?_)
        apply ops_and (yt := 39) (d := 37) 2 rfl rfl rfl (.yes rfl rfl rfl hb12) rfl rfl
        case h1 =>
          intro hb21 hK
          have hc := hb21; (try simp only [nrm, Int.reduceEq, Int.reduceNe, Int.reduceLT, Int.reduceLE, fcode_n] at hc)
          refine gye ?_ (hbw := by exact hb21); refine o1 (mv ?_); refine gye ?_ (hbw := by exact hb21); refine o1 (sne ?_); exact hK [_, _] rfl rfl
        case h2 =>
          intro hb21 hK; refine gno ?_ (hbw := by exact hb21); refine gno ?_ (hbw := by exact hb21); exact hK [_, _] rfl
        exact hK [_, _, _, _, _] rfl rfl
      case h2 =>
        intro hb12 hK; refine gno ?_ (hbw := by exact hb12); refine gno ?_ (hbw := by exact hb12); refine gno ?_ (hbw := by exact hb12); refine gno ?_ (hbw := by exact hb12); refine gud ?_; refine gud ?_; refine gno ?_ (hbw := by exact hb12)
        exact hK [_, _, _, _, _, _, _] rfl
      refine nx ?_; refine cd (fun h4 => ?_) (fun h4 => ?_)
      · (try simp only [nrm, Int.reduceEq, Int.reduceNe, Int.reduceLT, Int.reduceLE, fcode_n] at h4)
        refine kp [4, 2, 0] ?_; refine sr ?_; refine o1 (mv ?_); refine o1 (mv ?_); refine oc (ck ca83 rfl rfl (fail_spec s (tokR s p).2.1 ⟨p, none⟩) [0] rfl (boc .nil) (fir (fir .nil)) ?_); refine nx ?_; refine kp [2] ?_; refine sr ?_
        refine o1 (bld ti31 ?_); refine oc (sto ti31 ?_); refine nx ?_; refine runs_ret ?_; refine seq_ret ?_; refine fin_ret ?_
        refine fin_odl ⟨_, _, rfl, (from_cell rfl rfl ti31 rfl rfl rfl rfl), rfl⟩ rfl (zeroT.d) (by repeat (first | exact .refl _ | exact .nil | refine .agg ?_ | refine .cons ?_ ?_)) ([0]) ([rdO s ((RS.mk p none).fail (tokR s p).2.1)]) rfl rfl rfl ?_ ?_
        · repeat (first | exact boz | refine boc ?_)
        · rw [termR_bad (by rintro ⟨ha, hb⟩; rcases h4 with (h | h) | h; exact ha (tokR_empty h); exact ha h; rcases hb with hb | hb; exact h.1 hb; exact h.2 hb)]; exact ⟨rfl, rfl⟩
      (try simp only [nrm, Int.reduceEq, Int.reduceNe, Int.reduceLT, Int.reduceLE, fcode_n] at h4); refine runs_skip ?_; refine seq_normal ?_; refine kp [3, 2, 0] ?_; refine sr ?_; refine o1 (mv ?_)
      refine oc (ck ca84 rfl rfl (next_spec s ⟨p, none⟩ hs hp) [0] rfl (boc .nil) (fir .nil) ?_); refine nx ?_; refine runs_seq ?_; refine sr ?_; refine o1 (mv ?_); refine o1 (sne ?_); refine nx ?_; refine cd (fun h8 => ?_) (fun h8 => ?_)
      · (try simp only [nrm, Int.reduceEq, Int.reduceNe, Int.reduceLT, Int.reduceLE, fcode_n] at h8)
        refine runs_seq ?_; refine kp [3, 2] ?_
        have hh4 : headT (tokR s p).1 := ⟨h4.1.2, h4.2⟩
        have hh35 : byteAt (tokR s p).1 0 = 35 := by rcases h4.2 with h | h; exact h; exact absurd h h8
        have hhash := hash h4.1.2 hh35
        refine runs_region ?_; refine o1 (mv ?_); refine o1 (fl_sub_l ut9 rfl rfl rfl (by omega) ?_)
        refine oc (cv ca85 rfl rfl (number_spec ((tokR s p).1.extract 1 (tokR s p).1.size) (by rw [ByteArray.size_extract]; omega) hhash.2.2) (fir .nil) ?_); refine o1 (bld ti31 ?_); refine oc (sto ti31 ?_); refine nx ?_; refine runs_ret ?_
        refine seq_ret ?_; refine fin_ret ?_
        refine fin_odl ⟨_, _, rfl, (from_cell rfl rfl ti31 rfl rfl rfl rfl), rfl⟩ rfl ((Trm.mk 0 (numR ((tokR s p).1.extract 1 (tokR s p).1.size) ((tokR s p).1.extract 1 (tokR s p).1.size).size) .empty [] []).d) (by repeat (first | exact .refl _ | exact .nil | refine .agg ?_ | refine .cons ?_ ?_)) ([0]) ([rdO s (nextR s ⟨p, none⟩).2]) rfl rfl rfl ?_ ?_
        · repeat (first | exact boz | refine boc ?_)
        · rw [termR_num hh4 h8, show ((tokR s p).1.extract 1 (tokR s p).1.size).size = (tokR s p).1.size - 1 by rw [ByteArray.size_extract]; omega]; exact ⟨rfl, rfl⟩
      (try simp only [nrm, Int.reduceEq, Int.reduceNe, Int.reduceLT, Int.reduceLE, fcode_n] at h8); refine runs_skip ?_; refine seq_normal ?_; refine kp [2, 0] ?_; refine sr ?_; refine o1 (mv ?_)
      refine oc (ck ca82 rfl rfl (token_spec s (nextR s ⟨p, none⟩).2.p (fcode (nextR s ⟨p, none⟩).2.f) (fat (nextR s ⟨p, none⟩).2.f) hs hn1.2) [0] rfl (boc .nil) (fir .nil) ?_); refine o1 (mv ?_); refine o1 (ex2 ?_); refine o1 (ex2 ?_)
      refine o1 (ex2 ?_); refine o1 (asg ?_); refine o1 (asg ?_); refine o1 (asg ?_); refine nx ?_; refine kp [7, 6, 2, 0] ?_; refine sr ?_; refine o1 (asg ?_); refine nx ?_; refine runs_seq ?_; refine sr ?_; refine o1 (asg ?_); refine nx ?_
      refine runs_block ?_
      apply runs_loop_c (ι := Nat) (fun i => [(10, int i), (9, int (kindTo (tokR s (nextR s ⟨p, none⟩).2.p).1 i))]) [7, 6, 2, 0] (fun i => 1 ≤ i ∧ i ≤ 7) (fun i => 7 - i) (1)
      case hk => exact rfl
      case hI =>
        exact ⟨Nat.le_refl _, by omega⟩
      case hm =>
        refine mo ?_ (sly (slx rfl (by exact Fit.of_eq (by unfold kindTo; rw [show (if kindT (tokR s (nextR s ⟨p, none⟩).2.p).1 < 1 then kindT (tokR s (nextR s ⟨p, none⟩).2.p).1 else 0) = 0 by split <;> omega]; rfl)) (sly (sly (sly (sly slz))))))
        repeat (first | exact boz | refine boc ?_)
      case h =>
        rintro i hinv
        try dsimp only at hinv
        refine kp [10, 9, 7, 6, 2, 0] ?_; refine runs_seq ?_; refine sr ?_; refine o1 (mv ?_); refine o1 (ldc ti42 ?_); refine o1 (le1 us42 ?_); refine o1 (ilt ?_); refine nx ?_; refine cd (fun h13 => ?_) (fun h13 => ?_)
        · (try simp only [nrm, Int.reduceEq, Int.reduceNe, Int.reduceLT, Int.reduceLE, fcode_n] at h13)
          refine runs_skip ?_; refine seq_normal ?_; refine runs_seq ?_; refine runs_block ?_; refine kp [10, 9, 7, 6, 2, 0] ?_; refine sr ?_; refine o1 (ldc ti42 ?_); refine o1 (mv ?_)
          refine o1 (ixs us42 te42 ?_ (he := by exact (str_at (show i < wordsT.length by omega)))); refine o1 (ldc ti9 ?_); refine o1 (mv ?_); refine o1 (seq1 ?_); refine nx ?_; refine cdf (fun h15 => ?_) (fun h15 => ?_)
          · (try simp only [nrm, Int.reduceEq, Int.reduceNe, Int.reduceLT, Int.reduceLE, fcode_n] at h15)
            refine runs_skip ?_; refine inb_normal ?_; refine seq_normal ?_; refine kp [10, 9, 7, 6, 2, 0] ?_; refine runs_region ?_; refine o1 (mv ?_); refine o1 (iad ?_); refine o1 (asg ?_); refine ops_nil ?_; refine seq_back ?_
            refine back_i (i + 1) rfl ?_ ?_
            · exact ⟨⟨by omega, by omega⟩, by omega⟩
            · refine mo ?_ (sly (slx rfl (by exact Fit.of_eq (by (first | rw [kindTo_yes hinv.1 (by omega) h15] | rw [kindTo_no hinv.1 (by omega) h15]); rfl)) (sly (sly (sly (sly slz))))))
              repeat (first | exact boz | refine boc ?_)
          (try simp only [nrm, Int.reduceEq, Int.reduceNe, Int.reduceLT, Int.reduceLE, fcode_n] at h15); refine kp [10, 7, 6, 2, 0] ?_; refine runs_region ?_; refine o1 (mv ?_); refine o1 (asg ?_); refine ops_nil ?_; refine inb_normal ?_
          refine seq_normal ?_; refine runs_region ?_; refine o1 (mv ?_); refine o1 (iad ?_); refine o1 (asg ?_); refine ops_nil ?_; refine seq_back ?_; refine back_i (i + 1) rfl ?_ ?_
          · exact ⟨⟨by omega, by omega⟩, by omega⟩
          · refine mo ?_ (sly (slx rfl (by exact Fit.of_eq (by (first | rw [kindTo_yes hinv.1 (by omega) h15] | rw [kindTo_no hinv.1 (by omega) h15]); rfl)) (sly (sly (sly (sly slz))))))
            repeat (first | exact boz | refine boc ?_)
        (try simp only [nrm, Int.reduceEq, Int.reduceNe, Int.reduceLT, Int.reduceLE, fcode_n] at h13); refine runs_exit ?_; refine seq_exit ?_; refine seq_exit ?_; refine inb_exit ?_; refine seq_normal ?_; refine runs_seq ?_; refine runs_seq ?_
        refine kp [9, 7, 2, 0] ?_; obtain rfl : i = 7 := by omega
        rw [kindTo_7]
        have hkl := kindT_le (tokR s (nextR s ⟨p, none⟩).2.p).1
        generalize hk : kindT (tokR s (nextR s ⟨p, none⟩).2.p).1 = k at hkl ⊢
        refine runs_region ?_; refine o1 (mv ?_); refine o1 (ieq ?_); refine nx ?_; refine cd (fun h17 => ?_) (fun h17 => ?_)
        · (try simp only [nrm, Int.reduceEq, Int.reduceNe, Int.reduceLT, Int.reduceLE, fcode_n] at h17)
          refine sr ?_; refine o1 (mv ?_); refine o1 (mv ?_); refine oc (ck ca83 rfl rfl (fail_spec s (tokR s (nextR s ⟨p, none⟩).2.p).2.1 (nextR s ⟨p, none⟩).2) [0] rfl (boc .nil) (fir (fir .nil)) ?_); refine nx ?_; refine kp [2] ?_; refine sr ?_
          refine o1 (bld ti31 ?_); refine oc (sto ti31 ?_); refine nx ?_; refine runs_ret ?_; refine seq_ret ?_; refine fin_ret ?_
          refine fin_odl ⟨_, _, rfl, (from_cell rfl rfl ti31 rfl rfl rfl rfl), rfl⟩ rfl (zeroT.d) (by repeat (first | exact .refl _ | exact .nil | refine .agg ?_ | refine .cons ?_ ?_)) ([0]) ([rdO s ((nextR s ⟨p, none⟩).2.fail (tokR s (nextR s ⟨p, none⟩).2.p).2.1)]) rfl rfl rfl ?_ ?_
          · repeat (first | exact boz | refine boc ?_)
          · rw [termR_kind h8 (by omega)]; exact ⟨rfl, rfl⟩
        (try simp only [nrm, Int.reduceEq, Int.reduceNe, Int.reduceLT, Int.reduceLE, fcode_n] at h17); refine runs_skip ?_; refine seq_normal ?_; refine sr ?_; refine o1 (mv ?_)
        refine oc (ck ca84 rfl rfl (next_spec s (nextR s ⟨p, none⟩).2 hs hn1.2) [0] rfl (boc .nil) (fir .nil) ?_); refine nx ?_; refine kp [9, 2, 0] ?_; refine sr ?_; refine o1 (mv ?_); refine o1 (bld ti31 ?_)
        refine oc (T := fun _ => False) (alc ti31 ?_ (hl := by simp only [List.length_cons, List.length_nil, Nat.reduceAdd]; rfl)); refine oc (sto ti31 ?_); refine nx ?_; refine runs_seq ?_; refine runs_nilrow 31 5 rfl ?_; refine runs_region ?_
        refine o1 (asg ?_); refine nx ?_; refine runs_seq ?_; refine sr ?_; refine o1 (mv ?_); refine nx ?_; refine kp [83, 12, 11, 2, 0] ?_
        apply runs_cut_o (ι := ByteArray × List Lvl × RS) (fun ⟨nm, L, r3⟩ => [(12, int (partsOf k))]) (fun ⟨nm, L, r3⟩ => [rdO s r3, .cells [.d (.v (.int .i64 0)), .d (.v (.int .i64 0)), .d (.v (.string .empty)), .d (.v (.slice none 0 0)), .d (.v (.slice none 0 0))] 31, .cells [.d (.v (.int .i64 k)), .d (.v (.int .i64 0)), .d (.v (.string nm)), .own 3 3 (lvls L), .d (.v (.slice none 0 0))] 31, .row 45 3, .nilrow 31 5]) [11, 2, 0] (fun ⟨nm, L, r3⟩ => headR s k (nextR s (nextR s ⟨p, none⟩).2).2 = (nm, L, r3))
        case hk => exact rfl
        case h1 =>
          refine runs_block ?_; refine sr ?_; refine o1 (ieq ?_); refine o1 (asg ?_); refine nx ?_; refine cd (fun h24 => ?_) (fun h24 => ?_)
          · (try simp only [nrm, Int.reduceEq, Int.reduceNe, Int.reduceLT, Int.reduceLE, fcode_n] at h24)
            refine runs_seq ?_; refine kp [11, 2, 0] ?_; obtain ⟨k1, s1, a1, hX⟩ := Lvl.case (levelR (s.size + 1) s (nextR s (nextR s ⟨p, none⟩).2).2).1; refine a_start ?_ (hm := by exact mixed); refine A1 0 rfl (fdb ti31 ⟨_, rfl, ?_⟩)
            refine A1 1 rfl (ldb ti28 ⟨_, rfl, ?_⟩); refine A1 2 rfl (mv ⟨_, rfl, ?_⟩)
            refine A2 3 rfl (op_callo ca60 rfl rfl rfl rfl (level_spec s hs (s.size + 1) (nextR s (nextR s ⟨p, none⟩).2).2 hn2.2 (by omega)) [0] (boc .nil) rfl rfl rfl rfl (fir .nil) (fun s ob' hq => ?_) (fun s ob' hq => ?_))
            rotate_left
            · first | exact hq.elim | cases hq.1
            obtain ⟨hq1, rfl⟩ := hq; rw [hX] at hq1; cases hq1; refine ⟨_, _, _, _, _, rfl, rfl, rfl, rfl, rfl, ?_⟩
            refine A2 (T := fun _ => False) 4 rfl (op_lit sl28 [.tmp 89] ti45 rfl rfl rfl rfl rfl rfl rfl (by decide) (by decide) (by decide) (by simp only [List.length_cons, List.length_nil, Nat.reduceAdd]; rfl) rfl ?_)
            refine A2 (T := fun _ => False) 5 rfl (op_append_nil sl28 rfl rfl rfl rfl rfl rfl (by simp only [List.length_cons, List.length_nil, Nat.reduceAdd]; rfl) rfl rfl (by decide) (by simp) (by first | decide | (simp only [maxLen, List.length_cons, List.length_nil, List.length_append, List.length_map]; omega) | omega) rfl rfl rfl ?_)
            refine A1 6 rfl (fdb ti31 ⟨_, rfl, ?_⟩); refine A2 7 rfl (sto ti28 ?_); refine a_end ?_; refine seq_normal ?_; refine kp [11, 2, 0] ?_; refine runs_region ?_; refine o1 (asg ?_); refine ops_nil ?_; refine inb_normal ?_; refine seq_back ?_
            refine back_c ((.empty, [Lvl.mk k1 s1 a1], (levelR (s.size + 1) s (nextR s (nextR s ⟨p, none⟩).2).2).2)) rfl ?_ ([0, 1, 2, 5, 3]) ?_
            · unfold headR; rw [if_pos (by omega), hX]
            · refine mo ?_ (slx rfl (by exact Fit.of_eq (by unfold partsOf; first | (rw [if_pos (by omega)]; rfl) | (rw [if_neg (by omega), if_pos (by omega)]; rfl) | (rw [if_neg (by omega), if_neg (by omega)]; rfl))) (sly (sly (sly slz))))
              repeat (first | exact boz | refine boc ?_ | refine bor ?_ | refine bonn ?_)
          (try simp only [nrm, Int.reduceEq, Int.reduceNe, Int.reduceLT, Int.reduceLE, fcode_n] at h24); refine sr ?_; refine o1 (ieq ?_); refine o1 (asg ?_); refine nx ?_; refine cdf (fun h27 => ?_) (fun h27 => ?_)
          · (try simp only [nrm, Int.reduceEq, Int.reduceNe, Int.reduceLT, Int.reduceLE, fcode_n] at h27)
            refine runs_seq ?_; refine kp [83, 12, 11, 2, 0] ?_; refine runs_nilrow 45 3 rfl ?_; refine runs_region ?_; refine o1 (ieq ?_); refine o1 (asg ?_); refine nx ?_; refine cdf (fun h32 => ?_) (fun h32 => ?_)
            · (try simp only [nrm, Int.reduceEq, Int.reduceNe, Int.reduceLT, Int.reduceLE, fcode_n] at h32)
              refine runs_skip ?_; refine inb_normal ?_; refine seq_back ?_; refine back_c ((.empty, [], (nextR s (nextR s ⟨p, none⟩).2).2)) rfl ?_ ([0, 1, 2, 4, 3]) ?_
              · unfold headR; rw [if_neg (by omega), if_neg (by omega)]
              · refine mo ?_ (slx rfl (by exact Fit.of_eq (by unfold partsOf; first | (rw [if_pos (by omega)]; rfl) | (rw [if_neg (by omega), if_pos (by omega)]; rfl) | (rw [if_neg (by omega), if_neg (by omega)]; rfl))) (sly (sly (sly slz))))
                repeat (first | exact boz | exact fiz | refine boc ?_ | refine bonn ?_ | refine bon ?_ | refine boe ?_ ?_ | refine fir ?_ | refine .cons (.nil rfl) ?_)
            (try simp only [nrm, Int.reduceEq, Int.reduceNe, Int.reduceLT, Int.reduceLE, fcode_n] at h32); refine kp [11, 2, 0] ?_; refine runs_region ?_; refine o1 (asg ?_); refine ops_nil ?_; refine inb_normal ?_; refine seq_back ?_
            refine back_c ((.empty, [], (nextR s (nextR s ⟨p, none⟩).2).2)) rfl ?_ ([0, 1, 2, 4, 3]) ?_
            · unfold headR; rw [if_neg (by omega), if_neg (by omega)]
            · refine mo ?_ (slx rfl (by exact Fit.of_eq (by unfold partsOf; first | (rw [if_pos (by omega)]; rfl) | (rw [if_neg (by omega), if_pos (by omega)]; rfl) | (rw [if_neg (by omega), if_neg (by omega)]; rfl))) (sly (sly (sly slz))))
              repeat (first | exact boz | exact fiz | refine boc ?_ | refine bonn ?_ | refine bon ?_ | refine boe ?_ ?_ | refine fir ?_ | refine .cons (.nil rfl) ?_)
          (try simp only [nrm, Int.reduceEq, Int.reduceNe, Int.reduceLT, Int.reduceLE, fcode_n] at h27); refine runs_seq ?_; refine kp [11, 2, 0] ?_
          have hnm := nameR_le (s := s) (r := (nextR s (nextR s ⟨p, none⟩).2).2) hn2.2
          refine runs_region ?_; refine o1 (mv ?_); refine oc (ck ca86 rfl rfl (name_spec s (nextR s (nextR s ⟨p, none⟩).2).2 hs hn2.2) [0] rfl (boc .nil) (fir .nil) ?_); refine o1 (fdb ti31 ?_); refine oc (sto ti9 ?_); refine nx ?_; refine sr ?_
          refine o1 (asg ?_); refine nx ?_; refine runs_block ?_; refine kp [12, 11, 2, 0] ?_; refine runs_nilrow 45 3 rfl ?_
          apply runs_loop_o (ι := Nat × List Lvl × RS) (fun ⟨m, acc, r'⟩ => []) (fun ⟨m, acc, r'⟩ => [rdO s r', .cells [.d (.v (.int .i64 0)), .d (.v (.int .i64 0)), .d (.v (.string .empty)), .d (.v (.slice none 0 0)), .d (.v (.slice none 0 0))] 31, .cells [.d (.v (.int .i64 k)), .d (.v (.int .i64 0)), .d (.v (.string (nameR s (nextR s (nextR s ⟨p, none⟩).2).2).1)), .own 4 3 (lvls acc), .d (.v (.slice none 0 0))] 31, .nilrow 31 5, .row 45 3]) [12, 11, 2, 0] (fun ⟨m, acc, r'⟩ => r'.p ≤ s.size ∧ acc.length + m = s.size + 2 ∧ (r'.f = none → s.size - r'.p < m) ∧ levelsR (s.size + 2) s (nameR s (nextR s (nextR s ⟨p, none⟩).2).2).2 = (acc ++ (levelsR m s r').1, (levelsR m s r').2)) (fun ⟨m, acc, r'⟩ => m) ((s.size + 2, [], (nameR s (nextR s (nextR s ⟨p, none⟩).2).2).2)) ([0, 1, 2, 3, 4])
          case hk => exact rfl
          case hI =>
            exact ⟨hnm.2, by simp, fun _ => by omega, rfl⟩
          case hm =>
            refine mo ?_ (sly (sly (sly (sly slz))))
            repeat (first | exact boz | exact fiz | refine boc ?_ | refine bonn ?_ | refine bon ?_ | refine boe ?_ ?_ | refine fir ?_ | refine .cons (.nil rfl) ?_)
          case h =>
            rintro ⟨m, acc, r'⟩ hinv
            try dsimp only at hinv
            refine kp [12, 11, 2, 0] ?_; refine runs_seq ?_; refine sr ?_; refine o1 (mv ?_); refine o1 (ncb ?_); refine o1 (fdb ti71 ?_); refine o1 (fdb ti33 ?_); refine o1 (ldb ti3 ?_); refine o1 (ieq ?_); refine o1 (mv ?_)
            apply ops_and (yt := 107) (d := 104) 3 rfl rfl rfl (.none rfl) rfl rfl
            case h1 =>
              intro hb13 hK
              have hc := hb13; (try simp only [nrm, Int.reduceEq, Int.reduceNe, Int.reduceLT, Int.reduceLE, fcode_n] at hc)
              refine gye ?_ (hbw := by exact hb13); refine o1 (mv ?_); refine gye ?_ (hbw := by exact hb13); refine oc (ck ca87 rfl rfl (peek_spec s r' hs hinv.1) [0] rfl (boc .nil) (fir .nil) ?_); refine gye ?_ (hbw := by exact hb13); refine o1 (sne ?_)
              exact hK [_, _, _] rfl rfl
            case h2 =>
              intro hb13 hK; refine gno ?_ (hbw := by exact hb13); refine gno ?_ (hbw := by exact hb13); refine gno ?_ (hbw := by exact hb13); exact hK [_, _, _] rfl
            refine nx ?_; refine cdf (fun h30 => ?_) (fun h30 => ?_)
            · (try simp only [nrm, Int.reduceEq, Int.reduceNe, Int.reduceLT, Int.reduceLE, fcode_n] at h30)
              refine runs_exit ?_; refine seq_exit ?_; refine seq_exit ?_; refine inb_exit ?_; refine inb_normal ?_; refine seq_back ?_; refine back_c (((nameR s (nextR s (nextR s ⟨p, none⟩).2).2).1, acc, r')) rfl ?_ ([0, 1, 2, 4, 3]) ?_
              · unfold headR; rw [if_neg (by omega), if_pos (by omega), hinv.2.2.2, levels_stop (by rintro ⟨ha, hb⟩; rcases h30 with h | h; exact h ha; exact hb h), List.append_nil]
              · refine mo ?_ (slx rfl (by exact Fit.of_eq (by unfold partsOf; first | (rw [if_pos (by omega)]; rfl) | (rw [if_neg (by omega), if_pos (by omega)]; rfl) | (rw [if_neg (by omega), if_neg (by omega)]; rfl))) (sly (sly (sly slz))))
                repeat (first | exact boz | refine boc ?_ | refine bor ?_ | refine bonn ?_)
            (try simp only [nrm, Int.reduceEq, Int.reduceNe, Int.reduceLT, Int.reduceLE, fcode_n] at h30); refine runs_skip ?_; refine seq_normal ?_; refine runs_block ?_; refine kp [12, 11, 2, 0] ?_
            obtain ⟨k1, s1, a1, hX⟩ := Lvl.case (levelR (s.size + 1) s r').1
            have hm1 := hinv.2.2.1 (fcode_none.1 h30.1)
            have hln := lvls_len acc
            have hlast : lvls acc ++ [[.v (.int .i64 k1), .v (.string s1), .sl 3 (lvls a1)]] = lvls (acc ++ [Lvl.mk k1 s1 a1]) := by rw [lvls_app]; rfl
            refine a_start ?_ (hm := by exact mixed); refine A1 0 rfl (fdb ti31 ⟨_, rfl, ?_⟩); refine A1 1 rfl (ldb ti28 ⟨_, rfl, ?_⟩); refine A1 2 rfl (mv ⟨_, rfl, ?_⟩)
            refine A2 3 rfl (op_callo ca60 rfl rfl rfl rfl (level_spec s hs (s.size + 1) r' hinv.1 (by omega)) [0] (boc .nil) rfl rfl rfl rfl (fir .nil) (fun s ob' hq => ?_) (fun s ob' hq => ?_))
            rotate_left
            · first | exact hq.elim | cases hq.1
            obtain ⟨hq1, rfl⟩ := hq; rw [hX] at hq1; cases hq1; refine ⟨_, _, _, _, _, rfl, rfl, rfl, rfl, rfl, ?_⟩
            refine A2 (T := fun _ => False) 4 rfl (op_lit sl28 [.tmp 112] ti45 rfl rfl rfl rfl rfl rfl rfl (by decide) (by decide) (by decide) (by simp only [List.length_cons, List.length_nil, Nat.reduceAdd]; rfl) rfl ?_)
            refine A2 5 rfl (op_append sl28 rfl rfl rfl rfl rfl rfl rfl (.inl rfl) (by decide) (by simp) (by first | decide | (simp only [maxLen, List.length_cons, List.length_nil, List.length_append, List.length_map]; omega) | omega) rfl rfl rfl ?_)
            refine A1 6 rfl (fdb ti31 ⟨_, rfl, ?_⟩); refine A2 7 rfl (sto ti28 ?_); refine a_end ?_; refine inb_normal ?_; refine seq_back ?_
            rw [hlast]
            refine back_c ((m - 1, acc ++ [Lvl.mk k1 s1 a1], (levelR (s.size + 1) s r').2)) rfl ?_ ([0, 1, 2, 3, 4]) ?_
            · exact ⟨levels_step hinv h30 hX, show m - 1 < m by omega⟩
            · refine mo ?_ (sly (sly (sly (sly slz))))
              repeat (first | exact boz | refine boc ?_ | refine bor ?_ | refine bonn ?_)
        case h2 =>
          rintro ⟨nm, L, r3⟩ hcut
          try dsimp only at hcut
          refine kp [12, 11, 2, 0] ?_; refine runs_seq ?_; refine runs_seq ?_
          have hh3 := headR_le (s := s) k (r := (nextR s (nextR s ⟨p, none⟩).2).2) hn2.2
          rw [hcut] at hh3
          dsimp only at hh3
          have hpl := partsOf_le k
          refine runs_region ?_; refine o1 (asg ?_); refine nx ?_; refine runs_block ?_
          apply runs_loop_o (ι := Nat) (fun i => [(13, int i)]) (fun i => [rdO s (partsR (termR n s) i r3).2, .cells [.d (.v (.int .i64 0)), .d (.v (.int .i64 0)), .d (.v (.string .empty)), .d (.v (.slice none 0 0)), .d (.v (.slice none 0 0))] 31, .cells [.d (.v (.int .i64 k)), .d (.v (.int .i64 0)), .d (.v (.string nm)), .own 3 3 (lvls L), .own 4 5 (trms (partsR (termR n s) i r3).1)] 31, .row 45 3, .row 31 5]) [12, 11, 2, 0] (fun i => i ≤ partsOf k) (fun i => partsOf k - i) (0) ([0, 1, 2, 3, 4])
          case hk => exact rfl
          case hI =>
            exact Nat.zero_le _
          case hm =>
            refine mo ?_ (sly (sly (sly (sly (sly slz)))))
            repeat (first | exact boz | exact fiz | refine boc ?_ | refine bor ?_ | refine bon ?_ | refine boe ?_ ?_ | refine fir ?_ | refine .cons (.nil rfl) ?_)
          case h =>
            rintro i hinv
            try dsimp only at hinv
            refine kp [13, 12, 11, 2, 0] ?_; refine runs_seq ?_; refine sr ?_; refine o1 (mv ?_); refine o1 (mv ?_); refine o1 (ilt ?_); refine nx ?_; refine cdf (fun h35 => ?_) (fun h35 => ?_)
            · (try simp only [nrm, Int.reduceEq, Int.reduceNe, Int.reduceLT, Int.reduceLE, fcode_n] at h35)
              refine runs_exit ?_; refine seq_exit ?_; refine seq_exit ?_; refine inb_exit ?_; refine seq_normal ?_; refine kp [11, 2, 0] ?_; refine sr ?_; refine o1 (mv ?_)
              refine oc (ck ca88 rfl rfl (take_spec s ⟨#[41]⟩ (partsR (termR n s) i r3).2 hs (partsR_le (s := s) (f := termR n s) (fun r hr => termR_le n r hr) i hh3.2).2) [0] rfl (boc .nil) (fir (fir .nil)) ?_); refine nx ?_; refine sr ?_
              refine o1 (ldb ti31 ?_); refine oc (sto ti31 ?_); refine nx ?_; refine runs_ret ?_; refine fin_ret ?_; obtain rfl : i = partsOf k := by omega
              refine fin_odl ⟨_, _, rfl, (from_cell rfl rfl ti31 rfl rfl rfl rfl), rfl⟩ rfl ((Trm.mk k 0 nm L (partsR (termR n s) (partsOf k) r3).1).d) (by exact .refl _) ([0]) ([rdO s (takeR s ⟨#[41]⟩ (partsR (termR n s) (partsOf k) r3).2)]) rfl rfl rfl ?_ ?_
              · repeat (first | exact boz | refine boc ?_)
              · rw [termR_node h8 hk (by omega) hcut]; exact ⟨rfl, rfl⟩
            (try simp only [nrm, Int.reduceEq, Int.reduceNe, Int.reduceLT, Int.reduceLE, fcode_n] at h35); refine runs_skip ?_; refine seq_normal ?_; refine runs_seq ?_; refine runs_block ?_
            have hpp := partsR_le (s := s) (f := termR n s) (fun r hr => termR_le n r hr) i hh3.2
            obtain ⟨k2, n2, s2, l2, a2', hX⟩ := Trm.case (termR n s (partsR (termR n s) i r3).2).1
            have hln : (trms (partsR (termR n s) i r3).1).length = i := by rw [trms_len, partsR_len]
            have hlast : trms (partsR (termR n s) i r3).1 ++ [[.v (.int .i64 k2), .v (.int .i64 n2), .v (.string s2), .sl 3 (lvls l2), .sl 5 (trms a2')]] = trms (partsR (termR n s) (i + 1) r3).1 := by simp only [partsR]; rw [hX, trms_app]; rfl
            have hpr : p < (nextR s ⟨p, none⟩).2.p := by rw [nextR_ok (by rw [h8]; decide), h8]; simp only; have : (ByteArray.mk #[40]).size = 1 := rfl; omega
            refine a_start ?_ (hm := by exact mixed); refine A1 0 rfl (fdb ti31 ⟨_, rfl, ?_⟩); refine A1 1 rfl (ldb ti29 ⟨_, rfl, ?_⟩); refine A1 2 rfl (mv ⟨_, rfl, ?_⟩)
            refine A2 3 rfl (op_callo ca42 rfl rfl rfl rfl (ih (partsR (termR n s) i r3).2 hpp.2 (by omega)) [0] (boc .nil) rfl rfl rfl rfl (fir .nil) (fun s ob' hq => ?_) (fun s ob' hq => ?_))
            rotate_left
            · first | exact hq.elim | cases hq.1
            obtain ⟨hq1, rfl⟩ := hq; rw [hX] at hq1; cases hq1; refine ⟨_, _, _, _, _, rfl, rfl, rfl, rfl, rfl, ?_⟩
            refine A2 (T := fun _ => False) 4 rfl (op_lit sl29 [.tmp 126] ti31 rfl rfl rfl rfl rfl rfl rfl (by decide) (by decide) (by decide) (by simp only [List.length_cons, List.length_nil, Nat.reduceAdd]; rfl) rfl ?_)
            refine A2 5 rfl (op_append sl29 rfl rfl rfl rfl rfl rfl rfl (.inl rfl) (by decide) (by simp) (by first | decide | (simp only [maxLen, List.length_cons, List.length_nil, List.length_append, List.length_map]; omega) | omega) rfl rfl rfl ?_)
            refine A1 6 rfl (fdb ti31 ⟨_, rfl, ?_⟩); refine A2 7 rfl (sto ti29 ?_); refine a_end ?_; refine inb_normal ?_; refine seq_normal ?_; refine kp [13, 12, 11, 2, 0] ?_; refine runs_region ?_; refine o1 (mv ?_); refine o1 (iad ?_)
            refine o1 (asg ?_); refine ops_nil ?_; refine seq_back ?_
            rw [hlast]
            refine back_c (i + 1) rfl ?_ ([0, 1, 2, 3, 4]) ?_
            · exact ⟨by omega, by omega⟩
            · refine mo ?_ (sly (sly (sly (sly (sly slz)))))
              repeat (first | exact boz | refine boc ?_ | refine bor ?_)
end Go.Proofs.YtneaancanfpdhaaGreatDoor
